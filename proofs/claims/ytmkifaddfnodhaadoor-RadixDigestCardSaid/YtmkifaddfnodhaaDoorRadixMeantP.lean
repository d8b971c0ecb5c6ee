/- Letters that are looked up one behind the other. -/
import Derived.Test.YtmkifaddfnodhaaDoorRadixLetters
import Derived.Test.YtmkifaddfnodhaaDoorRadixFindP
namespace Go.Proofs.YtmkifaddfnodhaaDoor
open Go.RowKit
/-- the whole bytes of a row of bits -/
def octs (L : List Nat) : List (BitVec 8) := (List.range (L.length / 8)).map fun m => BitVec.ofNat 8 (URadix.grp L (8 * m) 8)
theorem octs_length (L : List Nat) : (octs L).length = L.length / 8 := by simp [octs]
theorem octs_step (L : List Nat) (m g : Nat) (hm : m < L.length / 8) (hg : g = URadix.grp L (8 * m) 8) : (octs L).take (m + 1) = (octs L).take m ++ [BitVec.ofNat 8 g] := by
  apply take_snoc
  unfold octs
  rw [List.getElem?_map, List.getElem?_range hm, hg]; rfl
theorem allIn_take_succ (al s : List (BitVec 8)) (k : Nat) (c : BitVec 8) (hc : s[k]? = some c) : URadix.allIn al (s.take (k + 1)) = (URadix.allIn al (s.take k) && (URadix.place al c).isSome) := by
  rw [take_snoc s k c hc, URadix.allIn_append]
  simp [URadix.allIn]
theorem allIn_take_false {al s : List (BitVec 8)} {k : Nat} {c : BitVec 8} (hc : s[k]? = some c) (hp : URadix.place al c = none) : URadix.allIn al s = false := by
  unfold URadix.allIn
  rw [List.all_eq_false]
  exact ⟨c, List.mem_of_getElem? hc, by rw [hp]; simp⟩
theorem numsOf_take_succ (al s : List (BitVec 8)) (k : Nat) (c : BitVec 8) (v : Nat) (hc : s[k]? = some c) (hp : URadix.place al c = some v) : (URadix.numsOf al s).take (k + 1) = (URadix.numsOf al s).take k ++ [v] := by
  apply take_snoc
  unfold URadix.numsOf
  rw [List.getElem?_map, hc]
  simp [hp]
end Go.Proofs.YtmkifaddfnodhaaDoor
