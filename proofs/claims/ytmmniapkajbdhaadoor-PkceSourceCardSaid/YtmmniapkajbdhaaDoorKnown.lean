/- Whether a list holds an identifier; a Fresh of the document, walked. -/
import Derived.Test.YtmmniapkajbdhaaDoorRefSrc
import Derived.Lib.SlicesS
namespace Go.Proofs.YtmmniapkajbdhaaDoor
open Go.RowKit
/-- does the list hold it -/
def holdsB (S : List ByteArray) (id : ByteArray) : Bool := S.any fun z => decide (z = id)
theorem holdsB_yes {S : List ByteArray} {id : ByteArray} (h : id ∈ S) : holdsB S id = true := List.any_eq_true.2 ⟨id, h, decide_eq_true rfl⟩
theorem holdsB_no {S : List ByteArray} {id : ByteArray} (h : id ∉ S) : holdsB S id = false := by
  cases hq : holdsB S id
  · rfl
  · obtain ⟨z, hz, he⟩ := List.any_eq_true.1 hq
    rw [of_decide_eq_true he] at hz
    exact absurd hz h
set_option maxHeartbeats 1000000 in
theorem known_any (S : List ByteArray) (id : ByteArray) (vb : Option Addr) (vc : Nat) (w : World) (B : Nat) (hS : w.ownsRow B 9 1 (.slice vb S.length vc) S.length (strs S)) (hn : S.length ≤ 140737488351232) :
    Calls Tryd.prog 18 #[.slice vb S.length vc, .string id] w fun e w' => e = .returned (.bool (holdsB S id)) ∧ w = w' := by
  have HO := Lib.hid hS
  clear hS
  obtain ⟨n, hn'⟩ : ∃ n, n = S.length := ⟨_, rfl⟩
  rw [← hn'] at HO hn ⊢
  have HN := Lib.hid hn'
  clear hn'
  go_enter Tryd.func18, Tryd.ntmps18
  go_wp2
  go_loop [5] (fun i => ∃ k : Nat, k ≤ n ∧ i = .int .i64 k ∧ Hid (id ∉ S.take k)) (fun i => n - (intOf i).toNat)
  case atStart => exact ⟨0, Nat.zero_le _, rfl, Lib.hid (by simp)⟩
  case round =>
    obtain ⟨k, hk, rfl, HK⟩ := hrel
    by_cases hlt : k < n
    · obtain ⟨gw, capw, hvw, _, _⟩ := HO.out.form (by omega)
      injection hvw with hvw _ _
      subst hvw
      have hks : k < S.length := by have := HN.out; omega
      have c0 : w.cell? ⟨gw, k, none⟩ = some (.string S[k]) := by
        have h := HO.out.cells (g := gw) rfl k (.string S[k]) (by simp [strs, hks])
        have hadd : (⟨gw, 0, none⟩ : Addr).add k = ⟨gw, k, none⟩ := by unfold Addr.add; split <;> simp_all
        rwa [hadd] at h
      have j0 : (0 : Int) ≤ (k : Int) := by omega
      have j1 : (k : Int) < (n : Int) := by omega
      by_cases he : S[k] = id
      · have hm : holdsB S id = true := holdsB_yes (by rw [← he]; exact List.getElem_mem hks)
        have HM := Lib.hid hm
        clear hm
        generalize S[k] = z at *
        subst he
        go_wp2
        go_ret
        exact ⟨by rw [HM.out]; rfl, rfl⟩
      · have hq : (S[k].toList == id.toList) = false := (Lib.bytes_beq_false_iff _ _).2 he
        have HK2 : Hid (id ∉ S.take (k + 1)) := Lib.hid (by
          rw [List.take_add_one, List.getElem?_eq_getElem hks]
          intro hm
          rcases List.mem_append.1 hm with h | h
          · exact HK.out h
          · simp at h; exact he h.symm)
        generalize S[k] = z at *
        clear he
        go_wp2
        go_round
        case rel => exact ⟨k + 1, by omega, by go_num, HK2⟩
        case measure => simp [intOf]; omega
    · have hm : holdsB S id = false := holdsB_no (by
        have h := HK.out
        rwa [List.take_of_length_le (by have := HN.out; omega)] at h)
      have HM := Lib.hid hm
      clear hm
      go_wp2
      go_ret
      exact ⟨by rw [HM.out]; rfl, rfl⟩
end Go.Proofs.YtmmniapkajbdhaaDoor
