/- Bytes as letters and back, in plain words: bits, groups of them, the numbers of letters; what is read is what was written. -/
import Derived.Test.YtmmniapkajbdhaaDoorBv
namespace Go.Proofs.YtmmniapkajbdhaaDoor.URadix
abbrev B8 := BitVec 8
/-- the byte at a place, 0 behind the end -/
def at' (p : List B8) (i : Nat) : Nat := (p.getD i 0#8).toNat
theorem at'_lt (p : List B8) (i : Nat) : at' p i < 256 := (p.getD i 0#8).isLt
/-- bit k (the highest first) of a number of n bits -/
def bitOf (n v k : Nat) : Nat := v / 2 ^ (n - 1 - k) % 2
def bitList (n v : Nat) : List Nat := (List.range n).map (bitOf n v)
theorem bitList_length (n v : Nat) : (bitList n v).length = n := by simp [bitList]
/-- the bits of numbers of n bits each -/
def bitsOf (n : Nat) (l : List Nat) : List Nat := l.flatMap (bitList n)
theorem bitsOf_length (n : Nat) (l : List Nat) : (bitsOf n l).length = n * l.length := by
  induction l with
  | nil => rfl
  | cons a l ih => rw [bitsOf, List.flatMap_cons, List.length_append, bitList_length, ← bitsOf, ih, List.length_cons, Nat.mul_succ, Nat.add_comm]
theorem bitsOf_snoc (n : Nat) (l : List Nat) (a : Nat) : bitsOf n (l ++ [a]) = bitsOf n l ++ bitList n a := by simp [bitsOf]
theorem bitsOf_at (n : Nat) (l : List Nat) (m t : Nat) (ht : t < n) (h0 : ∀ k, bitOf n 0 k = 0) : (bitsOf n l).getD (n * m + t) 0 = bitOf n (l.getD m 0) t := by
  induction l generalizing m with
  | nil => simp [bitsOf, h0]
  | cons a l ih =>
    rw [List.getD_eq_getElem?_getD, show bitsOf n (a :: l) = bitList n a ++ bitsOf n l from rfl]
    cases m with
    | zero =>
      rw [List.getElem?_append_left (by rw [bitList_length]; omega)]
      simp [bitList, ht]
    | succ m =>
      rw [List.getElem?_append_right (by rw [bitList_length, Nat.mul_succ]; omega), bitList_length, show n * (m + 1) + t - n = n * m + t by rw [Nat.mul_succ]; omega, ← List.getD_eq_getElem?_getD, ih]
      simp
theorem bitOf_zero (n k : Nat) : bitOf n 0 k = 0 := by simp [bitOf]
/-- n bits from a place on, as a number -/
def grp (l : List Nat) (i : Nat) : Nat → Nat
  | 0 => 0
  | k + 1 => 2 * grp l i k + l.getD (i + k) 0
theorem grp_lt (l : List Nat) (hl : ∀ i, l.getD i 0 ≤ 1) (i n : Nat) : grp l i n < 2 ^ n := by
  induction n with
  | zero => simp [grp]
  | succ n ih => have := hl (i + n); simp only [grp, Nat.pow_succ]; omega
theorem bitsOf_le (n : Nat) (hn : 0 < n) (l : List Nat) (i : Nat) : (bitsOf n l).getD i 0 ≤ 1 := by
  have h := bitsOf_at n l (i / n) (i % n) (Nat.mod_lt _ hn) (bitOf_zero n)
  rw [Nat.div_add_mod] at h
  rw [h]
  unfold bitOf
  omega
def nums (p : List B8) : List Nat := p.map BitVec.toNat
theorem nums_at (p : List B8) (i : Nat) : (nums p).getD i 0 = at' p i := by
  unfold nums at'
  rw [List.getD_eq_getElem?_getD, List.getElem?_map, List.getD_eq_getElem?_getD]
  cases p[i]? <;> rfl
/-- a letter's number at a place, of the text p written in letters of six bits -/
def encAt (p : List B8) (j : Nat) : Nat :=
  if j % 4 = 0 then at' p (3 * (j / 4)) / 4
  else if j % 4 = 1 then at' p (3 * (j / 4)) % 4 * 16 + at' p (3 * (j / 4) + 1) / 16
  else if j % 4 = 2 then at' p (3 * (j / 4) + 1) % 16 * 4 + at' p (3 * (j / 4) + 2) / 64
  else at' p (3 * (j / 4) + 2) % 64
theorem encAt_lt (p : List B8) (j : Nat) : encAt p j < 64 := by
  have h0 := at'_lt p (3 * (j / 4))
  have h1 := at'_lt p (3 * (j / 4) + 1)
  have h2 := at'_lt p (3 * (j / 4) + 2)
  unfold encAt
  split
  · omega
  · split
    · omega
    · split <;> omega
theorem bits_at (p : List B8) (m t : Nat) (ht : t < 8) : (bitsOf 8 (nums p)).getD (8 * m + t) 0 = at' p m / 2 ^ (7 - t) % 2 := by
  rw [bitsOf_at 8 _ m t ht (bitOf_zero 8), nums_at]; rfl
theorem grp_enc (p : List B8) (j : Nat) : grp (bitsOf 8 (nums p)) (6 * j) 6 = encAt p j := by
  have h0 := at'_lt p (3 * (j / 4))
  have h1 := at'_lt p (3 * (j / 4) + 1)
  have h2 := at'_lt p (3 * (j / 4) + 2)
  obtain ⟨q, hq⟩ : ∃ q, q = j / 4 := ⟨_, rfl⟩
  rw [← hq] at h0 h1 h2
  unfold encAt
  rw [← hq]
  simp only [grp]
  have hr : j % 4 = 0 ∨ j % 4 = 1 ∨ j % 4 = 2 ∨ j % 4 = 3 := by omega
  rcases hr with h | h | h | h
  · rw [if_pos h, show 6 * j + 0 = 8 * (3 * q) + 0 by omega, show 6 * j + 1 = 8 * (3 * q) + 1 by omega, show 6 * j + 2 = 8 * (3 * q) + 2 by omega, show 6 * j + 3 = 8 * (3 * q) + 3 by omega, show 6 * j + 4 = 8 * (3 * q) + 4 by omega, show 6 * j + 5 = 8 * (3 * q) + 5 by omega,
      bits_at _ _ _ (by omega), bits_at _ _ _ (by omega), bits_at _ _ _ (by omega), bits_at _ _ _ (by omega), bits_at _ _ _ (by omega), bits_at _ _ _ (by omega)]
    omega
  · rw [if_neg (by omega), if_pos h, show 6 * j + 0 = 8 * (3 * q) + 6 by omega, show 6 * j + 1 = 8 * (3 * q) + 7 by omega, show 6 * j + 2 = 8 * (3 * q + 1) + 0 by omega, show 6 * j + 3 = 8 * (3 * q + 1) + 1 by omega, show 6 * j + 4 = 8 * (3 * q + 1) + 2 by omega, show 6 * j + 5 = 8 * (3 * q + 1) + 3 by omega,
      bits_at _ _ _ (by omega), bits_at _ _ _ (by omega), bits_at _ _ _ (by omega), bits_at _ _ _ (by omega), bits_at _ _ _ (by omega), bits_at _ _ _ (by omega)]
    omega
  · rw [if_neg (by omega), if_neg (by omega), if_pos h, show 6 * j + 0 = 8 * (3 * q + 1) + 4 by omega, show 6 * j + 1 = 8 * (3 * q + 1) + 5 by omega, show 6 * j + 2 = 8 * (3 * q + 1) + 6 by omega, show 6 * j + 3 = 8 * (3 * q + 1) + 7 by omega, show 6 * j + 4 = 8 * (3 * q + 2) + 0 by omega, show 6 * j + 5 = 8 * (3 * q + 2) + 1 by omega,
      bits_at _ _ _ (by omega), bits_at _ _ _ (by omega), bits_at _ _ _ (by omega), bits_at _ _ _ (by omega), bits_at _ _ _ (by omega), bits_at _ _ _ (by omega)]
    omega
  · rw [if_neg (by omega), if_neg (by omega), if_neg (by omega), show 6 * j + 0 = 8 * (3 * q + 2) + 2 by omega, show 6 * j + 1 = 8 * (3 * q + 2) + 3 by omega, show 6 * j + 2 = 8 * (3 * q + 2) + 4 by omega, show 6 * j + 3 = 8 * (3 * q + 2) + 5 by omega, show 6 * j + 4 = 8 * (3 * q + 2) + 6 by omega, show 6 * j + 5 = 8 * (3 * q + 2) + 7 by omega,
      bits_at _ _ _ (by omega), bits_at _ _ _ (by omega), bits_at _ _ _ (by omega), bits_at _ _ _ (by omega), bits_at _ _ _ (by omega), bits_at _ _ _ (by omega)]
    omega
/-- the numbers of the letters of the text p -/
def enc (p : List B8) : List Nat := (List.range ((8 * p.length + 5) / 6)).map (encAt p)
theorem enc_length (p : List B8) : (enc p).length = (8 * p.length + 5) / 6 := by simp [enc]
theorem enc_getD (p : List B8) (j : Nat) (h : j < (8 * p.length + 5) / 6) : (enc p).getD j 0 = encAt p j := by
  simp [enc, List.getD_eq_getElem?_getD, h]
/-- hexadecimal -/
def hexAt (p : List B8) (j : Nat) : Nat := if j % 2 = 0 then at' p (j / 2) / 16 else at' p (j / 2) % 16
theorem hexAt_lt (p : List B8) (j : Nat) : hexAt p j < 16 := by
  have := at'_lt p (j / 2)
  unfold hexAt
  split <;> omega
theorem grp_hex (p : List B8) (j : Nat) : grp (bitsOf 8 (nums p)) (4 * j) 4 = hexAt p j := by
  have h0 := at'_lt p (j / 2)
  obtain ⟨q, hq⟩ : ∃ q, q = j / 2 := ⟨_, rfl⟩
  rw [← hq] at h0
  unfold hexAt
  rw [← hq]
  simp only [grp]
  by_cases h : j % 2 = 0
  · rw [if_pos h, show 4 * j + 0 = 8 * q + 0 by omega, show 4 * j + 1 = 8 * q + 1 by omega, show 4 * j + 2 = 8 * q + 2 by omega, show 4 * j + 3 = 8 * q + 3 by omega,
      bits_at _ _ _ (by omega), bits_at _ _ _ (by omega), bits_at _ _ _ (by omega), bits_at _ _ _ (by omega)]
    omega
  · rw [if_neg h, show 4 * j + 0 = 8 * q + 4 by omega, show 4 * j + 1 = 8 * q + 5 by omega, show 4 * j + 2 = 8 * q + 6 by omega, show 4 * j + 3 = 8 * q + 7 by omega,
      bits_at _ _ _ (by omega), bits_at _ _ _ (by omega), bits_at _ _ _ (by omega), bits_at _ _ _ (by omega)]
    omega
def hex (p : List B8) : List Nat := (List.range (2 * p.length)).map (hexAt p)
theorem hex_length (p : List B8) : (hex p).length = 2 * p.length := by simp [hex]
theorem hex_getD (p : List B8) (j : Nat) (h : j < 2 * p.length) : (hex p).getD j 0 = hexAt p j := by
  simp [hex, List.getD_eq_getElem?_getD, h]
/-- numbers below 2^n -/
def Small (n : Nat) (v : List Nat) : Prop := ∀ i, v.getD i 0 < n
theorem small_enc (p : List B8) : Small 64 (enc p) := fun i => by
  by_cases h : i < (8 * p.length + 5) / 6
  · rw [enc_getD p i h]; exact encAt_lt p i
  · rw [List.getD_eq_getElem?_getD, List.getElem?_eq_none (by rw [enc_length]; omega)]; simp
theorem small_hex (p : List B8) : Small 16 (hex p) := fun i => by
  by_cases h : i < 2 * p.length
  · rw [hex_getD p i h]; exact hexAt_lt p i
  · rw [List.getD_eq_getElem?_getD, List.getElem?_eq_none (by rw [hex_length]; omega)]; simp
/-- the byte at a place, of letters of six bits -/
def decAt (v : List Nat) (m : Nat) : Nat :=
  if m % 3 = 0 then v.getD (4 * (m / 3)) 0 * 4 + v.getD (4 * (m / 3) + 1) 0 / 16
  else if m % 3 = 1 then v.getD (4 * (m / 3) + 1) 0 % 16 * 16 + v.getD (4 * (m / 3) + 2) 0 / 4
  else v.getD (4 * (m / 3) + 2) 0 % 4 * 64 + v.getD (4 * (m / 3) + 3) 0
theorem decAt_lt {v : List Nat} (hv : Small 64 v) (m : Nat) : decAt v m < 256 := by
  have h0 := hv (4 * (m / 3))
  have h1 := hv (4 * (m / 3) + 1)
  have h2 := hv (4 * (m / 3) + 2)
  have h3 := hv (4 * (m / 3) + 3)
  unfold decAt
  split
  · omega
  · split <;> omega
theorem bits6_at (v : List Nat) (m t : Nat) (ht : t < 6) : (bitsOf 6 v).getD (6 * m + t) 0 = v.getD m 0 / 2 ^ (5 - t) % 2 := by
  rw [bitsOf_at 6 _ m t ht (bitOf_zero 6)]; rfl
theorem grp_dec {v : List Nat} (hv : Small 64 v) (m : Nat) : grp (bitsOf 6 v) (8 * m) 8 = decAt v m := by
  have h0 := hv (4 * (m / 3))
  have h1 := hv (4 * (m / 3) + 1)
  have h2 := hv (4 * (m / 3) + 2)
  have h3 := hv (4 * (m / 3) + 3)
  obtain ⟨q, hq⟩ : ∃ q, q = m / 3 := ⟨_, rfl⟩
  rw [← hq] at h0 h1 h2 h3
  unfold decAt
  rw [← hq]
  simp only [grp]
  have hr : m % 3 = 0 ∨ m % 3 = 1 ∨ m % 3 = 2 := by omega
  rcases hr with h | h | h
  · rw [if_pos h, show 8 * m + 0 = 6 * (4 * q) + 0 by omega, show 8 * m + 1 = 6 * (4 * q) + 1 by omega, show 8 * m + 2 = 6 * (4 * q) + 2 by omega, show 8 * m + 3 = 6 * (4 * q) + 3 by omega, show 8 * m + 4 = 6 * (4 * q) + 4 by omega, show 8 * m + 5 = 6 * (4 * q) + 5 by omega, show 8 * m + 6 = 6 * (4 * q + 1) + 0 by omega, show 8 * m + 7 = 6 * (4 * q + 1) + 1 by omega,
      bits6_at _ _ _ (by omega), bits6_at _ _ _ (by omega), bits6_at _ _ _ (by omega), bits6_at _ _ _ (by omega), bits6_at _ _ _ (by omega), bits6_at _ _ _ (by omega), bits6_at _ _ _ (by omega), bits6_at _ _ _ (by omega)]
    omega
  · rw [if_neg (by omega), if_pos h, show 8 * m + 0 = 6 * (4 * q + 1) + 2 by omega, show 8 * m + 1 = 6 * (4 * q + 1) + 3 by omega, show 8 * m + 2 = 6 * (4 * q + 1) + 4 by omega, show 8 * m + 3 = 6 * (4 * q + 1) + 5 by omega, show 8 * m + 4 = 6 * (4 * q + 2) + 0 by omega, show 8 * m + 5 = 6 * (4 * q + 2) + 1 by omega, show 8 * m + 6 = 6 * (4 * q + 2) + 2 by omega, show 8 * m + 7 = 6 * (4 * q + 2) + 3 by omega,
      bits6_at _ _ _ (by omega), bits6_at _ _ _ (by omega), bits6_at _ _ _ (by omega), bits6_at _ _ _ (by omega), bits6_at _ _ _ (by omega), bits6_at _ _ _ (by omega), bits6_at _ _ _ (by omega), bits6_at _ _ _ (by omega)]
    omega
  · rw [if_neg (by omega), if_neg (by omega), show 8 * m + 0 = 6 * (4 * q + 2) + 4 by omega, show 8 * m + 1 = 6 * (4 * q + 2) + 5 by omega, show 8 * m + 2 = 6 * (4 * q + 3) + 0 by omega, show 8 * m + 3 = 6 * (4 * q + 3) + 1 by omega, show 8 * m + 4 = 6 * (4 * q + 3) + 2 by omega, show 8 * m + 5 = 6 * (4 * q + 3) + 3 by omega, show 8 * m + 6 = 6 * (4 * q + 3) + 4 by omega, show 8 * m + 7 = 6 * (4 * q + 3) + 5 by omega,
      bits6_at _ _ _ (by omega), bits6_at _ _ _ (by omega), bits6_at _ _ _ (by omega), bits6_at _ _ _ (by omega), bits6_at _ _ _ (by omega), bits6_at _ _ _ (by omega), bits6_at _ _ _ (by omega), bits6_at _ _ _ (by omega)]
    omega
/-- the whole bytes of the letters v -/
def dec (v : List Nat) : List B8 := (List.range (6 * v.length / 8)).map fun m => BitVec.ofNat 8 (decAt v m)
theorem dec_length (v : List Nat) : (dec v).length = 6 * v.length / 8 := by simp [dec]
theorem at'_dec {v : List Nat} (hv : Small 64 v) (m : Nat) (h : m < 6 * v.length / 8) : at' (dec v) m = decAt v m := by
  unfold at' dec
  rw [List.getD_eq_getElem?_getD, List.getElem?_map, List.getElem?_range h]
  simp
  exact decAt_lt hv m
theorem at'_none (p : List B8) (i : Nat) (h : p.length ≤ i) : at' p i = 0 := by
  unfold at'
  rw [List.getD_eq_getElem?_getD, List.getElem?_eq_none h]; rfl
/-- what the reader still holds behind i letters -/
def heldAt (v : List Nat) (i : Nat) : Nat :=
  if i % 4 = 0 then 0 else if i % 4 = 1 then v.getD (i - 1) 0 else if i % 4 = 2 then v.getD (i - 1) 0 % 16 else v.getD (i - 1) 0 % 4
/-- read, written again: the same letters just if there is no lone letter and nothing is held -/
theorem enc_dec {v : List Nat} (hv : Small 64 v) : enc (dec v) = v ↔ v.length % 4 ≠ 1 ∧ heldAt v v.length = 0 := by
  have hl := dec_length v
  constructor
  · intro h
    have h2 := congrArg List.length h
    rw [enc_length, hl] at h2
    refine ⟨by omega, ?_⟩
    unfold heldAt
    by_cases c0 : v.length % 4 = 0
    · rw [if_pos c0]
    · rw [if_neg c0, if_neg (by omega)]
      have hg := congrArg (fun l => l.getD (v.length - 1) 0) h
      rw [enc_getD _ _ (by rw [hl]; omega)] at hg
      by_cases c2 : v.length % 4 = 2
      · rw [if_pos c2, ← hg]
        unfold encAt
        have hj : (v.length - 1) % 4 = 1 := by omega
        rw [if_neg (by omega), if_pos hj, at'_none _ (3 * ((v.length - 1) / 4) + 1) (by rw [hl]; omega)]
        omega
      · rw [if_neg c2, ← hg]
        unfold encAt
        have hj : (v.length - 1) % 4 = 2 := by omega
        rw [if_neg (by omega), if_neg (by omega), if_pos hj, at'_none _ (3 * ((v.length - 1) / 4) + 2) (by rw [hl]; omega)]
        omega
  · rintro ⟨h1, h2⟩
    have hn : (8 * (dec v).length + 5) / 6 = v.length := by
      rw [hl]
      obtain ⟨q, hq⟩ : ∃ q, q = v.length / 4 := ⟨_, rfl⟩
      have hr : v.length = 4 * q ∨ v.length = 4 * q + 2 ∨ v.length = 4 * q + 3 := by omega
      rcases hr with h | h | h <;> rw [h] <;> omega
    apply List.ext_getElem?
    intro j
    by_cases hj : j < v.length
    · have e1 : (enc (dec v)).getD j 0 = v.getD j 0 := by
        rw [enc_getD _ _ (by rw [hn]; exact hj)]
        have b0 := hv j
        have b1 := hv (j - 1)
        have b2 := hv (j + 1)
        obtain ⟨q, hq⟩ : ∃ q, q = j / 4 := ⟨_, rfl⟩
        unfold encAt
        rw [← hq]
        have hr : j % 4 = 0 ∨ j % 4 = 1 ∨ j % 4 = 2 ∨ j % 4 = 3 := by omega
        have m0 : 3 * q % 3 = 0 := by omega
        have m1 : (3 * q + 1) % 3 = 1 := by omega
        have m2 : (3 * q + 2) % 3 = 2 := by omega
        have d0 : 3 * q / 3 = q := by omega
        have d1 : (3 * q + 1) / 3 = q := by omega
        have d2 : (3 * q + 2) / 3 = q := by omega
        rcases hr with h | h | h | h
        · rw [if_pos h, at'_dec hv _ (by omega)]
          unfold decAt
          rw [if_pos m0, d0, show 4 * q = j by omega]
          omega
        · rw [if_neg (by omega), if_pos h, at'_dec hv _ (by omega)]
          by_cases c : 3 * q + 1 < 6 * v.length / 8
          · rw [at'_dec hv _ c]
            unfold decAt
            rw [if_pos m0, d0, if_neg (by omega), if_pos m1, d1, show 4 * q + 1 = j by omega]
            have := hv (4 * q + 2)
            omega
          · rw [at'_none _ _ (by rw [hl]; omega)]
            unfold decAt
            rw [if_pos m0, d0, show 4 * q + 1 = j by omega]
            unfold heldAt at h2
            rw [if_neg (by omega), if_neg (by omega), if_pos (by omega), show v.length - 1 = j by omega] at h2
            omega
        · rw [if_neg (by omega), if_neg (by omega), if_pos h, at'_dec hv _ (by omega)]
          by_cases c : 3 * q + 2 < 6 * v.length / 8
          · rw [at'_dec hv _ c]
            unfold decAt
            rw [if_neg (by omega), if_pos m1, d1, if_neg (by omega), if_neg (by omega), d2, show 4 * q + 2 = j by omega]
            have := hv (4 * q + 3)
            omega
          · rw [at'_none _ _ (by rw [hl]; omega)]
            unfold decAt
            rw [if_neg (by omega), if_pos m1, d1, show 4 * q + 2 = j by omega]
            unfold heldAt at h2
            rw [if_neg (by omega), if_neg (by omega), if_neg (by omega), show v.length - 1 = j by omega] at h2
            omega
        · rw [if_neg (by omega), if_neg (by omega), if_neg (by omega), at'_dec hv _ (by omega)]
          unfold decAt
          rw [if_neg (by omega), if_neg (by omega), d2, show 4 * q + 3 = j by omega]
          omega
      have hj' : j < (enc (dec v)).length := by rw [enc_length, hn]; exact hj
      rw [List.getD_eq_getElem?_getD, List.getD_eq_getElem?_getD, List.getElem?_eq_getElem hj', List.getElem?_eq_getElem hj] at e1
      rw [List.getElem?_eq_getElem hj', List.getElem?_eq_getElem hj]
      exact congrArg some e1
    · rw [List.getElem?_eq_none (by rw [enc_length, hn]; omega), List.getElem?_eq_none (by omega)]
theorem ext_at {p q : List B8} (hl : p.length = q.length) (h : ∀ i, i < p.length → at' p i = at' q i) : p = q := by
  apply List.ext_getElem hl
  intro i h1 h2
  have := h i h1
  unfold at' at this
  rw [List.getD_eq_getElem?_getD, List.getD_eq_getElem?_getD, List.getElem?_eq_getElem h1, List.getElem?_eq_getElem h2] at this
  exact BitVec.eq_of_toNat_eq this
/-- written, read back -/
theorem dec_enc (p : List B8) : dec (enc p) = p := by
  have hs := small_enc p
  have hl : (dec (enc p)).length = p.length := by rw [dec_length, enc_length]; omega
  apply ext_at hl
  intro m hm
  rw [hl] at hm
  rw [at'_dec hs _ (by rw [enc_length]; omega)]
  obtain ⟨q, hq⟩ : ∃ q, q = m / 3 := ⟨_, rfl⟩
  have m0 : 4 * q % 4 = 0 := by omega
  have m1 : (4 * q + 1) % 4 = 1 := by omega
  have m2 : (4 * q + 2) % 4 = 2 := by omega
  have m3 : (4 * q + 3) % 4 = 3 := by omega
  have d0 : 4 * q / 4 = q := by omega
  have d1 : (4 * q + 1) / 4 = q := by omega
  have d2 : (4 * q + 2) / 4 = q := by omega
  have d3 : (4 * q + 3) / 4 = q := by omega
  have h0 := at'_lt p (3 * q)
  have h1 := at'_lt p (3 * q + 1)
  have h2 := at'_lt p (3 * q + 2)
  unfold decAt
  rw [← hq]
  have hr : m % 3 = 0 ∨ m % 3 = 1 ∨ m % 3 = 2 := by omega
  rcases hr with h | h | h
  · rw [if_pos h, enc_getD _ _ (by omega), enc_getD _ _ (by omega)]
    unfold encAt
    rw [if_pos m0, d0, if_neg (by omega), if_pos m1, d1, show 3 * q = m by omega]
    rw [show 3 * q = m by omega] at h0 h1
    omega
  · rw [if_neg (by omega), if_pos h, enc_getD _ _ (by omega), enc_getD _ _ (by omega)]
    unfold encAt
    rw [if_neg (by omega), if_pos m1, d1, if_neg (by omega), if_neg (by omega), if_pos m2, d2, show 3 * q + 1 = m by omega]
    rw [show 3 * q + 1 = m by omega] at h1
    omega
  · rw [if_neg (by omega), if_neg (by omega), enc_getD _ _ (by omega), enc_getD _ _ (by omega)]
    unfold encAt
    rw [if_neg (by omega), if_neg (by omega), if_pos m2, d2, if_neg (by omega), if_neg (by omega), if_neg (by omega), d3, show 3 * q + 2 = m by omega]
    rw [show 3 * q + 2 = m by omega] at h2
    omega
theorem enc_inj {p q : List B8} (h : enc p = enc q) : p = q := by rw [← dec_enc p, h, dec_enc]
/-- hexadecimal, read -/
def unhexAt (v : List Nat) (m : Nat) : Nat := v.getD (2 * m) 0 * 16 + v.getD (2 * m + 1) 0
theorem unhexAt_lt {v : List Nat} (hv : Small 16 v) (m : Nat) : unhexAt v m < 256 := by
  have h0 := hv (2 * m)
  have h1 := hv (2 * m + 1)
  unfold unhexAt
  omega
theorem bits4_at (v : List Nat) (m t : Nat) (ht : t < 4) : (bitsOf 4 v).getD (4 * m + t) 0 = v.getD m 0 / 2 ^ (3 - t) % 2 := by
  rw [bitsOf_at 4 _ m t ht (bitOf_zero 4)]; rfl
theorem grp_unhex {v : List Nat} (hv : Small 16 v) (m : Nat) : grp (bitsOf 4 v) (8 * m) 8 = unhexAt v m := by
  have h0 := hv (2 * m)
  have h1 := hv (2 * m + 1)
  unfold unhexAt
  simp only [grp]
  rw [show 8 * m + 0 = 4 * (2 * m) + 0 by omega, show 8 * m + 1 = 4 * (2 * m) + 1 by omega, show 8 * m + 2 = 4 * (2 * m) + 2 by omega, show 8 * m + 3 = 4 * (2 * m) + 3 by omega, show 8 * m + 4 = 4 * (2 * m + 1) + 0 by omega, show 8 * m + 5 = 4 * (2 * m + 1) + 1 by omega, show 8 * m + 6 = 4 * (2 * m + 1) + 2 by omega, show 8 * m + 7 = 4 * (2 * m + 1) + 3 by omega,
    bits4_at _ _ _ (by omega), bits4_at _ _ _ (by omega), bits4_at _ _ _ (by omega), bits4_at _ _ _ (by omega), bits4_at _ _ _ (by omega), bits4_at _ _ _ (by omega), bits4_at _ _ _ (by omega), bits4_at _ _ _ (by omega)]
  omega
def unhex (v : List Nat) : List B8 := (List.range (4 * v.length / 8)).map fun m => BitVec.ofNat 8 (unhexAt v m)
theorem unhex_length (v : List Nat) : (unhex v).length = 4 * v.length / 8 := by simp [unhex]
theorem at'_unhex {v : List Nat} (hv : Small 16 v) (m : Nat) (h : m < 4 * v.length / 8) : at' (unhex v) m = unhexAt v m := by
  unfold at' unhex
  rw [List.getD_eq_getElem?_getD, List.getElem?_map, List.getElem?_range h]
  simp
  exact unhexAt_lt hv m
theorem hex_unhex {v : List Nat} (hv : Small 16 v) : hex (unhex v) = v ↔ v.length % 2 = 0 := by
  have hl := unhex_length v
  constructor
  · intro h
    have h2 := congrArg List.length h
    rw [hex_length, hl] at h2
    omega
  · intro h
    have hn : 2 * (unhex v).length = v.length := by rw [hl]; omega
    apply List.ext_getElem?
    intro j
    by_cases hj : j < v.length
    · have e1 : (hex (unhex v)).getD j 0 = v.getD j 0 := by
        rw [hex_getD _ _ (by rw [hn]; exact hj)]
        have b0 := hv j
        have b1 := hv (j + 1)
        unfold hexAt
        rw [at'_unhex hv _ (by omega)]
        unfold unhexAt
        by_cases c : j % 2 = 0
        · rw [if_pos c, show 2 * (j / 2) = j by omega]; omega
        · rw [if_neg c, show 2 * (j / 2) + 1 = j by omega]; omega
      have hj' : j < (hex (unhex v)).length := by rw [hex_length, hn]; exact hj
      rw [List.getD_eq_getElem?_getD, List.getD_eq_getElem?_getD, List.getElem?_eq_getElem hj', List.getElem?_eq_getElem hj] at e1
      rw [List.getElem?_eq_getElem hj', List.getElem?_eq_getElem hj]
      exact congrArg some e1
    · rw [List.getElem?_eq_none (by rw [hex_length, hn]; omega), List.getElem?_eq_none (by omega)]
theorem unhex_hex (p : List B8) : unhex (hex p) = p := by
  have hs := small_hex p
  have hl : (unhex (hex p)).length = p.length := by rw [unhex_length, hex_length]; omega
  apply ext_at hl
  intro m hm
  rw [hl] at hm
  rw [at'_unhex hs _ (by rw [hex_length]; omega)]
  have h0 := at'_lt p m
  unfold unhexAt
  rw [hex_getD _ _ (by omega), hex_getD _ _ (by omega)]
  unfold hexAt
  rw [if_pos (by omega), if_neg (by omega), show 2 * m / 2 = m by omega, show (2 * m + 1) / 2 = m by omega]
  omega
theorem hex_inj {p q : List B8} (h : hex p = hex q) : p = q := by rw [← unhex_hex p, h, unhex_hex]
end Go.Proofs.YtmmniapkajbdhaaDoor.URadix
