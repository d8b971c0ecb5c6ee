/- The check sum's plain laws: bit by bit, nibble by nibble, linear, no burst lost. -/
namespace Go.Proofs.YtkhfelfdgpfjkaaDoor
namespace UCrc
abbrev W := BitVec 32
def poly : W := 0xEDB88320#32
def step (x : W) : W := (x >>> 1) ^^^ (if x.getLsbD 0 then poly else 0#32)
theorem step_xor (x y : W) : step (x ^^^ y) = step x ^^^ step y := by
  unfold step
  rw [BitVec.ushiftRight_xor_distrib, BitVec.getLsbD_xor]
  cases x.getLsbD 0 <;> cases y.getLsbD 0 <;> simp [BitVec.xor_assoc]
  · ac_rfl
  · rw [BitVec.xor_comm (y >>> 1) poly, ← BitVec.xor_assoc poly, BitVec.xor_self, BitVec.zero_xor]
theorem step_zero : step 0#32 = 0#32 := by decide
theorem step_inj0 (x : W) (h : step x = 0#32) : x = 0#32 := by
  unfold step at h
  cases hb : x.getLsbD 0
  · rw [hb] at h
    simp at h
    apply BitVec.eq_of_getLsbD_eq
    intro i hi
    cases i with
    | zero => simpa using hb
    | succ i =>
      have := congrArg (fun v => BitVec.getLsbD v i) h
      simp at this
      rw [Nat.add_comm] at this
      simpa using this
  · rw [hb] at h
    have := congrArg (fun v => BitVec.getLsbD v 31) h
    simp [poly] at this
theorem step_inj (x y : W) (h : step x = step y) : x = y := by
  have : step (x ^^^ y) = 0#32 := by rw [step_xor, h]; simp
  have := step_inj0 _ this
  simpa [BitVec.xor_eq_zero_iff] using this
def steps : Nat → W → W
  | 0, x => x
  | n + 1, x => steps n (step x)
theorem steps_xor (n : Nat) (x y : W) : steps n (x ^^^ y) = steps n x ^^^ steps n y := by
  induction n generalizing x y with
  | zero => rfl
  | succ n ih => simp only [steps, step_xor, ih]
def rows : Array W := #[0x00000000, 0x1db71064, 0x3b6e20c8, 0x26d930ac, 0x76dc4190, 0x6b6b51f4, 0x4db26158, 0x5005713c,
 0xedb88320, 0xf00f9344, 0xd6d6a3e8, 0xcb61b38c, 0x9b64c2b0, 0x86d3d2d4, 0xa00ae278, 0xbdbdf21c]
theorem rows_ok : ∀ i : Fin 16, steps 4 (BitVec.ofNat 32 i) = rows[i]! := by decide
theorem step_hi (x : W) (h : x.getLsbD 0 = false) : step x = x >>> 1 := by
  unfold step; rw [h]; simp
theorem nib (x : W) : steps 4 x = (x >>> 4) ^^^ rows[(x &&& 15#32).toNat]! := by
  have e : x = ((x >>> 4) <<< 4) ^^^ (x &&& 15#32) := by
    apply BitVec.eq_of_getLsbD_eq
    intro i hi
    simp only [BitVec.getLsbD_xor, BitVec.getLsbD_shiftLeft, BitVec.getLsbD_ushiftRight, BitVec.getLsbD_and]
    by_cases h4 : i < 4
    · have : i = 0 ∨ i = 1 ∨ i = 2 ∨ i = 3 := by omega
      rcases this with rfl | rfl | rfl | rfl <;> simp
    · have h15 : (15#32 : BitVec 32).getLsbD i = false := by
        have : (15#32 : BitVec 32) = BitVec.ofNat 32 (2^4 - 1) := rfl
        rw [this]
        rw [BitVec.getLsbD_ofNat, Nat.testBit_two_pow_sub_one]; simp; omega
      rw [h15]
      simp [hi, h4]
      congr 1
      omega
  have hl : ∀ y : W, steps 4 (y <<< 4 ) = (y <<< 4) >>> 4 := by
    intro y
    simp only [steps]
    rw [step_hi (y <<< 4) (by simp), step_hi ((y <<< 4) >>> 1) (by simp), step_hi ((y <<< 4) >>> 1 >>> 1) (by simp), step_hi ((y <<< 4) >>> 1 >>> 1 >>> 1) (by simp)]
    simp [← BitVec.shiftRight_add]
  have hs : (x >>> 4) <<< 4 >>> 4 = x >>> 4 := by
    apply BitVec.eq_of_getLsbD_eq
    intro i hi
    simp
    intro h
    exact Classical.byContradiction fun h2 => by
      rw [BitVec.getLsbD_of_ge x _ (by omega)] at h; simp at h
  have hlo : (x &&& 15#32).toNat < 16 := by
    simp
    exact Nat.lt_of_le_of_lt Nat.and_le_right (by omega)
  have hr : ∀ n, n < 16 → steps 4 (BitVec.ofNat 32 n) = rows[n]! := fun n hn => rows_ok ⟨n, hn⟩
  have h2 := hr _ hlo
  rw [BitVec.ofNat_toNat, BitVec.setWidth_eq] at h2
  conv => lhs; rw [e]
  rw [steps_xor, hl, hs, h2]

theorem steps_zero (n : Nat) : steps n 0#32 = 0#32 := by
  induction n with
  | zero => rfl
  | succ n ih => simp only [steps, step_zero, ih]
theorem steps_inj0 (n : Nat) (x : W) (h : steps n x = 0#32) : x = 0#32 := by
  induction n generalizing x with
  | zero => exact h
  | succ n ih => exact step_inj0 _ (ih _ h)
theorem steps_add (m n : Nat) (x : W) : steps (m + n) x = steps n (steps m x) := by
  induction m generalizing x with
  | zero => simp [steps]
  | succ m ih => rw [Nat.succ_add]; simp only [steps, ih]
/-- one bit -/
def bitW (b : Bool) : W := if b then 1#32 else 0#32
def bitStep (r : W) (b : Bool) : W := step (r ^^^ bitW b)
/-- the first 32 bits of a list as a word, the first lowest -/
def pack : List Bool → W
  | [] => 0#32
  | b :: l => bitW b ^^^ (pack l <<< 1)
theorem pack_bit (l : List Bool) (i : Nat) (hi : i < 32) : (pack l).getLsbD i = l.getD i false := by
  induction l generalizing i with
  | nil => simp [pack]
  | cons b l ih =>
    simp only [pack, BitVec.getLsbD_xor, BitVec.getLsbD_shiftLeft]
    cases i with
    | zero => cases b <;> simp [bitW]
    | succ i =>
      rw [Nat.add_sub_cancel, ih i (by omega)]
      cases b <;> simp [bitW, hi]
theorem foldl_pack (l : List Bool) (r : W) (h : ∀ i, 32 ≤ i → l.getD i false = false) : l.foldl bitStep r = steps l.length (r ^^^ pack l) := by
  induction l generalizing r with
  | nil => simp [pack, steps]
  | cons b l ih =>
    rw [List.foldl_cons, List.length_cons, steps, ih _ (fun i hi => by have := h (i + 1) (by omega); simpa using this)]
    congr 1
    have e : pack l = step (pack l <<< 1) := by
      rw [step_hi _ (by simp)]
      apply BitVec.eq_of_getLsbD_eq
      intro i hi
      simp only [BitVec.getLsbD_ushiftRight, BitVec.getLsbD_shiftLeft]
      by_cases h31 : 1 + i < 32
      · simp [h31]
      · have hi31 : i = 31 := by omega
        subst hi31
        rw [pack_bit _ _ (by omega)]
        have := h 32 (by omega)
        simp at this
        simp [this]
    conv => lhs; rw [e]
    unfold bitStep
    rw [← step_xor]
    simp only [pack, BitVec.xor_assoc]
theorem bitStep_false (r : W) : bitStep r false = step r := by simp [bitStep, bitW]
theorem foldl_zero (l : List Bool) (h : ∀ b ∈ l, b = false) : l.foldl bitStep 0#32 = 0#32 := by
  induction l with
  | nil => rfl
  | cons b l ih =>
    have := h b (by simp)
    subst this
    rw [List.foldl_cons, bitStep_false, step_zero]
    exact ih (fun c hc => h c (by simp [hc]))
/-- A burst of no more than 32 bits leaves something. -/
theorem burst (l : List Bool) (at' : Nat) (hlo : ∀ j, j < at' → l.getD j false = false) (hhi : ∀ j, at' + 32 ≤ j → l.getD j false = false) (j : Nat) (hj : l.getD j false = true) : l.foldl bitStep 0#32 ≠ 0#32 := by
  intro h0
  have hjl : j < l.length := by
    refine Classical.byContradiction fun hn => ?_
    rw [List.getD_eq_getElem?_getD, List.getElem?_eq_none (by omega)] at hj
    simp at hj
  have ha : at' ≤ j := by
    refine Classical.byContradiction fun hn => ?_
    rw [hlo j (by omega)] at hj; cases hj
  have hb : j < at' + 32 := by
    refine Classical.byContradiction fun hn => ?_
    rw [hhi j (by omega)] at hj; cases hj
  rw [← List.take_append_drop at' l, List.foldl_append, foldl_zero] at h0
  · rw [foldl_pack _ _ (fun i hi => by
      have := hhi (at' + i) (by omega)
      simpa [List.getD_eq_getElem?_getD, List.getElem?_drop] using this)] at h0
    have h1 := steps_inj0 _ _ h0
    rw [BitVec.zero_xor] at h1
    have h2 := pack_bit (l.drop at') (j - at') (by omega)
    rw [h1] at h2
    have h3 : (l.drop at').getD (j - at') false = l.getD j false := by
      simp only [List.getD_eq_getElem?_getD, List.getElem?_drop]
      rw [show at' + (j - at') = j by omega]
    rw [h3, hj] at h2
    simp at h2
  · intro b hb
    rw [List.mem_iff_getElem?] at hb
    obtain ⟨i, hi⟩ := hb
    rw [List.getElem?_take] at hi
    split at hi
    · rename_i hlt
      have := hlo i hlt
      rw [List.getD_eq_getElem?_getD, hi] at this
      simpa using this
    · cases hi
abbrev B8 := BitVec 8
def bits8 (b : B8) : List Bool := [b.getLsbD 0, b.getLsbD 1, b.getLsbD 2, b.getLsbD 3, b.getLsbD 4, b.getLsbD 5, b.getLsbD 6, b.getLsbD 7]
theorem bits8_get (b : B8) (i : Nat) : (bits8 b).getD i false = b.getLsbD i := by
  by_cases h : i < 8
  · have : i = 0 ∨ i = 1 ∨ i = 2 ∨ i = 3 ∨ i = 4 ∨ i = 5 ∨ i = 6 ∨ i = 7 := by omega
    rcases this with rfl | rfl | rfl | rfl | rfl | rfl | rfl | rfl <;> rfl
  · rw [BitVec.getLsbD_of_ge _ _ (by omega), List.getD_eq_getElem?_getD, List.getElem?_eq_none (by simp [bits8]; omega)]; rfl
theorem pack_bits8 (b : B8) : pack (bits8 b) = b.setWidth 32 := by
  apply BitVec.eq_of_getLsbD_eq
  intro i hi
  rw [pack_bit _ _ hi, bits8_get]
  simp [hi]
def byteStep (r : W) (b : B8) : W := steps 8 (r ^^^ b.setWidth 32)
theorem byteStep_bits (r : W) (b : B8) : byteStep r b = (bits8 b).foldl bitStep r := by
  rw [foldl_pack _ _ (fun i hi => by rw [bits8_get, BitVec.getLsbD_of_ge _ _ (by omega)]), pack_bits8]; rfl
def run (r : W) (l : List B8) : W := l.foldl byteStep r
def bitsOf (l : List B8) : List Bool := l.flatMap bits8
theorem run_bits (l : List B8) (r : W) : run r l = (bitsOf l).foldl bitStep r := by
  induction l generalizing r with
  | nil => rfl
  | cons b l ih =>
    simp only [run, bitsOf, List.foldl_cons, List.flatMap_cons, List.foldl_append] at *
    rw [ih, byteStep_bits]
theorem bitsOf_get (l : List B8) (j : Nat) : (bitsOf l).getD j false = (l.getD (j / 8) 0#8).getLsbD (j % 8) := by
  induction l generalizing j with
  | nil => simp [bitsOf]
  | cons b l ih =>
    have e : bitsOf (b :: l) = bits8 b ++ bitsOf l := rfl
    rw [e]
    by_cases h : j < 8
    · rw [List.getD_eq_getElem?_getD, List.getElem?_append_left (by simpa [bits8] using h), ← List.getD_eq_getElem?_getD, bits8_get, show j / 8 = 0 by omega, show j % 8 = j by omega]; rfl
    · rw [List.getD_eq_getElem?_getD, List.getElem?_append_right (by simp [bits8]; omega), ← List.getD_eq_getElem?_getD, show (bits8 b).length = 8 from rfl, ih, show j / 8 = (j - 8) / 8 + 1 by omega, show (j - 8) % 8 = j % 8 by omega]; rfl
theorem byteStep_xor (r r' : W) (b b' : B8) : byteStep (r ^^^ r') (b ^^^ b') = byteStep r b ^^^ byteStep r' b' := by
  unfold byteStep
  rw [← steps_xor, BitVec.setWidth_xor]
  congr 1
  ac_rfl
theorem run_xor (l l' : List B8) (r r' : W) (h : l.length = l'.length) : run (r ^^^ r') (List.zipWith (· ^^^ ·) l l') = run r l ^^^ run r' l' := by
  induction l generalizing l' r r' with
  | nil => cases l' with
    | nil => rfl
    | cons b l' => cases h
  | cons b l ih => cases l' with
    | nil => cases h
    | cons b' l' =>
      simp only [List.length_cons, Nat.succ.injEq] at h
      have := ih l' (byteStep r b) (byteStep r' b') h
      simp only [run, List.zipWith_cons_cons, List.foldl_cons] at *
      rw [byteStep_xor, this]
def more (c : W) (l : List B8) : W := ~~~ run (~~~ c) l
theorem more_more (c : W) (a b : List B8) : more (more c a) b = more c (a ++ b) := by
  unfold more run
  rw [BitVec.not_not, List.foldl_append]
theorem more_nil (c : W) : more c [] = c := by simp [more, run]
end UCrc
end Go.Proofs.YtkhfelfdgpfjkaaDoor
