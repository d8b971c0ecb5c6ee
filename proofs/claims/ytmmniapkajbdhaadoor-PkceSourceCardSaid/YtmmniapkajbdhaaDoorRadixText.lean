/- Letters: alphabets, what is spelt and what is read, base64url, base64, hexadecimal; the two readers say the same. In plain words. -/
import Derived.Test.YtmmniapkajbdhaaDoorRadixPure
namespace Go.Proofs.YtmmniapkajbdhaaDoor.URadix
def urlA : List B8 := [65, 66, 67, 68, 69, 70, 71, 72, 73, 74, 75, 76, 77, 78, 79, 80, 81, 82, 83, 84, 85, 86, 87, 88, 89, 90, 97, 98, 99, 100, 101, 102, 103, 104, 105, 106, 107, 108, 109, 110, 111, 112, 113, 114, 115, 116, 117, 118, 119, 120, 121, 122, 48, 49, 50, 51, 52, 53, 54, 55, 56, 57, 45, 95]
def stdA : List B8 := [65, 66, 67, 68, 69, 70, 71, 72, 73, 74, 75, 76, 77, 78, 79, 80, 81, 82, 83, 84, 85, 86, 87, 88, 89, 90, 97, 98, 99, 100, 101, 102, 103, 104, 105, 106, 107, 108, 109, 110, 111, 112, 113, 114, 115, 116, 117, 118, 119, 120, 121, 122, 48, 49, 50, 51, 52, 53, 54, 55, 56, 57, 43, 47]
def hexA : List B8 := [48, 49, 50, 51, 52, 53, 54, 55, 56, 57, 97, 98, 99, 100, 101, 102]
def place (al : List B8) (c : B8) : Option Nat := al.findIdx? (· == c)
theorem place_hit {al : List B8} {c : B8} {i : Nat} (h0 : ∀ j, j < i → al.getD j 0#8 ≠ c) (hi : i < al.length) (hc : al.getD i 0#8 = c) : place al c = some i := by
  unfold place
  rw [List.findIdx?_eq_some_iff_getElem]
  rw [List.getD_eq_getElem?_getD, List.getElem?_eq_getElem hi] at hc
  refine ⟨hi, by simpa using hc, fun j hj => ?_⟩
  have := h0 j hj
  rw [List.getD_eq_getElem?_getD, List.getElem?_eq_getElem (by omega)] at this
  simpa using this
theorem place_miss {al : List B8} {c : B8} (h0 : ∀ j, j < al.length → al.getD j 0#8 ≠ c) : place al c = none := by
  unfold place
  rw [List.findIdx?_eq_none_iff]
  intro x hx
  obtain ⟨j, hj, rfl⟩ := List.mem_iff_getElem.1 hx
  have := h0 j hj
  rw [List.getD_eq_getElem?_getD, List.getElem?_eq_getElem hj] at this
  simpa using this
theorem place_some {al : List B8} {c : B8} {k : Nat} (h : place al c = some k) : k < al.length ∧ al.getD k 0#8 = c := by
  unfold place at h
  rw [List.findIdx?_eq_some_iff_getElem] at h
  obtain ⟨hk, hc, _⟩ := h
  refine ⟨hk, ?_⟩
  rw [List.getD_eq_getElem?_getD, List.getElem?_eq_getElem hk]
  simpa using hc
/-- an alphabet: no letter stands twice -/
def Alpha (n : Nat) (al : List B8) : Prop := al.length = n ∧ ∀ k, k < n → place al (al.getD k 0#8) = some k
theorem alpha_url : Alpha 64 urlA := ⟨rfl, by decide⟩
theorem alpha_std : Alpha 64 stdA := ⟨rfl, by decide⟩
theorem alpha_hex : Alpha 16 hexA := ⟨rfl, by decide⟩
def spell (al : List B8) (v : List Nat) : List B8 := v.map fun k => al.getD k 0#8
theorem spell_length (al : List B8) (v : List Nat) : (spell al v).length = v.length := by simp [spell]
theorem spell_append (al : List B8) (v w : List Nat) : spell al (v ++ w) = spell al v ++ spell al w := by simp [spell]
/-- the numbers of a text's letters (0 for what is none) -/
def numsOf (al : List B8) (s : List B8) : List Nat := s.map fun c => (place al c).getD 0
theorem numsOf_length (al : List B8) (s : List B8) : (numsOf al s).length = s.length := by simp [numsOf]
def allIn (al : List B8) (s : List B8) : Bool := s.all fun c => (place al c).isSome
theorem numsOf_spell {n : Nat} {al : List B8} (ha : Alpha n al) {v : List Nat} (hv : Small n v) : numsOf al (spell al v) = v := by
  unfold numsOf spell
  rw [List.map_map]
  apply List.ext_getElem (by simp)
  intro i h1 h2
  have := hv i
  rw [List.getD_eq_getElem?_getD, List.getElem?_eq_getElem h2] at this
  simp only [List.getElem_map, Function.comp]
  rw [ha.2 _ (by simpa using this)]; rfl
theorem allIn_spell {n : Nat} {al : List B8} (ha : Alpha n al) {v : List Nat} (hv : Small n v) : allIn al (spell al v) = true := by
  unfold allIn spell
  rw [List.all_eq_true]
  intro c hc
  obtain ⟨k, hk, rfl⟩ := List.mem_map.1 hc
  obtain ⟨i, hi, rfl⟩ := List.mem_iff_getElem.1 hk
  have := hv i
  rw [List.getD_eq_getElem?_getD, List.getElem?_eq_getElem hi] at this
  rw [ha.2 _ (by simpa using this)]; rfl
theorem spell_numsOf {al : List B8} {s : List B8} (h : allIn al s = true) : spell al (numsOf al s) = s := by
  unfold allIn at h
  rw [List.all_eq_true] at h
  unfold spell numsOf
  rw [List.map_map]
  apply List.ext_getElem (by simp)
  intro i h1 h2
  simp only [List.getElem_map, Function.comp]
  have h3 := h s[i] (List.getElem_mem h2)
  obtain ⟨k, hk⟩ := Option.isSome_iff_exists.1 h3
  rw [hk]
  exact (place_some hk).2
theorem small_numsOf {n : Nat} {al : List B8} (hn : 0 < n) (ha : Alpha n al) (s : List B8) : Small n (numsOf al s) := fun i => by
  unfold numsOf
  rw [List.getD_eq_getElem?_getD, List.getElem?_map]
  cases hs : s[i]? with
  | none => simpa using hn
  | some c =>
    cases hp : place al c with
    | none => simp [hp]; exact hn
    | some k => have := (place_some hp).1; rw [ha.1] at this; simpa [hp] using this
theorem spell_inj {n : Nat} {al : List B8} (ha : Alpha n al) {v w : List Nat} (hv : Small n v) (hw : Small n w) (h : spell al v = spell al w) : v = w := by
  rw [← numsOf_spell ha hv, h, numsOf_spell ha hw]
/-- written in letters of six bits, over an alphabet -/
def wr (al : List B8) (p : List B8) : List B8 := spell al (enc p)
def hx (p : List B8) : List B8 := spell hexA (hex p)
theorem wr_length (al p : List B8) : (wr al p).length = (8 * p.length + 5) / 6 := by unfold wr; rw [spell_length, enc_length]
theorem hx_length (p : List B8) : (hx p).length = 2 * p.length := by unfold hx; rw [spell_length, hex_length]
theorem wr_inj {al : List B8} (ha : Alpha 64 al) {p q : List B8} (h : wr al p = wr al q) : p = q := enc_inj (spell_inj ha (small_enc p) (small_enc q) h)
theorem hx_inj {p q : List B8} (h : hx p = hx q) : p = q := hex_inj (spell_inj alpha_hex (small_hex p) (small_hex q) h)
/-- the program's reader -/
def rd (al s : List B8) : Option (List B8) := if s.length % 4 ≠ 1 ∧ allIn al s = true ∧ heldAt (numsOf al s) s.length = 0 then some (dec (numsOf al s)) else none
/-- the reference's -/
def rdRef (al s : List B8) : Option (List B8) := if allIn al s = true ∧ wr al (dec (numsOf al s)) = s then some (dec (numsOf al s)) else none
theorem wr_dec {al : List B8} (ha : Alpha 64 al) {s : List B8} (h : allIn al s = true) : wr al (dec (numsOf al s)) = s ↔ s.length % 4 ≠ 1 ∧ heldAt (numsOf al s) s.length = 0 := by
  have hs := small_numsOf (by omega) ha s
  have e := enc_dec hs
  rw [numsOf_length] at e
  rw [← e]
  constructor
  · intro hw
    unfold wr at hw
    have h2 := numsOf_spell ha (small_enc (dec (numsOf al s)))
    rw [hw] at h2
    exact h2.symm
  · intro hw
    unfold wr
    rw [hw, spell_numsOf h]
theorem rd_ref {al : List B8} (ha : Alpha 64 al) (s : List B8) : rd al s = rdRef al s := by
  unfold rd rdRef
  by_cases h : allIn al s = true
  · have e := wr_dec ha h
    by_cases c : wr al (dec (numsOf al s)) = s
    · rw [if_pos ⟨(e.1 c).1, h, (e.1 c).2⟩, if_pos ⟨h, c⟩]
    · rw [if_neg (fun x => c (e.2 ⟨x.1, x.2.2⟩)), if_neg (fun x => c x.2)]
  · rw [if_neg (fun x => h x.2.1), if_neg (fun x => h x.1)]
theorem rd_wr {al : List B8} (ha : Alpha 64 al) (p : List B8) : rd al (wr al p) = some p := by
  rw [rd_ref ha]
  unfold rdRef
  have e : numsOf al (wr al p) = enc p := numsOf_spell ha (small_enc p)
  rw [e, dec_enc, if_pos ⟨allIn_spell ha (small_enc p), rfl⟩]
theorem rd_some {al : List B8} (ha : Alpha 64 al) {s p : List B8} (h : rd al s = some p) : wr al p = s := by
  rw [rd_ref ha] at h
  unfold rdRef at h
  split at h
  · rename_i hc
    obtain rfl := Option.some.inj h
    exact hc.2
  · cases h
/-- hexadecimal: the program's reader, the reference's -/
def rdHex (s : List B8) : Option (List B8) := if s.length % 2 = 0 ∧ allIn hexA s = true then some (unhex (numsOf hexA s)) else none
def rdHexRef (s : List B8) : Option (List B8) := if allIn hexA s = true ∧ hx (unhex (numsOf hexA s)) = s then some (unhex (numsOf hexA s)) else none
theorem hx_unhex {s : List B8} (h : allIn hexA s = true) : hx (unhex (numsOf hexA s)) = s ↔ s.length % 2 = 0 := by
  have hs := small_numsOf (by omega) alpha_hex s
  have e := hex_unhex hs
  rw [numsOf_length] at e
  rw [← e]
  constructor
  · intro hw
    unfold hx at hw
    have h2 := numsOf_spell alpha_hex (small_hex (unhex (numsOf hexA s)))
    rw [hw] at h2
    exact h2.symm
  · intro hw
    unfold hx
    rw [hw, spell_numsOf h]
theorem rdHex_ref (s : List B8) : rdHex s = rdHexRef s := by
  unfold rdHex rdHexRef
  by_cases h : allIn hexA s = true
  · have e := hx_unhex h
    by_cases c : hx (unhex (numsOf hexA s)) = s
    · rw [if_pos ⟨e.1 c, h⟩, if_pos ⟨h, c⟩]
    · rw [if_neg (fun x => c (e.2 x.1)), if_neg (fun x => c x.2)]
  · rw [if_neg (fun x => h x.2), if_neg (fun x => h x.1)]
theorem rdHex_hx (p : List B8) : rdHex (hx p) = some p := by
  rw [rdHex_ref]
  unfold rdHexRef
  have e : numsOf hexA (hx p) = hex p := numsOf_spell alpha_hex (small_hex p)
  rw [e, unhex_hex, if_pos ⟨allIn_spell alpha_hex (small_hex p), rfl⟩]
theorem rdHex_some {s p : List B8} (h : rdHex s = some p) : hx p = s := by
  rw [rdHex_ref] at h
  unfold rdHexRef at h
  split at h
  · rename_i hc
    obtain rfl := Option.some.inj h
    exact hc.2
  · cases h
/-- base64 with padding -/
def padN (n : Nat) : Nat := (4 - n % 4) % 4
def std (p : List B8) : List B8 := wr stdA p ++ List.replicate (padN (wr stdA p).length) 61#8
/-- no text of the letters ends in the padding's sign -/
def NoEq (t : List B8) : Prop := t.getLast? ≠ some 61#8
theorem noEq_of_allIn {t : List B8} (h : allIn stdA t = true) : NoEq t := by
  intro hl
  have hm := List.mem_of_getLast? hl
  unfold allIn at h
  rw [List.all_eq_true] at h
  have := h _ hm
  revert this
  decide
theorem split_unique {t u : List B8} {e f : Nat} (ht : NoEq t) (hu : NoEq u) (h : t ++ List.replicate e 61#8 = u ++ List.replicate f 61#8) : t = u ∧ e = f := by
  induction e generalizing f with
  | zero =>
    cases f with
    | zero => simpa using h
    | succ f =>
      exfalso
      rw [List.replicate_zero, List.append_nil] at h
      apply ht
      rw [h, List.replicate_succ', ← List.append_assoc]
      simp
  | succ e ih =>
    cases f with
    | zero =>
      exfalso
      rw [List.replicate_zero, List.append_nil] at h
      apply hu
      rw [← h, List.replicate_succ', ← List.append_assoc]
      simp
    | succ f =>
      rw [List.replicate_succ', List.replicate_succ', ← List.append_assoc, ← List.append_assoc] at h
      have h2 := List.append_inj_left' h rfl
      obtain ⟨a, b⟩ := ih h2
      exact ⟨a, by omega⟩
theorem split_exists (s : List B8) : ∃ t e, s = t ++ List.replicate e 61#8 ∧ NoEq t := by
  induction hn : s.length generalizing s with
  | zero => exact ⟨[], 0, by simpa using List.eq_nil_of_length_eq_zero hn, by simp [NoEq]⟩
  | succ n ih =>
    by_cases h : s.getLast? = some 61#8
    · have hne : s ≠ [] := by intro e; rw [e] at hn; simp at hn
      have hd : s = s.dropLast ++ [61#8] := by
        have h2 := List.dropLast_concat_getLast hne
        rw [List.getLast?_eq_some_getLast hne] at h
        rw [Option.some.inj h] at h2
        exact h2.symm
      obtain ⟨t, e, h1, h2⟩ := ih s.dropLast (by rw [List.length_dropLast, hn]; rfl)
      refine ⟨t, e + 1, ?_, h2⟩
      rw [List.replicate_succ', ← List.append_assoc, ← h1]
      exact hd
    · exact ⟨s, 0, by simp, h⟩
theorem wr_mod (al p : List B8) : (wr al p).length % 4 ≠ 1 := by
  rw [wr_length]
  obtain ⟨q, hq⟩ : ∃ q, q = p.length / 3 := ⟨_, rfl⟩
  have : p.length = 3 * q ∨ p.length = 3 * q + 1 ∨ p.length = 3 * q + 2 := by omega
  rcases this with h | h | h <;> rw [h] <;> omega
theorem allIn_wr (p : List B8) : allIn stdA (wr stdA p) = true := allIn_spell alpha_std (small_enc p)
theorem std_split {p t : List B8} {e : Nat} (ht : NoEq t) : std p = t ++ List.replicate e 61#8 ↔ wr stdA p = t ∧ padN (wr stdA p).length = e := by
  unfold std
  constructor
  · intro h
    exact split_unique (noEq_of_allIn (allIn_wr p)) ht h
  · rintro ⟨rfl, rfl⟩; rfl
theorem std_inj {p q : List B8} (h : std p = std q) : p = q := by
  unfold std at h
  exact wr_inj alpha_std (split_unique (noEq_of_allIn (allIn_wr p)) (noEq_of_allIn (allIn_wr q)) h).1
/-- the program's reader of base64, of t and e signs of padding -/
def rdStd (t : List B8) (e : Nat) : Option (List B8) := if (t.length + e) % 4 ≠ 0 then none else rd stdA (t ++ List.replicate (e - 2) 61#8)
def rdStdRef (t : List B8) (e : Nat) : Option (List B8) := if allIn stdA t = true ∧ std (dec (numsOf stdA t)) = t ++ List.replicate e 61#8 then some (dec (numsOf stdA t)) else none
theorem allIn_append (al s t : List B8) : allIn al (s ++ t) = (allIn al s && allIn al t) := by simp [allIn]
theorem rdStd_ref {t : List B8} (ht : NoEq t) (e : Nat) : rdStd t e = rdStdRef t e := by
  unfold rdStd rdStdRef
  by_cases h : allIn stdA t = true
  · have e1 := wr_dec alpha_std h
    have e2 := std_split (p := dec (numsOf stdA t)) (e := e) ht
    have e3 := wr_mod stdA (dec (numsOf stdA t))
    by_cases c : std (dec (numsOf stdA t)) = t ++ List.replicate e 61#8
    · obtain ⟨c1, c2⟩ := e2.1 c
      rw [c1] at c2 e3
      unfold padN at c2
      rw [if_neg (by omega), show e - 2 = 0 by omega, List.replicate_zero, List.append_nil]
      unfold rd
      rw [if_pos ⟨(e1.1 c1).1, h, (e1.1 c1).2⟩, if_pos ⟨h, c⟩]
    · rw [show (if allIn stdA t = true ∧ std (dec (numsOf stdA t)) = t ++ List.replicate e 61#8 then some (dec (numsOf stdA t)) else none) = none from if_neg (fun x => c x.2)]
      by_cases c3 : (t.length + e) % 4 ≠ 0
      · rw [if_pos c3]
      · rw [if_neg c3]
        unfold rd
        by_cases c4 : e ≤ 2
        · rw [show e - 2 = 0 by omega, List.replicate_zero, List.append_nil]
          rw [if_neg]
          rintro ⟨x1, _, x2⟩
          have c1 := e1.2 ⟨x1, x2⟩
          exact c (e2.2 ⟨c1, by rw [c1]; unfold padN; omega⟩)
        · rw [if_neg]
          rintro ⟨_, x, _⟩
          rw [allIn_append, Bool.and_eq_true] at x
          obtain ⟨f, hf⟩ : ∃ f, e - 2 = f + 1 := ⟨e - 3, by omega⟩
          have x2 := x.2
          rw [hf, List.replicate_succ] at x2
          revert x2
          simp [allIn]
          intro hx
          exact absurd hx (by decide)
  · rw [show (if allIn stdA t = true ∧ std (dec (numsOf stdA t)) = t ++ List.replicate e 61#8 then some (dec (numsOf stdA t)) else none) = none from if_neg (fun x => h x.1)]
    split
    · rfl
    · unfold rd
      rw [if_neg]
      rintro ⟨_, x, _⟩
      rw [allIn_append, Bool.and_eq_true] at x
      exact h x.1
theorem rdStd_std (p : List B8) : rdStd (wr stdA p) (padN (wr stdA p).length) = some p := by
  rw [rdStd_ref (noEq_of_allIn (allIn_wr p))]
  unfold rdStdRef
  have e : numsOf stdA (wr stdA p) = enc p := numsOf_spell alpha_std (small_enc p)
  rw [e, dec_enc, if_pos ⟨allIn_wr p, rfl⟩]
theorem rdStd_some {t p : List B8} {e : Nat} (ht : NoEq t) (h : rdStd t e = some p) : std p = t ++ List.replicate e 61#8 := by
  rw [rdStd_ref ht] at h
  unfold rdStdRef at h
  split at h
  · rename_i hc
    obtain rfl := Option.some.inj h
    exact hc.2
  · cases h
/-- a sign of padding taken off -/
def trimEq (s : List B8) : List B8 := if s.getLast? = some 61#8 then s.dropLast else s
theorem trimEq_split {t : List B8} (ht : NoEq t) (e : Nat) : trimEq (t ++ List.replicate e 61#8) = t ++ List.replicate (e - 1) 61#8 := by
  unfold trimEq
  cases e with
  | zero => rw [List.replicate_zero, List.append_nil, if_neg ht]
  | succ e =>
    rw [List.replicate_succ', ← List.append_assoc, if_pos (by simp), List.dropLast_concat, Nat.add_sub_cancel]
theorem trimEq2 {t : List B8} (ht : NoEq t) (e : Nat) : trimEq (trimEq (t ++ List.replicate e 61#8)) = t ++ List.replicate (e - 2) 61#8 := by
  rw [trimEq_split ht, trimEq_split ht]; rfl
end Go.Proofs.YtmmniapkajbdhaaDoor.URadix
