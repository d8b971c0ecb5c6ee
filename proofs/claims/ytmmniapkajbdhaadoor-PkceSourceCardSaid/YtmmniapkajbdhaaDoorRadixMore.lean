/- What the laws of layer 2 say, in plain words: lengths, pieces, letters that no address escapes, the last letter of a digest. -/
import Derived.Test.YtmmniapkajbdhaaDoorRadixText
namespace Go.Proofs.YtmmniapkajbdhaaDoor.URadix
theorem at'_left (p q : List B8) (i : Nat) (h : i < p.length) : at' (p ++ q) i = at' p i := by
  unfold at'
  rw [List.getD_eq_getElem?_getD, List.getElem?_append_left h, List.getD_eq_getElem?_getD]
theorem at'_right (p q : List B8) (i : Nat) : at' (p ++ q) (p.length + i) = at' q i := by
  unfold at'
  rw [List.getD_eq_getElem?_getD, List.getElem?_append_right (by omega), List.getD_eq_getElem?_getD, show p.length + i - p.length = i by omega]
theorem range_add (a b : Nat) : List.range (a + b) = List.range a ++ (List.range b).map (a + ·) := by
  rw [List.range_add]
theorem enc_append {p q : List B8} (h : p.length % 3 = 0) : enc (p ++ q) = enc p ++ enc q := by
  obtain ⟨m, hm⟩ : ∃ m, p.length = 3 * m := ⟨p.length / 3, by omega⟩
  have hl : (8 * (p ++ q).length + 5) / 6 = 4 * m + (8 * q.length + 5) / 6 := by rw [List.length_append, hm]; omega
  unfold enc
  rw [hl, range_add, List.map_append, show (8 * p.length + 5) / 6 = 4 * m by rw [hm]; omega, List.map_map]
  congr 1
  · apply List.map_congr_left
    intro j hj
    rw [List.mem_range] at hj
    unfold encAt
    rw [at'_left _ _ _ (by omega), at'_left _ _ _ (by omega), at'_left _ _ _ (by omega)]
  · apply List.map_congr_left
    intro j _
    simp only [Function.comp]
    unfold encAt
    rw [show 3 * ((4 * m + j) / 4) = p.length + 3 * (j / 4) by omega, at'_right, Nat.add_assoc, at'_right, Nat.add_assoc, at'_right, show (4 * m + j) % 4 = j % 4 by omega]
theorem hex_append (p q : List B8) : hex (p ++ q) = hex p ++ hex q := by
  unfold hex
  rw [List.length_append, Nat.mul_add, range_add, List.map_append, List.map_map]
  congr 1
  · apply List.map_congr_left
    intro j hj
    rw [List.mem_range] at hj
    unfold hexAt
    rw [at'_left _ _ _ (by omega)]
  · apply List.map_congr_left
    intro j _
    simp only [Function.comp]
    unfold hexAt
    rw [show (2 * p.length + j) / 2 = p.length + j / 2 by omega, at'_right, show (2 * p.length + j) % 2 = j % 2 by omega]
theorem wr_append {al p q : List B8} (h : p.length % 3 = 0) : wr al (p ++ q) = wr al p ++ wr al q := by
  unfold wr; rw [enc_append h, spell_append]
theorem hx_append (p q : List B8) : hx (p ++ q) = hx p ++ hx q := by unfold hx; rw [hex_append, spell_append]
theorem std_append {p q : List B8} (h : p.length % 3 = 0) : std (p ++ q) = std p ++ std q := by
  unfold std
  rw [wr_append h, List.length_append]
  have h4 : (wr stdA p).length % 4 = 0 := by rw [wr_length]; omega
  have h0 : padN (wr stdA p).length = 0 := by unfold padN; omega
  have h1 : padN ((wr stdA p).length + (wr stdA q).length) = padN (wr stdA q).length := by unfold padN; omega
  rw [h0, h1, List.replicate_zero, List.append_nil, List.append_assoc]
theorem std_length (p : List B8) : (std p).length = (p.length + 2) / 3 * 4 := by
  unfold std
  rw [List.length_append, List.length_replicate, wr_length]
  unfold padN
  obtain ⟨q, hq⟩ : ∃ q, q = p.length / 3 := ⟨_, rfl⟩
  have : p.length = 3 * q ∨ p.length = 3 * q + 1 ∨ p.length = 3 * q + 2 := by omega
  rcases this with h | h | h <;> rw [h] <;> omega
/-- the letters of base64url -/
def safe (c : B8) : Bool := (decide (65 ≤ c.toNat) && decide (c.toNat ≤ 90)) || (decide (97 ≤ c.toNat) && decide (c.toNat ≤ 122)) || (decide (48 ≤ c.toNat) && decide (c.toNat ≤ 57)) || c.toNat == 45 || c.toNat == 95
theorem safe_urlA (k : Nat) (h : k < 64) : safe (urlA.getD k 0#8) = true := by
  revert k
  decide
theorem safe_wr (p : List B8) (i : Nat) (h : i < (wr urlA p).length) : safe ((wr urlA p)[i]) = true := by
  have e : (wr urlA p)[i] = urlA.getD ((enc p)[i]'(by unfold wr at h; rwa [spell_length] at h)) 0#8 := by simp [wr, spell]
  rw [e]
  apply safe_urlA
  have := small_enc p i
  rwa [List.getD_eq_getElem?_getD, List.getElem?_eq_getElem (by unfold wr at h; rwa [spell_length] at h)] at this
/-- a digest's last letter -/
def last (d : List B8) (i : Nat) : List B8 := (wr urlA d).take 42 ++ [urlA.getD i 0#8]
theorem last_spell (d : List B8) (i : Nat) : last d i = spell urlA ((enc d).take 42 ++ [i]) := by
  unfold last wr
  rw [spell_append]
  congr 1
  simp [spell, List.map_take]
theorem last_small (d : List B8) (i : Nat) (hi : i < 64) : Small 64 ((enc d).take 42 ++ [i]) := fun j => by
  rw [List.getD_eq_getElem?_getD]
  by_cases h : j < ((enc d).take 42).length
  · rw [List.getElem?_append_left h, List.getElem?_take]
    have := small_enc d j
    rw [List.getD_eq_getElem?_getD] at this
    split
    · exact this
    · simp
  · rw [List.getElem?_append_right (by omega)]
    cases j - ((enc d).take 42).length with
    | zero => simpa using hi
    | succ k => simp
theorem rd_last (d : List B8) (hd : d.length = 32) (i : Nat) (hi : i < 64) : rd urlA (last d i) = if i % 4 = 0 then some (dec ((enc d).take 42 ++ [i])) else none := by
  have hs := last_small d i hi
  have hle : (enc d).length = 43 := by rw [enc_length, hd]
  have hlv : ((enc d).take 42 ++ [i]).length = 43 := by rw [List.length_append, List.length_take, hle]; rfl
  unfold rd
  rw [last_spell, numsOf_spell alpha_url hs, allIn_spell alpha_url hs, spell_length, hlv]
  have hh : heldAt ((enc d).take 42 ++ [i]) 43 = i % 4 := by
    unfold heldAt
    rw [if_neg (by decide), if_neg (by decide), if_neg (by decide), List.getD_eq_getElem?_getD, List.getElem?_append_right (by rw [List.length_take, hle]; decide), List.length_take, hle]
    rfl
  rw [hh]
  by_cases c : i % 4 = 0
  · rw [if_pos ⟨by decide, rfl, c⟩, if_pos c]
  · rw [if_neg (fun x => c x.2.2), if_neg c]
theorem last_length (d : List B8) (hd : d.length = 32) (i : Nat) : (last d i).length = 43 := by
  unfold last
  rw [List.length_append, List.length_take, wr_length, hd]; rfl
theorem dec_last_length (d : List B8) (hd : d.length = 32) (i : Nat) : (dec ((enc d).take 42 ++ [i])).length = 32 := by
  rw [dec_length, List.length_append, List.length_take, enc_length, hd, List.length_singleton]; rfl
theorem dec_last_take (d : List B8) (hd : d.length = 32) (i : Nat) (hi : i < 64) : (dec ((enc d).take 42 ++ [i])).take 31 = d.take 31 := by
  have hs := last_small d i hi
  have hl := dec_last_length d hd i
  have hle : (enc d).length = 43 := by rw [enc_length, hd]
  have hlv : ((enc d).take 42 ++ [i]).length = 43 := by rw [List.length_append, List.length_take, hle]; rfl
  have hg : ∀ j, j < 42 → ((enc d).take 42 ++ [i]).getD j 0 = (enc d).getD j 0 := fun j hj => by
    rw [List.getD_eq_getElem?_getD, List.getElem?_append_left (by rw [List.length_take, hle]; omega), List.getElem?_take, if_pos hj, List.getD_eq_getElem?_getD]
  apply ext_at
  · rw [List.length_take, List.length_take, hl, hd]
  · intro m hm
    rw [List.length_take, hl] at hm
    have e1 : ∀ (l : List B8), m < 31 → at' (l.take 31) m = at' l m := fun l h => by
      unfold at'
      rw [List.getD_eq_getElem?_getD, List.getElem?_take, if_pos h, List.getD_eq_getElem?_getD]
    rw [e1 _ (by omega), e1 _ (by omega), at'_dec hs _ (by rw [hlv]; omega)]
    have e2 : at' d m = decAt (enc d) m := by
      have := at'_dec (small_enc d) m (by rw [hle]; omega)
      rwa [dec_enc] at this
    rw [e2]
    unfold decAt
    have hr : m % 3 = 0 ∨ m % 3 = 1 ∨ m % 3 = 2 := by omega
    rcases hr with h | h | h
    · rw [if_pos h, if_pos h, hg _ (by omega), hg _ (by omega)]
    · rw [if_neg (by omega), if_pos h, if_neg (by omega), if_pos h, hg _ (by omega), hg _ (by omega)]
    · rw [if_neg (by omega), if_neg (by omega), if_neg (by omega), if_neg (by omega), hg _ (by omega), hg _ (by omega)]
theorem last_same (d : List B8) (hd : d.length = 32) (i : Nat) (hi : i < 64) (h4 : i % 4 = 0) : last d i = wr urlA d ↔ dec ((enc d).take 42 ++ [i]) = d := by
  have h := rd_last d hd i hi
  rw [if_pos h4] at h
  constructor
  · intro e
    rw [e, rd_wr alpha_url] at h
    exact (Option.some.inj h).symm
  · intro e
    rw [e] at h
    exact (rd_some alpha_url h).symm
end Go.Proofs.YtmmniapkajbdhaaDoor.URadix
