/- The digest in pieces: what its cells hold behind a text, in plain words. -/
import Derived.Test.YtmkifaddfnodhaaDoorSha
namespace Go.Proofs.YtmkifaddfnodhaaDoor.USha
def bAt (l : List B8) (i : Nat) : B8 := l.getD i 0#8
theorem sched_congr (m m' : Nat → W) (h : ∀ t, t < 16 → m t = m' t) (t : Nat) : sched m t = sched m' t := by
  induction t with
  | zero => rfl
  | succ t ih =>
    simp only [sched, ih, next]
    by_cases ht : t < 16
    · rw [if_pos ht, if_pos ht, h t ht]
    · rw [if_neg ht, if_neg ht]
theorem compress_congr (v : St) (m m' : Nat → W) (h : ∀ t, t < 16 → m t = m' t) : compress v m = compress v m' := by
  unfold compress
  rw [sched_congr m m' h]
theorem word_congr (b b' : Nat → B8) (h : ∀ i, i < 64 → b i = b' i) (t : Nat) (ht : t < 16) : word b t = word b' t := by
  unfold word
  rw [h (4 * t) (by omega), h (4 * t + 1) (by omega), h (4 * t + 2) (by omega), h (4 * t + 3) (by omega)]
theorem hashN_congr (v : St) (b b' : Nat → B8) (n : Nat) (h : ∀ i, i < 64 * n → b i = b' i) : hashN v b n = hashN v b' n := by
  induction n with
  | zero => rfl
  | succ n ih =>
    simp only [hashN]
    rw [ih (fun i hi => h i (by omega))]
    exact compress_congr _ _ _ (word_congr _ _ (fun i hi => h (64 * n + i) (by omega)))
/-- the digest's state behind the text M -/
structure Holds (v : St) (rest : List B8) (held : Nat) (M : List B8) : Prop where
  len : rest.length = 64
  fill : held = M.length % 64
  tail : rest.take held = M.drop (64 * (M.length / 64))
  st : v = hashN init (bAt M) (M.length / 64)
theorem Holds.lt {v : St} {rest : List B8} {held : Nat} {M : List B8} (h : Holds v rest held M) : held < 64 := by
  rw [h.fill]; exact Nat.mod_lt _ (by omega)
theorem holds_new : Holds init (List.replicate 64 0#8) 0 [] := ⟨rfl, rfl, rfl, rfl⟩
/-- x laid over the rest, from 'held' on -/
def over (rest : List B8) (held : Nat) (x : List B8) : List B8 := rest.take held ++ x ++ rest.drop (held + x.length)
theorem over_length (rest : List B8) (held : Nat) (x : List B8) (h : held + x.length ≤ rest.length) : (over rest held x).length = rest.length := by
  unfold over; simp; omega
theorem bAt_append (M x : List B8) (i : Nat) (h : i < M.length) : bAt (M ++ x) i = bAt M i := by
  unfold bAt
  rw [List.getD_eq_getElem?_getD, List.getD_eq_getElem?_getD, List.getElem?_append_left h]
theorem over_take (rest : List B8) (held : Nat) (x : List B8) (h : held ≤ rest.length) : (over rest held x).take (held + x.length) = rest.take held ++ x := by
  unfold over
  rw [List.take_append_of_le_length (by simp; omega)]
  exact List.take_of_length_le (by simp; omega)
theorem holds_part {v : St} {rest : List B8} {held : Nat} {M x : List B8} (h : Holds v rest held M) (hx : held + x.length < 64) : Holds v (over rest held x) (held + x.length) (M ++ x) := by
  have hl := h.len
  have hh := h.fill
  refine ⟨by rw [over_length _ _ _ (by omega), hl], by rw [List.length_append]; omega, ?_, ?_⟩
  · rw [over_take _ _ _ (by omega), h.tail]
    have e : (M ++ x).length / 64 = M.length / 64 := by rw [List.length_append]; omega
    rw [e, List.drop_append_of_le_length (by omega)]
  · have e : (M ++ x).length / 64 = M.length / 64 := by rw [List.length_append]; omega
    rw [e, h.st]
    exact hashN_congr _ _ _ _ (fun i hi => (bAt_append M x i (by omega)).symm)
theorem holds_whole {v : St} {rest : List B8} {held : Nat} {M x : List B8} (h : Holds v rest held M) (hx : held + x.length = 64) : Holds (compress v (word (bAt (over rest held x)))) (over rest held x) 0 (M ++ x) := by
  have hl := h.len
  have hh := h.fill
  have hq : (M ++ x).length / 64 = M.length / 64 + 1 := by rw [List.length_append]; omega
  have hr : over rest held x = (M ++ x).drop (64 * (M.length / 64)) := by
    have e := over_take rest held x (by omega)
    rw [hx, List.take_of_length_le (by rw [over_length _ _ _ (by omega), hl]; exact Nat.le_refl _)] at e
    rw [e, h.tail, List.drop_append_of_le_length (by omega)]
  refine ⟨by rw [over_length _ _ _ (by omega), hl], by rw [List.length_append]; omega, ?_, ?_⟩
  · rw [List.take_zero, hq]
    exact (List.drop_of_length_le (by rw [List.length_append]; omega)).symm
  · rw [hq]
    simp only [hashN]
    have e1 : hashN init (bAt (M ++ x)) (M.length / 64) = v := by
      rw [h.st]; exact hashN_congr _ _ _ _ (fun i hi => bAt_append M x i (by omega))
    rw [e1]
    refine compress_congr _ _ _ (word_congr _ _ (fun i hi => ?_))
    rw [hr]
    unfold bAt
    rw [List.getD_eq_getElem?_getD, List.getD_eq_getElem?_getD, List.getElem?_drop]
/-- the last pieces: the text's end, 0x80, zeros -/
def pad1 (rest : List B8) (held : Nat) : List B8 := rest.take held ++ [0x80#8] ++ List.replicate (63 - held) 0#8
theorem pad1_length (rest : List B8) (held : Nat) (hl : rest.length = 64) (h : held < 64) : (pad1 rest held).length = 64 := by
  unfold pad1; simp; omega
/-- the count's bytes in the last eight places: i of them, from the end -/
def lenTo (r : List B8) (n : Nat) : Nat → List B8
  | 0 => r
  | i + 1 => (lenTo r n i).set (63 - i) (((BitVec.ofNat 64 (8 * n)) >>> (8 * i)).setWidth 8)
theorem lenTo_length (r : List B8) (n i : Nat) : (lenTo r n i).length = r.length := by
  induction i with
  | zero => rfl
  | succ i ih => simp [lenTo, ih]
theorem lenTo_at (r : List B8) (n : Nat) (hr : r.length = 64) (k : Nat) (hk : k ≤ 8) (i : Nat) (hi : i < 64) : bAt (lenTo r n k) i = if 64 - k ≤ i then ((BitVec.ofNat 64 (8 * n)) >>> (8 * (63 - i))).setWidth 8 else bAt r i := by
  induction k with
  | zero => rw [if_neg (by omega)]; rfl
  | succ k ih =>
    have hlen := lenTo_length r n k
    by_cases h : i = 63 - k
    · subst h
      rw [if_pos (by omega)]
      unfold bAt lenTo
      rw [List.getD_eq_getElem?_getD, List.getElem?_set_self (by omega), Option.getD_some]
      congr 3
      omega
    · have e : bAt (lenTo r n (k + 1)) i = bAt (lenTo r n k) i := by
        unfold bAt
        rw [lenTo, List.getD_eq_getElem?_getD, List.getElem?_set_ne (by omega), ← List.getD_eq_getElem?_getD]
      rw [e, ih (by omega)]
      by_cases h2 : 64 - k ≤ i
      · rw [if_pos h2, if_pos (by omega)]
      · rw [if_neg h2, if_neg (by omega)]
theorem pad1_at (rest : List B8) (held i : Nat) (hl : rest.length = 64) (h : held < 64) (hi : i < 64) : bAt (pad1 rest held) i = if i < held then bAt rest i else if i = held then 0x80#8 else 0#8 := by
  unfold pad1 bAt
  rw [List.getD_eq_getElem?_getD, List.append_assoc]
  by_cases h1 : i < held
  · rw [if_pos h1, List.getElem?_append_left (by simp; omega), List.getElem?_take, if_pos h1, List.getD_eq_getElem?_getD]
  · rw [if_neg h1, List.getElem?_append_right (by simp; omega), List.length_take, Nat.min_eq_left (by omega)]
    by_cases h2 : i = held
    · subst h2; simp
    · rw [if_neg h2, List.getElem?_append_right (by simp; omega), List.getElem?_replicate, if_pos (by simp; omega)]; rfl
theorem padAt_low {rest : List B8} {held : Nat} {M : List B8} (_hl : rest.length = 64) (hh : held = M.length % 64) (hr : rest.take held = M.drop (64 * (M.length / 64))) (i : Nat) (hi : i < held) : padAt M (64 * (M.length / 64) + i) = bAt rest i := by
  unfold padAt bAt
  rw [if_pos (by omega)]
  have := congrArg (fun l => l[i]?) hr
  rw [List.getElem?_take, if_pos hi, List.getElem?_drop] at this
  rw [List.getD_eq_getElem?_getD, List.getD_eq_getElem?_getD, ← this]; rfl
theorem whole_div (n : Nat) : whole n / 64 = (n + 8) / 64 + 1 := by unfold whole; omega
theorem st_pad {v : St} {rest : List B8} {held : Nat} {M : List B8} (h : Holds v rest held M) : hashN init (padAt M) (M.length / 64) = v := by
  rw [h.st]
  refine hashN_congr _ _ _ _ (fun i hi => ?_)
  unfold padAt bAt
  rw [if_pos (by omega)]; rfl
/-- one piece ends it -/
theorem sha_one {v : St} {rest : List B8} {held : Nat} {M : List B8} (h : Holds v rest held M) (h1 : held + 9 ≤ 64) : sha M = out (compress v (word (bAt (lenTo (pad1 rest held) M.length 8)))) := by
  have hh := h.fill
  have hl := h.len
  have hlt := h.lt
  have hp := pad1_length rest held hl hlt
  have e : whole M.length / 64 = M.length / 64 + 1 := by rw [whole_div]; omega
  have ew : whole M.length = 64 * (M.length / 64) + 64 := by unfold whole; omega
  unfold sha
  rw [e]
  simp only [hashN]
  rw [st_pad h]
  refine congrArg out (compress_congr _ _ _ (word_congr _ _ (fun i hi => ?_)))
  rw [lenTo_at _ _ hp 8 (by omega) i hi, pad1_at rest held i hl hlt hi]
  by_cases c1 : i < held
  · rw [if_neg (by omega), if_pos c1]
    exact padAt_low hl hh h.tail i c1
  · unfold padAt
    rw [if_neg (by omega : ¬ 64 * (M.length / 64) + i < M.length)]
    by_cases c2 : i = held
    · rw [if_pos (by omega : 64 * (M.length / 64) + i = M.length), if_neg (by omega), if_neg c1, if_pos c2]
    · rw [if_neg (by omega : ¬ 64 * (M.length / 64) + i = M.length), ew]
      by_cases c3 : i < 56
      · rw [if_pos (by omega), if_neg (by omega), if_neg c1, if_neg c2]
      · rw [if_neg (by omega), if_pos (by omega)]
        congr 2
        omega
/-- two pieces end it -/
theorem sha_two {v : St} {rest : List B8} {held : Nat} {M : List B8} (h : Holds v rest held M) (h1 : 64 < held + 9) : sha M = out (compress (compress v (word (bAt (pad1 rest held)))) (word (bAt (lenTo (List.replicate 64 0#8) M.length 8)))) := by
  have hh := h.fill
  have hl := h.len
  have hlt := h.lt
  have e : whole M.length / 64 = M.length / 64 + 1 + 1 := by rw [whole_div]; omega
  have ew : whole M.length = 64 * (M.length / 64) + 128 := by unfold whole; omega
  unfold sha
  rw [e]
  simp only [hashN]
  rw [st_pad h]
  have e1 : compress v (word fun i => padAt M (64 * (M.length / 64) + i)) = compress v (word (bAt (pad1 rest held))) := by
    refine compress_congr _ _ _ (word_congr _ _ (fun i hi => ?_))
    rw [pad1_at rest held i hl hlt hi]
    by_cases c1 : i < held
    · rw [if_pos c1]
      exact padAt_low hl hh h.tail i c1
    · unfold padAt
      rw [if_neg (by omega : ¬ 64 * (M.length / 64) + i < M.length), if_neg c1]
      by_cases c2 : i = held
      · rw [if_pos (by omega : 64 * (M.length / 64) + i = M.length), if_pos c2]
      · rw [if_neg (by omega : ¬ 64 * (M.length / 64) + i = M.length), if_neg c2, ew, if_pos (by omega)]
  rw [e1]
  refine congrArg out (compress_congr _ _ _ (word_congr _ _ (fun i hi => ?_)))
  rw [lenTo_at _ _ (by simp) 8 (by omega) i hi]
  unfold padAt
  rw [if_neg (by omega : ¬ 64 * (M.length / 64 + 1) + i < M.length), if_neg (by omega : ¬ 64 * (M.length / 64 + 1) + i = M.length), ew]
  by_cases c3 : i < 56
  · rw [if_pos (by omega), if_neg (by omega)]
    unfold bAt
    rw [List.getD_eq_getElem?_getD, List.getElem?_replicate, if_pos (by omega)]; rfl
  · rw [if_neg (by omega), if_pos (by omega)]
    congr 2
    omega
end Go.Proofs.YtmkifaddfnodhaaDoor.USha
