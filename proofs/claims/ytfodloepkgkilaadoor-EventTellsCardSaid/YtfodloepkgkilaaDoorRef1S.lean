/-
  WHAT IS PROVED: plain laws of the document's own way to read a number: byte by byte up to the first one below 128, and then the number's own bytes. No program, no condition beside those that each theorem names.
-/
import Derived.Test.YtfodloepkgkilaaDoorOctetS
namespace Go.Proofs.YtfodloepkgkilaaDoor.Ref1S
open Go.Proofs.YtfodloepkgkilaaDoor Go.Proofs.YtfodloepkgkilaaDoor.OctetS

theorem getF_short : ∀ (f i n : Nat) (s : List UInt8), (∀ c ∈ s, 128 ≤ c.toNat) → s.length < f → getF f i n s = (0, 0, 5)
  | 0, _, _, _, _, h => by omega
  | f + 1, i, n, [], _, _ => by simp [getF]
  | f + 1, i, n, b :: r, ha, h => by
    rw [getF, if_pos (ha b (List.mem_cons_self ..))]
    exact getF_short f _ _ r (fun c hc => ha c (List.mem_cons_of_mem _ hc)) (by simp only [List.length_cons] at h; omega)
theorem getF_code : ∀ (f i n : Nat) (s : List UInt8), (∀ c ∈ s.take f, 128 ≤ c.toNat) → f ≤ s.length → getF f i n s = (0, 0, 6)
  | 0, _, _, _, _, _ => by simp [getF]
  | f + 1, i, n, [], _, h => by simp at h
  | f + 1, i, n, b :: r, ha, h => by
    rw [List.take_succ_cons] at ha
    rw [getF, if_pos (ha b (List.mem_cons_self ..))]
    exact getF_code f _ _ r (fun c hc => ha c (List.mem_cons_of_mem _ hc)) (by simp only [List.length_cons] at h; omega)
theorem getF_not_short : ∀ (f i n : Nat) (a : List UInt8) (b : UInt8) (r : List UInt8), (∀ c ∈ a, 128 ≤ c.toNat) → b.toNat < 128 → (getF f i n (a ++ b :: r)).2.2 ≠ 5
  | 0, _, _, _, _, _, _, _ => by simp [getF]
  | f + 1, i, n, [], b, r, _, hb => by
    rw [List.nil_append, getF, if_neg (by omega)]
    split <;> simp
  | f + 1, i, n, c :: a, b, r, ha, hb => by
    rw [List.cons_append, getF, if_pos (ha c (List.mem_cons_self ..))]
    exact getF_not_short f _ _ a b r (fun d hd => ha d (List.mem_cons_of_mem _ hd)) hb

/-- The first bytes that are a number's end with the first byte below 128. -/
theorem end_take : ∀ (first : Bool) (u : Nat) (a : List UInt8) (b : UInt8) (r : List UInt8), (∀ c ∈ a, 128 ≤ c.toNat) → b.toNat < 128 → endB first ((a ++ b :: r).take u) = true → (a ++ b :: r).take u = a ++ [b]
  | first, 0, a, b, r, _, _, h => by simp [endB] at h
  | first, u + 1, [], b, r, _, hb, h => by
    rw [List.nil_append, List.take_succ_cons, endB, if_pos hb] at h
    simp only [Bool.and_eq_true, List.isEmpty_iff] at h
    rw [List.nil_append, List.take_succ_cons, h.1]
    rfl
  | first, u + 1, c :: a, b, r, ha, hb, h => by
    rw [List.cons_append, List.take_succ_cons, endB, if_neg (by have := ha c (List.mem_cons_self ..); omega)] at h
    rw [List.cons_append, List.take_succ_cons, end_take false u a b r (fun d hd => ha d (List.mem_cons_of_mem _ hd)) hb h]
    rfl

/-- What the document's own answer is: a is ahead of the first byte below 128. -/
theorem getNum_ref {a : List UInt8} {b : UInt8} {r : List UInt8} (ha : ∀ c ∈ a, 128 ≤ c.toNat) (hb : b.toNat < 128) :
    getNum (a ++ b :: r) = if val (a ++ [b]) ≤ maxNum ∧ num (val (a ++ [b])) = a ++ [b] then (val (a ++ [b]), a.length + 1, 0) else (0, 0, 6) := by
  split
  · rename_i h
    obtain ⟨h1, h2⟩ := h
    have := getNum_num h1 r
    rw [h2] at this
    rw [show a ++ b :: r = a ++ [b] ++ r by simp, this]
    simp
  · rename_i h
    rcases getNum_why (a ++ b :: r) with h0 | h0 | h0
    · exfalso
      obtain ⟨n, u, y, hg⟩ : ∃ n u y, getNum (a ++ b :: r) = (n, u, y) := ⟨_, _, _, rfl⟩
      rw [hg] at h0
      simp only at h0
      subst h0
      obtain ⟨_, _, _, h4, h5⟩ := getNum_ok hg
      obtain ⟨e1, e2⟩ := num_end (n := n) (Nat.lt_of_le_of_lt h5 (by decide))
      have h6 := end_take true u a b r ha hb (by rw [← h4]; exact e1)
      rw [h6] at h4
      apply h
      rw [← h4, e2]
      exact ⟨h5, rfl⟩
    · exfalso
      have := getF_not_short 7 0 0 a b r ha hb
      unfold getNum at h0
      rw [h0] at this
      exact this rfl
    · exact h0
theorem getNum_short {s : List UInt8} (ha : ∀ c ∈ s, 128 ≤ c.toNat) (h : s.length < 7) : getNum s = (0, 0, 5) := getF_short 7 0 0 s ha h
theorem getNum_code {s : List UInt8} (ha : ∀ c ∈ s.take 7, 128 ≤ c.toNat) (h : 7 ≤ s.length) : getNum s = (0, 0, 6) := getF_code 7 0 0 s ha h

theorem val_snoc (l : List UInt8) (b : UInt8) : val (l ++ [b]) = val l + 128 ^ l.length * (b.toNat % 128) := by
  induction l with
  | nil => simp [val]
  | cons c l ih =>
    rw [List.cons_append, val, val, ih, List.length_cons, Nat.pow_succ, Nat.mul_add]
    have : 128 * (128 ^ l.length * (b.toNat % 128)) = 128 ^ l.length * 128 * (b.toNat % 128) := by
      rw [← Nat.mul_assoc, Nat.mul_comm 128]
    omega
theorem val_lt : ∀ (l : List UInt8), val l < 128 ^ l.length
  | [] => by simp [val]
  | b :: r => by
    have := val_lt r
    rw [val, List.length_cons, Nat.pow_succ]
    have : b.toNat % 128 < 128 := Nat.mod_lt _ (by omega)
    omega

end Go.Proofs.YtfodloepkgkilaaDoor.Ref1S
