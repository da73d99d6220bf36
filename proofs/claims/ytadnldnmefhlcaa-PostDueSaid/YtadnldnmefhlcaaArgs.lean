/-
  WHAT IS PROVED: how an argument lies in memory that is a slice of things without pointers: their cells, in order, each of its kind. No condition beside those that each theorem names.
-/
import Derived.Test.YtadnldnmefhlcaaBase
import Derived.OpenShut
import Derived.Deep.Slices
import Derived.Carry
namespace Go.Proofs.Ytadnldnmefhlcaa
open Go Go.RowKit Go.ChangeShapes Go.WideShapes

/-- The kind of a cell: a string's, a bool's, an integer's. -/
abbrev CK := Option (Option IntKind)

def ckOK : CK → Value → Prop
  | none, v => ∃ s : ByteArray, v = .string s ∧ s.size ≤ maxLen
  | some none, v => ∃ b, v = .bool b
  | some (some k), v => ∃ n, v = .int k n ∧ (Lit.int k n).wf = true

def flatFields (P : Program) (F : TypeId → Option (List CK)) : Nat → List Field → Option (List CK)
  | _, [] => some []
  | off, f :: r => match F f.type with
    | some l => if f.offset = off ∧ P.cellsOf f.type = l.length then (flatFields P F (off + l.length) r).map (l ++ ·) else none
    | none => none

/-- The cells' kinds of a type without pointers. -/
def flat (P : Program) : Nat → TypeId → Option (List CK)
  | 0, _ => none
  | n + 1, t => match P.underlying t with
    | some .bool => some [some none]
    | some (.int k) => some [some (some k)]
    | some .string => some [none]
    | some (.struct fs) => match flatFields P (flat P n) 0 fs.toList with
      | some l => if P.cellsOf t = l.length then some l else none
      | none => none
    | some (.array m e) => match flat P n e with
      | some l => if P.cellsOf t = m * l.length ∧ P.cellsOf e = l.length then some ((List.replicate m l).flatten) else none
      | none => none
    | _ => none

/-- The cells are of these kinds. -/
def Fits (ks : List CK) (cs : List Value) : Prop := ks.length = cs.length ∧ ∀ (i : Nat) (k : CK), ks[i]? = some k → ∃ v, cs[i]? = some v ∧ ckOK k v

theorem Fits.nil : Fits [] [] := ⟨rfl, fun i k h => by simp at h⟩

theorem fits_fields {P : Program} {F : TypeId → Option (List CK)} {cs : List Value} : ∀ (fs : List Field) (off : Nat) (ks : List CK), flatFields P F off fs = some ks →
    (∀ f ∈ fs, ∀ l, F f.type = some l → P.cellsOf f.type = l.length → Fits l ((cs.drop f.offset).take (P.cellsOf f.type))) → ∀ (i : Nat) (k : CK), ks[i]? = some k → ∃ v, cs[off + i]? = some v ∧ ckOK k v
  | [], off, ks, h, _, i, k, hk => by
    simp [flatFields] at h
    subst h
    simp at hk
  | f :: r, off, ks, h, hf, i, k, hk => by
    simp only [flatFields] at h
    cases hl : F f.type with
    | none => rw [hl] at h; cases h
    | some l =>
      rw [hl] at h
      simp only at h
      split at h
      · rename_i hc
        obtain ⟨ks', hks, rfl⟩ := Option.map_eq_some_iff.1 h
        by_cases hi : i < l.length
        · rw [List.getElem?_append_left hi] at hk
          obtain ⟨v, hv, hok⟩ := (hf f (List.mem_cons_self ..) l hl hc.2).2 i k hk
          rw [List.getElem?_take] at hv
          split at hv
          · rw [List.getElem?_drop, hc.1] at hv
            exact ⟨v, hv, hok⟩
          · cases hv
        · rw [List.getElem?_append_right (by omega)] at hk
          obtain ⟨v, hv, hok⟩ := fits_fields r (off + l.length) ks' hks (fun f' hm => hf f' (List.mem_cons_of_mem _ hm)) (i - l.length) k hk
          exact ⟨v, by rw [show off + i = off + l.length + (i - l.length) by omega]; exact hv, hok⟩
      · cases h

theorem get_flatten_replicate {α : Type} (l : List α) : ∀ (m i : Nat), i < m * l.length → (List.replicate m l).flatten[i]? = l[i % l.length]?
  | 0, i, h => by simp at h
  | m + 1, i, h => by
    have hl : 0 < l.length := by
      rcases Nat.eq_zero_or_pos l.length with h0 | h0
      · rw [h0] at h; simp at h
      · exact h0
    rw [List.replicate_succ, List.flatten_cons]
    by_cases hi : i < l.length
    · rw [List.getElem?_append_left hi, Nat.mod_eq_of_lt hi]
    · rw [List.getElem?_append_right (by omega), get_flatten_replicate l m (i - l.length) (by rw [Nat.add_mul] at h; omega)]
      congr 1
      rw [Nat.mod_eq_sub_mod (a := i) (by omega)]

section
variable {H : Type} {enc : TypeId × Value → H} {P : Program} {w : World} {base : Nat} {spare : Nat → Bool} {held : Bool}

theorem fits_of_trod : ∀ (n : Nat) (t : TypeId) (ks : List CK), flat P n t = some ks → ∀ (fuel : Nat) (cs : List Value) (x : DataW H × List MemPlace), DataW.trod enc P w base spare held fuel t cs = some x → Fits ks cs := by
  intro n
  induction n with
  | zero => intro t ks h; simp [flat] at h
  | succ n ih =>
    intro t ks h fuel cs x hx
    simp only [flat] at h
    cases hu : P.underlying t with
    | none => rw [hu] at h; cases h
    | some d =>
      rw [hu] at h
      cases d with
      | bool =>
        simp only [Option.some.injEq] at h
        subst h
        obtain ⟨b, rfl, _⟩ := DataW.trod_bool hu hx
        exact ⟨rfl, fun i k hk => by match i, hk with | 0, hk => simp at hk; subst hk; exact ⟨_, rfl, b, rfl⟩⟩
      | int kd =>
        simp only [Option.some.injEq] at h
        subst h
        obtain ⟨z, rfl, _, hw⟩ := DataW.trod_int hu hx
        exact ⟨rfl, fun i k hk => by match i, hk with | 0, hk => simp at hk; subst hk; exact ⟨_, rfl, z, rfl, hw⟩⟩
      | string =>
        simp only [Option.some.injEq] at h
        subst h
        obtain ⟨s, rfl, _, hw⟩ := DataW.trod_string hu hx
        exact ⟨rfl, fun i k hk => by match i, hk with | 0, hk => simp at hk; subst hk; exact ⟨_, rfl, s, rfl, hw⟩⟩
      | struct fs =>
        simp only at h
        cases hf : flatFields P (flat P n) 0 fs.toList with
        | none => rw [hf] at h; cases h
        | some l =>
          rw [hf] at h
          simp only at h
          split at h
          · rename_i hc
            simp only [Option.some.injEq] at h
            subst h
            obtain ⟨xs, m, _, _, hlen, hxl, hget⟩ := DataW.trod_struct hu hx
            refine ⟨by omega, fun i k hk => ?_⟩
            have := fits_fields (cs := cs) fs.toList 0 l hf (fun f hm l' hl' hc' => ?_) i k hk
            · simpa using this
            · obtain ⟨j, hj⟩ := List.mem_iff_getElem?.1 hm
              have hj' : fs[j]? = some f := by simpa using hj
              have h1 := hget j f hj'
              have hlt : j < xs.length := by rw [hxl]; exact (Array.getElem?_eq_some_iff.1 hj').1
              rw [List.getElem?_eq_getElem hlt] at h1
              exact ih f.type l' hl' m _ _ h1
          · cases h
      | array m e =>
        simp only at h
        cases hf : flat P n e with
        | none => rw [hf] at h; cases h
        | some l =>
          rw [hf] at h
          simp only at h
          split at h
          · rename_i hc
            simp only [Option.some.injEq] at h
            subst h
            obtain ⟨xs, q, _, _, hlen, hxl, hget⟩ := DataW.trod_array hu hx
            refine ⟨by rw [List.length_flatten]; simp; omega, fun i k hk => ?_⟩
            have hi : i < m * l.length := by
              have := (List.getElem?_eq_some_iff.1 hk).1
              rw [List.length_flatten] at this
              simpa using this
            have hl : 0 < l.length := by
              rcases Nat.eq_zero_or_pos l.length with h0 | h0
              · rw [h0] at hi; simp at hi
              · exact h0
            rw [get_flatten_replicate l m i hi] at hk
            have hd : i / l.length < m := Nat.div_lt_of_lt_mul (by rw [Nat.mul_comm]; exact hi)
            have h1 := hget (i / l.length) hd
            rw [List.getElem?_eq_getElem (by omega)] at h1
            obtain ⟨v, hv, hok⟩ := (ih e l hf q _ _ h1).2 (i % l.length) k hk
            rw [List.getElem?_take] at hv
            split at hv
            · rw [List.getElem?_drop, hc.2] at hv
              refine ⟨v, ?_, hok⟩
              rw [← hv]
              congr 1
              rw [Nat.mul_comm]
              exact (Nat.div_add_mod i l.length).symm
            · cases hv
          · cases h
      | _ => cases h

/-- A slice of things of one flat type: its cells, in order, a thing behind the other. -/
theorem open_flat {α : Type} [Inhabited α] {t e : TypeId} (ht : P.underlying t = some (.slice e)) {n : Nat} {ks : List CK} (hf : flat P n e = some ks) (hc : P.cellsOf e = ks.length) (f : α → List Value) (good : α → Prop)
    (hα : ∀ cs, Fits ks cs → ∃ x, cs = f x ∧ good x) {v : Value} {d : DataW H} {ps : List MemPlace} (h : DataW.Trod enc P w 0 spare held t v d ps) (hv : ∃ a l c, v = .slice a l c) :
    ∃ xs : List α, Sl w v ks.length xs.length (xs.flatMap f) ∧ ∀ x ∈ xs, good x := by
  obtain ⟨fuel, hx⟩ := h
  obtain ⟨a0, l0, c0, rfl⟩ := hv
  rcases Go.Deep.open_slice ht hx with ⟨h0, _⟩ | ⟨a, len, cap, m, q, D, Pl, h0, _, hl, hm, hmm, _, hel⟩
  · simp [Value.cells] at h0
    obtain ⟨rfl, rfl, rfl⟩ := h0
    exact ⟨[], Sl.nil w _, fun x hx => by simp at hx⟩
  · simp [Value.cells] at h0
    obtain ⟨rfl, rfl, rfl⟩ := h0
    have hml : l0 ≤ m := by rw [hmm]; split <;> omega
    obtain ⟨X, hX⟩ := Go.Deep.choose_lt (n := l0) (p := fun i (x : α) => (∀ j u, (f x)[j]? = some u → w.cell? ((a.add (i * ks.length)).add j) = some u) ∧ (f x).length = ks.length ∧ good x) (fun i hi => by
      obtain ⟨cs', h1, h2⟩ := hel i (by omega)
      rw [hc] at h1
      have hfit := fits_of_trod n e ks hf q cs' _ h2
      obtain ⟨x, rfl, hg⟩ := hα cs' hfit
      obtain ⟨_, _, hcell⟩ := World.cells?_some h1
      exact ⟨x, fun j u hu => by
        have hj : j < (f x).length := (List.getElem?_eq_some_iff.1 hu).1
        have := hcell j (by have := hfit.1; omega)
        rw [this]
        exact hu, hfit.1.symm, hg⟩)
    refine ⟨(List.range l0).map X, ⟨?_, .inr ⟨a, c0, by simp, by simp; omega, hm, fun j u hu => ?_⟩⟩, fun x hx => ?_⟩
    · have : ∀ (L : List Nat), (∀ i ∈ L, i < l0) → ((L.map X).flatMap f).length = L.length * ks.length := by
        intro L
        induction L with
        | nil => intro _; simp
        | cons i L ih =>
          intro hL
          rw [List.map_cons, List.flatMap_cons, List.length_append, ih (fun k hk => hL k (List.mem_cons_of_mem _ hk)), (hX i (hL i (List.mem_cons_self ..))).2.1, List.length_cons, Nat.add_mul]
          omega
      have := this (List.range l0) (fun i hi => List.mem_range.1 hi)
      simpa using this
    · have key : ∀ (N s : Nat), s + N ≤ l0 → ∀ j u, (((List.range' s N).map X).flatMap f)[j]? = some u → w.cell? (a.add (s * ks.length + j)) = some u := by
        intro N
        induction N with
        | zero => intro s _ j u hu; simp at hu
        | succ N ih =>
          intro s hs j u hu
          rw [List.range'_succ, List.map_cons, List.flatMap_cons] at hu
          have hs' := hX s (by omega)
          by_cases hj : j < (f (X s)).length
          · rw [List.getElem?_append_left hj] at hu
            have := hs'.1 j u hu
            rwa [addr_add_add] at this
          · rw [List.getElem?_append_right (by omega)] at hu
            have := ih (s + 1) (by omega) (j - (f (X s)).length) u hu
            rw [hs'.2.1] at this
            rw [show s * ks.length + j = (s + 1) * ks.length + (j - ks.length) by rw [Nat.add_mul]; have := hs'.2.1; omega]
            exact this
      have := key l0 0 (by omega) j u (by rw [← List.range_eq_range']; exact hu)
      simpa using this
    · obtain ⟨i, hi, rfl⟩ := List.mem_map.1 hx
      exact (hX i (List.mem_range.1 hi)).2.2

end
end Go.Proofs.Ytadnldnmefhlcaa
