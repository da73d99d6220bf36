/-
  WHAT IS PROVED: a slice of lines among the arguments, opened; how long its strings are, where the reading is small. No condition beside those that each theorem names.
-/
import Derived.Test.YtfodloepkgkilaaDoorArgsW
import Derived.Test.YtfodloepkgkilaaDoorTlist
import Derived.Test.YtfodloepkgkilaaDoorRows
namespace Go.Proofs.YtfodloepkgkilaaDoor.ArgsL
open Go Go.ChangeShapes Go.WideShapes Go.RowKit Go.Proofs.YtfodloepkgkilaaDoor Go.Proofs.YtfodloepkgkilaaDoor.Tline Go.Proofs.YtfodloepkgkilaaDoor.TimelineS
set_option linter.unusedVariables false
set_option linter.unusedSimpArgs false

section
variable {H : Type} {enc : TypeId × Value → H} {P : Program} {w : World} {spare : Nat → Bool} {held : Bool}

/-- As 'open_flat', with each thing's datum. -/
theorem open_flatE {α : Type} [Inhabited α] {t e : TypeId} (ht : P.underlying t = some (.slice e)) {n : Nat} {ks : List CK} (hf : flat P n e = some ks) (hc : P.cellsOf e = ks.length) (f : α → List Value) (good : α → DataW H → Prop)
    (hα : ∀ cs dd q m, Fits ks cs → DataW.trod enc P w 0 spare held m e cs = some (dd, q) → ∃ x, cs = f x ∧ good x dd) {v : Value} {d : DataW H} {ps : List MemPlace} (h : DataW.Trod enc P w 0 spare held t v d ps) (hv : ∃ a l c, v = .slice a l c) :
    ∃ xs : List α, Sl w v ks.length xs.length (xs.flatMap f) ∧ ∀ x ∈ xs, ∃ dd elems rest, good x dd ∧ d = .slice elems rest ∧ dd ∈ elems := by
  obtain ⟨fuel, hx⟩ := h
  obtain ⟨a0, l0, c0, rfl⟩ := hv
  rcases Go.Deep.open_slice ht hx with ⟨h0, _⟩ | ⟨a, len, cap, m, q, D, Pl, h0, _, hl, hm, hmm, hdd, hel⟩
  · simp [Value.cells] at h0
    obtain ⟨rfl, rfl, rfl⟩ := h0
    exact ⟨[], Sl.nil w _, fun x hx => by simp at hx⟩
  · simp [Value.cells] at h0
    obtain ⟨rfl, rfl, rfl⟩ := h0
    have hd : d = .slice ((List.range l0).map D) ((List.range (m - l0)).map fun j => D (l0 + j)) := congrArg Prod.fst hdd
    have hml : l0 ≤ m := by rw [hmm]; split <;> omega
    obtain ⟨X, hX⟩ := Go.Deep.choose_lt (n := l0) (p := fun i (x : α) => (∀ j u, (f x)[j]? = some u → w.cell? ((a.add (i * ks.length)).add j) = some u) ∧ (f x).length = ks.length ∧ good x (D i)) (fun i hi => by
      obtain ⟨cs', h1, h2⟩ := hel i (by omega)
      rw [hc] at h1
      have hfit := fits_of_trod n e ks hf q cs' _ h2
      obtain ⟨x, rfl, hg⟩ := hα cs' _ _ _ hfit h2
      obtain ⟨_, _, hcell⟩ := World.cells?_some h1
      exact ⟨x, fun j u hu => by
        have hj : j < (f x).length := (List.getElem?_eq_some_iff.1 hu).1
        have := hcell j (by have := hfit.1; omega)
        rw [this]
        exact hu, hfit.1.symm, hg⟩)
    refine ⟨(List.range l0).map X, ⟨?_, .inr ⟨a, c0, by simp, by simp; omega, hm, fun j u hu => ?_⟩⟩, fun x hx => ?_⟩
    · have : ∀ (L : List Nat), (∀ i ∈ L, i < l0) → ((L.map X).flatMap f).length = L.length * ks.length := by
        intro L
        induction L with
        | nil => intro _; simp
        | cons i L ih =>
          intro hL
          rw [List.map_cons, List.flatMap_cons, List.length_append, ih (fun k hk => hL k (List.mem_cons_of_mem _ hk)), (hX i (hL i (List.mem_cons_self ..))).2.1, List.length_cons, Nat.add_mul]
          omega
      have := this (List.range l0) (fun i hi => List.mem_range.1 hi)
      simpa using this
    · have key : ∀ (N s : Nat), s + N ≤ l0 → ∀ j u, (((List.range' s N).map X).flatMap f)[j]? = some u → w.cell? (a.add (s * ks.length + j)) = some u := by
        intro N
        induction N with
        | zero => intro s _ j u hu; simp at hu
        | succ N ih =>
          intro s hs j u hu
          rw [List.range'_succ, List.map_cons, List.flatMap_cons] at hu
          have hs' := hX s (by omega)
          by_cases hj : j < (f (X s)).length
          · rw [List.getElem?_append_left hj] at hu
            have := hs'.1 j u hu
            rwa [addr_add_add] at this
          · rw [List.getElem?_append_right (by omega)] at hu
            have := ih (s + 1) (by omega) (j - (f (X s)).length) u hu
            rw [hs'.2.1] at this
            rw [show s * ks.length + j = (s + 1) * ks.length + (j - ks.length) by rw [Nat.add_mul]; have := hs'.2.1; omega]
            exact this
      have := key l0 0 (by omega) j u (by rw [← List.range_eq_range']; exact hu)
      simpa using this
    · obtain ⟨i, hi, rfl⟩ := List.mem_map.1 hx
      exact ⟨D i, _, _, (hX i (List.mem_range.1 hi)).2.2, hd, List.mem_map.2 ⟨i, hi, rfl⟩⟩
end

section
variable {H : Type} {enc : TypeId × Value → H} {w : World} {spare : Nat → Bool} {held : Bool}
def lineKs : List CK := [some (some .i64), none, none, some none]
theorem flatLine : flat Tryd.prog 4 63 = some lineKs := by kernel_rfl
instance : Inhabited Ln := ⟨⟨0, ⟨#[]⟩, ⟨#[]⟩, false⟩⟩
theorem line_of (cs : List Value) (dd : DataW H) (q : List MemPlace) (m : Nat) (hf : Fits lineKs cs) (ht : DataW.trod enc Tryd.prog w 0 spare held m 63 cs = some (dd, q)) :
    ∃ x : Ln, cs = x.cs ∧ ∃ parts, dd = .agg parts ∧ parts[1]? = some (.lit (.string (bl x.sd))) ∧ parts[2]? = some (.lit (.string (bl x.bd))) := by
  have hS : Tryd.prog.underlying 63 = some (.struct (Tryd.prog.fieldsOf 63)) := by kernel_rfl
  have f1 : (Tryd.prog.fieldsOf 63)[1]? = some ⟨"Sender", 9, 1, false, "", "", 8⟩ := by kernel_rfl
  have f2 : (Tryd.prog.fieldsOf 63)[2]? = some ⟨"Body", 9, 2, false, "", "", 24⟩ := by kernel_rfl
  have h6 : (Tryd.prog.fieldsOf 63).size = 4 := by kernel_rfl
  obtain ⟨hl, hk⟩ := hf
  match cs, hl with
  | [v0, v1, v2, v3], _ =>
    obtain ⟨_, e0, n0, rfl, _⟩ := hk 0 (some (some .i64)) rfl
    obtain ⟨_, e1, s1, rfl, _⟩ := hk 1 none rfl
    obtain ⟨_, e2, s2, rfl, _⟩ := hk 2 none rfl
    obtain ⟨_, e3, b3, rfl⟩ := hk 3 (some none) rfl
    simp only [List.getElem?_cons_zero, List.getElem?_cons_succ, Option.some.injEq] at e0 e1 e2 e3
    subst e0 e1 e2 e3
    refine ⟨⟨n0, s1, s2, b3⟩, rfl, ?_⟩
    obtain ⟨xs, n, hx1, hx2, _, hxl, hget⟩ := DataW.trod_struct hS ht
    rw [h6] at hxl
    have g1 := hget 1 _ f1
    have g2 := hget 2 _ f2
    rw [List.getElem?_eq_getElem (by omega)] at g1 g2
    obtain ⟨t1, a1, b1, _⟩ := LaidE.field_str (fuel := 1) (y := none) xs[1] g1
    obtain ⟨t2, a2, b2, _⟩ := LaidE.field_str (fuel := 2) (y := none) xs[2] g2
    simp only [List.getElem?_cons_zero, List.getElem?_cons_succ, Option.some.injEq, Value.string.injEq] at a1 a2
    subst a1 a2
    refine ⟨xs.map (·.1), congrArg Prod.fst hx2, ?_, ?_⟩
    · rw [List.getElem?_map, List.getElem?_eq_getElem (by omega)]
      exact congrArg some b1
    · rw [List.getElem?_map, List.getElem?_eq_getElem (by omega)]
      exact congrArg some b2
end

/-! ### How much it is -/
theorem bulk_mem {H : Type} {d : DataW H} : ∀ {l : List (DataW H)}, d ∈ l → Rows.uptoBulk d ≤ Rows.uptoBulkAll l
  | [], h => by cases h
  | x :: r, h => by
    rw [Rows.uptoBulkAll]
    rcases List.mem_cons.1 h with rfl | h
    · omega
    · have := bulk_mem h
      omega
theorem line_small {H : Type} {ds : List (DataW H)} {d dd : DataW H} {elems rest parts : List (DataW H)} {x : Ln} (hs : Rows.uptoBulkAll ds ≤ 1048576) (hd : d ∈ ds) (he : d = .slice elems rest) (hm : dd ∈ elems) (hp : dd = .agg parts)
    (h1 : parts[1]? = some (.lit (.string (bl x.sd)))) (h2 : parts[2]? = some (.lit (.string (bl x.bd)))) : x.sd.size ≤ 1048576 ∧ x.bd.size ≤ 1048576 := by
  have a := bulk_mem hd
  have b := bulk_mem hm
  rw [he, Rows.uptoBulk] at a
  have c1 := bulk_mem (List.mem_of_getElem? h1)
  have c2 := bulk_mem (List.mem_of_getElem? h2)
  rw [hp, Rows.uptoBulk] at b
  rw [Rows.uptoBulk, bl_length] at c1 c2
  omega
theorem texts_small (M : Nat) : ∀ (l : List Ln), (∀ x ∈ l, x.sd.size ≤ M ∧ x.bd.size ≤ M) → (textsOf (l.map Ln.p)).length ≤ l.length * (2 * M + 4)
  | [], _ => by simp [textsOf]
  | x :: r, h => by
    have ih := texts_small M r (fun y hy => h y (List.mem_cons_of_mem _ hy))
    obtain ⟨h1, h2⟩ := h x (List.mem_cons_self ..)
    unfold textsOf at ih ⊢
    rw [List.map_cons, List.flatMap_cons, List.length_append, List.length_cons, Nat.add_mul]
    have : (textOf x.p).length ≤ 2 * M + 4 := by
      unfold textOf Ln.p
      simp only [List.length_append, bl_length, List.length_cons, List.length_nil]
      split
      · simp only [List.length_cons, List.length_nil]; omega
      · rw [plain_length, bl_length]; omega
    omega

end Go.Proofs.YtfodloepkgkilaaDoor.ArgsL
