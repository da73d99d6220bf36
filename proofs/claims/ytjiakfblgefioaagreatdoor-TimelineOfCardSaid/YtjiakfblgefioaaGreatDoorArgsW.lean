/-
  WHAT IS PROVED: a slice among the arguments, opened, whose things' weights are known. No condition beside those that each theorem names.
-/
import Derived.Test.YtjiakfblgefioaaGreatDoorArgs
import Derived.Test.YtjiakfblgefioaaGreatDoorLaidV
import Derived.Test.YtjiakfblgefioaaGreatDoorTread
namespace Go.Proofs.YtjiakfblgefioaaGreatDoor.ArgsW
open Go Go.ChangeShapes Go.WideShapes Go.RowKit Go.Proofs.YtjiakfblgefioaaGreatDoor
set_option linter.unusedVariables false
set_option linter.unusedSimpArgs false

section
variable {H : Type} {enc : TypeId × Value → H} {P : Program} {w : World} {spare : Nat → Bool} {held : Bool}

theorem mem_weightsAll {e : TypeId} {n : Nat} : ∀ {l : List (DataW H)} {d : DataW H}, d ∈ l → n ∈ d.weights P e → n ∈ DataW.weightsAll P e l
  | [], d, h, _ => by cases h
  | x :: r, d, h, hn => by
    rw [DataW.weightsAll, List.mem_append]
    rcases List.mem_cons.1 h with rfl | h
    · exact .inl hn
    · exact .inr (mem_weightsAll h hn)

/-- As 'open_flat', with each thing's datum, and its weights. -/
theorem open_flatW {α : Type} [Inhabited α] {t e : TypeId} (ht : P.underlying t = some (.slice e)) {n : Nat} {ks : List CK} (hf : flat P n e = some ks) (hc : P.cellsOf e = ks.length) (f : α → List Value) (good : α → DataW H → Prop)
    (hα : ∀ cs dd q m, Fits ks cs → DataW.trod enc P w 0 spare held m e cs = some (dd, q) → ∃ x, cs = f x ∧ good x dd) {v : Value} {d : DataW H} {ps : List MemPlace} (h : DataW.Trod enc P w 0 spare held t v d ps) (hv : ∃ a l c, v = .slice a l c) :
    ∃ xs : List α, Sl w v ks.length xs.length (xs.flatMap f) ∧ ∀ x ∈ xs, ∃ dd, good x dd ∧ ∀ k ∈ dd.weights P e, k ∈ d.weights P t := by
  obtain ⟨fuel, hx⟩ := h
  obtain ⟨a0, l0, c0, rfl⟩ := hv
  rcases Go.Deep.open_slice ht hx with ⟨h0, _⟩ | ⟨a, len, cap, m, q, D, Pl, h0, _, hl, hm, hmm, hdd, hel⟩
  · simp [Value.cells] at h0
    obtain ⟨rfl, rfl, rfl⟩ := h0
    exact ⟨[], Sl.nil w _, fun x hx => by simp at hx⟩
  · simp [Value.cells] at h0
    obtain ⟨rfl, rfl, rfl⟩ := h0
    have hd : d = .slice ((List.range l0).map D) ((List.range (m - l0)).map fun j => D (l0 + j)) := congrArg Prod.fst hdd
    have hw : ∀ i, i < l0 → ∀ k ∈ (D i).weights P e, k ∈ d.weights P t := fun i hi k hk => by
      rw [hd, DataW.weights, ht]
      refine List.mem_cons_of_mem _ (List.mem_append_left _ (mem_weightsAll (List.mem_map.2 ⟨i, List.mem_range.2 hi, rfl⟩) hk))
    have hml : l0 ≤ m := by rw [hmm]; split <;> omega
    obtain ⟨X, hX⟩ := Go.Deep.choose_lt (n := l0) (p := fun i (x : α) => (∀ j u, (f x)[j]? = some u → w.cell? ((a.add (i * ks.length)).add j) = some u) ∧ (f x).length = ks.length ∧ good x (D i)) (fun i hi => by
      obtain ⟨cs', h1, h2⟩ := hel i (by omega)
      rw [hc] at h1
      have hfit := fits_of_trod n e ks hf q cs' _ h2
      obtain ⟨x, rfl, hg⟩ := hα cs' _ _ _ hfit h2
      obtain ⟨_, _, hcell⟩ := World.cells?_some h1
      exact ⟨x, fun j u hu => by
        have hj : j < (f x).length := (List.getElem?_eq_some_iff.1 hu).1
        have := hcell j (by have := hfit.1; omega)
        rw [this]
        exact hu, hfit.1.symm, hg⟩)
    refine ⟨(List.range l0).map X, ⟨?_, .inr ⟨a, c0, by simp, by simp; omega, hm, fun j u hu => ?_⟩⟩, fun x hx => ?_⟩
    · have : ∀ (L : List Nat), (∀ i ∈ L, i < l0) → ((L.map X).flatMap f).length = L.length * ks.length := by
        intro L
        induction L with
        | nil => intro _; simp
        | cons i L ih =>
          intro hL
          rw [List.map_cons, List.flatMap_cons, List.length_append, ih (fun k hk => hL k (List.mem_cons_of_mem _ hk)), (hX i (hL i (List.mem_cons_self ..))).2.1, List.length_cons, Nat.add_mul]
          omega
      have := this (List.range l0) (fun i hi => List.mem_range.1 hi)
      simpa using this
    · have key : ∀ (N s : Nat), s + N ≤ l0 → ∀ j u, (((List.range' s N).map X).flatMap f)[j]? = some u → w.cell? (a.add (s * ks.length + j)) = some u := by
        intro N
        induction N with
        | zero => intro s _ j u hu; simp at hu
        | succ N ih =>
          intro s hs j u hu
          rw [List.range'_succ, List.map_cons, List.flatMap_cons] at hu
          have hs' := hX s (by omega)
          by_cases hj : j < (f (X s)).length
          · rw [List.getElem?_append_left hj] at hu
            have := hs'.1 j u hu
            rwa [addr_add_add] at this
          · rw [List.getElem?_append_right (by omega)] at hu
            have := ih (s + 1) (by omega) (j - (f (X s)).length) u hu
            rw [hs'.2.1] at this
            rw [show s * ks.length + j = (s + 1) * ks.length + (j - ks.length) by rw [Nat.add_mul]; have := hs'.2.1; omega]
            exact this
      have := key l0 0 (by omega) j u (by rw [← List.range_eq_range']; exact hu)
      simpa using this
    · obtain ⟨i, hi, rfl⟩ := List.mem_map.1 hx
      exact ⟨D i, (hX i (List.mem_range.1 hi)).2.2, hw i (List.mem_range.1 hi)⟩
end

/-! ### Entries -/
section
variable {H : Type} {enc : TypeId × Value → H} {w : World} {spare : Nat → Bool} {held : Bool}
def entryKs : List CK := [none, some (some .i64), some (some .i64)] ++ List.replicate 32 (some (some .u8)) ++ [none, none]
theorem flatEntry : flat Tryz.prog 5 62 = some entryKs := by kernel_rfl
instance : Inhabited Tread.En := ⟨⟨⟨#[]⟩, 0, 0, List.replicate 32 (.int .u8 0), ⟨#[]⟩, ⟨#[]⟩, rfl, fun u hu => by rw [List.eq_of_mem_replicate hu]; rfl⟩⟩
theorem entry_of (cs : List Value) (dd : DataW H) (q : List MemPlace) (m : Nat) (hf : Fits entryKs cs) (ht : DataW.trod enc Tryz.prog w 0 spare held m 62 cs = some (dd, q)) : ∃ x : Tread.En, cs = x.cs ∧ (bl x.ev).length ∈ dd.weights Tryz.prog 62 := by
  have hS : Tryz.prog.underlying 62 = some (.struct (Tryz.prog.fieldsOf 62)) := by kernel_rfl
  have hT : (Tryz.prog.fieldsOf 62).toList.map (·.type) = [9, 3, 3, 60, 9, 9] := by kernel_rfl
  have h4 : (Tryz.prog.fieldsOf 62)[4]? = some ⟨"Event", 9, 35, false, "", "", 64⟩ := by kernel_rfl
  obtain ⟨hl, hk⟩ := hf
  have hl' : cs.length = 37 := hl.symm
  obtain ⟨_, e0, s0, rfl, _⟩ := hk 0 none rfl
  obtain ⟨_, e1, n1, rfl, _⟩ := hk 1 (some (some .i64)) rfl
  obtain ⟨_, e2, n2, rfl, _⟩ := hk 2 (some (some .i64)) rfl
  obtain ⟨_, e35, s35, rfl, _⟩ := hk 35 none rfl
  obtain ⟨_, e36, s36, rfl, _⟩ := hk 36 none rfl
  have hone : ∀ u ∈ (cs.drop 3).take 32, u.oneCell' = true := by
    intro u hu
    obtain ⟨i, hi⟩ := List.mem_iff_getElem?.1 hu
    rw [List.getElem?_take] at hi
    split at hi
    · rename_i h32
      rw [List.getElem?_drop] at hi
      have hki : entryKs[3 + i]? = some (some (some .u8)) := by
        unfold entryKs
        rw [List.getElem?_append_left (by simp; omega), List.getElem?_append_right (by simp), List.getElem?_replicate]
        simp
        omega
      obtain ⟨v, hv, n, hn, _⟩ := hk (3 + i) _ hki
      rw [hv] at hi
      simp only [Option.some.injEq] at hi
      rw [← hi, hn]
      rfl
    · cases hi
  refine ⟨⟨s0, n1, n2, (cs.drop 3).take 32, s35, s36, by rw [List.length_take, List.length_drop, hl']; rfl, hone⟩, ?_, ?_⟩
  · unfold Tread.En.cs
    apply List.ext_getElem?
    intro i
    rcases i with _ | _ | _ | i
    · exact e0
    · exact e1
    · exact e2
    · simp only [List.cons_append, List.nil_append, List.append_assoc, List.getElem?_cons_succ]
      by_cases h32 : i < 32
      · rw [List.getElem?_append_left (by rw [List.length_take, List.length_drop]; omega), List.getElem?_take, if_pos h32, List.getElem?_drop]
        exact congrArg (fun z => cs[z]?) (by omega)
      · rw [List.getElem?_append_right (by rw [List.length_take]; omega), List.length_take, List.length_drop, hl']
        rcases Nat.lt_or_ge i 34 with h | h
        · obtain rfl | rfl : i = 32 ∨ i = 33 := by omega
          · exact e35
          · exact e36
        · rw [List.getElem?_eq_none (by omega), List.getElem?_eq_none (by simp; omega)]
  · obtain ⟨xs, n, hx1, hx2, _, hxl, hget⟩ := DataW.trod_struct hS ht
    have h4' := hget 4 _ h4
    obtain ⟨s, e, hs⟩ : ∃ s : ByteArray, cs[35]? = some (.string s) ∧ (xs.getD 4 (.nil, [])).1 = .lit (.string (bl s)) := by
      have hlt : 4 < xs.length := by
        rw [hxl]
        exact (Array.getElem?_eq_some_iff.1 h4).1
      rw [List.getElem?_eq_getElem hlt] at h4'
      obtain ⟨s, h1, h2, _⟩ := LaidE.field_str (fuel := 35) (cs := cs) (y := none) xs[4] h4'
      refine ⟨s, h1, ?_⟩
      rw [List.getD_eq_getElem?_getD, List.getElem?_eq_getElem hlt]
      exact h2
    rw [e35] at e
    simp only [Option.some.injEq, Value.string.injEq] at e
    subst e
    have hdd : dd = .agg (xs.map (·.1)) := by
      have := congrArg Prod.fst hx2
      exact this
    rw [hdd, DataW.weights, hS]
    simp only
    rw [hT]
    have h6 : (Tryz.prog.fieldsOf 62).size = 6 := by kernel_rfl
    rw [h6] at hxl
    clear hget h4' hx2 hdd
    match xs, hxl, hs with
    | [x0, x1, x2, x3, x4, x5], _, hs =>
      simp only [List.getD_cons_succ, List.getD_cons_zero] at hs
      simp only [List.map_cons, List.map_nil, DataW.weightsEach, hs, DataW.weights, List.mem_append, List.mem_cons, List.not_mem_nil, or_false]
      simp
end
end Go.Proofs.YtjiakfblgefioaaGreatDoor.ArgsW
