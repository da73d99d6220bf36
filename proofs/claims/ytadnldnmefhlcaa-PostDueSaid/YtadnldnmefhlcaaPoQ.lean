/-
  WHAT IS PROVED: the plain law behind PostDue: what a list of times knows of the letters of a box. Condition: what each theorem names.
-/
import Derived.Test.YtadnldnmefhlcaaPoM
namespace Go.Proofs.Ytadnldnmefhlcaa.PoQ
open Go Go.Proofs.Ytadnldnmefhlcaa Go.Proofs.Ytadnldnmefhlcaa.PostA Go.Proofs.Ytadnldnmefhlcaa.PostF Go.Proofs.Ytadnldnmefhlcaa.PostN Go.Proofs.Ytadnldnmefhlcaa.PostP Go.Proofs.Ytadnldnmefhlcaa.PostR Go.Proofs.Ytadnldnmefhlcaa.PoM
set_option linter.unusedVariables false
set_option linter.unusedSimpArgs false

def oneT (g now : Int) (T : List Int) (x : Lt) : List Int := if dueB g now x then T.set x.id.toNat now else T
def updT (g now : Int) (T : List Int) (l : List Lt) : List Int := l.foldl (oneT g now) T
theorem one_len (g now : Int) (T : List Int) (x : Lt) : (oneT g now T x).length = T.length := by unfold oneT; split <;> simp
theorem upd_len (g now : Int) : ∀ (l : List Lt) (T : List Int), (updT g now T l).length = T.length
  | [], _ => rfl
  | x :: l, T => by
    show (updT g now (oneT g now T x) l).length = _
    rw [upd_len g now l, one_len]
theorem upd_far (g now : Int) {d : Nat} : ∀ (l : List Lt) (T : List Int), (∀ x ∈ l, x.id.toNat ≠ d) → (updT g now T l)[d]? = T[d]?
  | [], _, _ => rfl
  | x :: l, T, h => by
    show (updT g now (oneT g now T x) l)[d]? = _
    rw [upd_far g now l _ (fun y hy => h y (List.mem_cons_of_mem _ hy))]
    unfold oneT
    split
    · rw [List.getElem?_set_ne (h x (List.mem_cons_self ..))]
    · rfl
theorem upd_append (g now : Int) (l m : List Lt) (T : List Int) : updT g now T (l ++ m) = updT g now (updT g now T l) m := by unfold updT; rw [List.foldl_append]
theorem upd_succ {g now : Int} {L : List Lt} {k : Nat} {x : Lt} (T : List Int) (hx : L[k]? = some x) : updT g now T (L.take (k + 1)) = oneT g now (updT g now T (L.take k)) x := by
  have ht : L.take (k + 1) = L.take k ++ [x] := by rw [List.take_add_one, hx]; rfl
  rw [ht, upd_append]
  rfl

/-- What the times know of the letters. -/
structure InvP (g now : Int) (L : List Lt) (T : List Int) : Prop where
  one : ∀ x ∈ L, 1 ≤ x.id ∧ x.id < T.length ∧ T[x.id.toNat]? = some (if x.sent then x.at' else -g) ∧ (x.sent = true → 0 ≤ x.at' ∧ x.at' ≤ now)
  apart : L.Pairwise (fun x y => x.id ≠ y.id)

theorem InvP.later {g now now' : Int} {L : List Lt} {T : List Int} (h : InvP g now L T) (hn : now ≤ now') : InvP g now' L T :=
  ⟨fun x hx => ⟨(h.one x hx).1, (h.one x hx).2.1, (h.one x hx).2.2.1, fun hs => by have := (h.one x hx).2.2.2 hs; omega⟩, h.apart⟩
theorem InvP.fine {g now : Int} {L : List Lt} {T : List Int} (h : InvP g now L T) (hn : now ≤ 1099511627776) : Fine L := fun x hx hs => by have := (h.one x hx).2.2.2 hs; omega
theorem InvP.nil (g now : Int) (T : List Int) : InvP g now [] T := ⟨fun x hx => by simp at hx, List.Pairwise.nil⟩
theorem InvP.put {g now last tt : Int} {L : List Lt} {T : List Int} {s : ByteArray} (h : InvP g now L T) (hl : (T.length : Int) = last + 1) (hl0 : 0 ≤ last) : InvP g now (L ++ [letOf last tt s]) (T ++ [-g]) := by
  refine ⟨fun x hx => ?_, ?_⟩
  · rcases List.mem_append.1 hx with hx | hx
    · obtain ⟨h1, h2, h3, h4⟩ := h.one x hx
      refine ⟨h1, (by rw [List.length_append, List.length_singleton]; omega : x.id < (((T ++ [-g]).length : Nat) : Int)), ?_, h4⟩
      rw [List.getElem?_append_left (show x.id.toNat < T.length by omega)]
      exact h3
    · simp only [List.mem_singleton] at hx
      subst hx
      have hi : (letOf last tt s).id = last + 1 := rfl
      refine ⟨by rw [hi]; omega, by rw [hi, List.length_append, List.length_singleton]; omega, ?_, fun hs => by cases hs⟩
      rw [hi, List.getElem?_append_right (by omega)]
      have : (last + 1).toNat - T.length = 0 := by omega
      rw [this]
      rfl
  · rw [List.pairwise_append]
    refine ⟨h.apart, List.pairwise_singleton _ _, fun x hx y hy => ?_⟩
    simp only [List.mem_singleton] at hy
    subst hy
    have := (h.one x hx).2.1
    show x.id ≠ last + 1
    omega
theorem InvP.due {g now : Int} {L : List Lt} {T : List Int} {x : Lt} (h : InvP g now L T) (hx : x ∈ L) (hn : 0 ≤ now) : decide (g ≤ now - (if x.sent then x.at' else -g)) = dueB g now x := by
  have h4 := (h.one x hx).2.2.2
  unfold dueB
  cases hs : x.sent
  · simp; omega
  · have := h4 hs
    simp only [if_true, Bool.not_true, Bool.false_or]
    have h0 : decide (now < x.at') = false := decide_eq_false (by omega)
    rw [h0, Bool.false_or]
theorem touch_id (g now : Int) (x : Lt) : (touch g now x).id = x.id := by unfold touch; split <;> rfl
theorem InvP.touch {g now : Int} {L : List Lt} {T : List Int} (h : InvP g now L T) (hn : 0 ≤ now) : InvP g now (L.map (PostR.touch g now)) (updT g now T L) := by
  refine ⟨fun y hy => ?_, ?_⟩
  · obtain ⟨x, hx, rfl⟩ := List.mem_map.1 hy
    obtain ⟨h1, h2, h3, h4⟩ := h.one x hx
    obtain ⟨l, m, rfl⟩ := List.append_of_mem hx
    have hp := h.apart
    rw [List.pairwise_append, List.pairwise_cons] at hp
    obtain ⟨_, ⟨hp1, _⟩, hp2⟩ := hp
    have hl : ∀ y ∈ l, y.id.toNat ≠ x.id.toNat := fun y hy e => hp2 y hy x (List.mem_cons_self ..) (by have := (h.one y (List.mem_append_left _ hy)).1; omega)
    have hm : ∀ y ∈ m, y.id.toNat ≠ x.id.toNat := fun y hy e => hp1 y hy (by have := (h.one y (List.mem_append_right _ (List.mem_cons_of_mem _ hy))).1; omega)
    rw [touch_id, upd_len]
    refine ⟨h1, h2, ?_, ?_⟩
    · rw [upd_append, show updT g now (updT g now T l) (x :: m) = updT g now (oneT g now (updT g now T l) x) m from rfl, upd_far g now m _ hm]
      unfold oneT PostR.touch
      split
      · rw [List.getElem?_set_self (by rw [upd_len]; omega)]
        rfl
      · rw [upd_far g now l _ hl]
        exact h3
    · unfold PostR.touch
      split
      · exact fun _ => ⟨hn, Int.le_refl _⟩
      · exact h4
  · rw [List.pairwise_map]
    exact h.apart.imp (fun h => by rw [touch_id, touch_id]; exact h)
theorem InvP.done {g now : Int} {L : List Lt} {T : List Int} (id : Int) (h : InvP g now L T) : InvP g now (endOf L id) T :=
  ⟨fun x hx => h.one x (List.mem_filter.1 hx).1, h.apart.filter _⟩

theorem drop_cons {L : List Lt} {k : Nat} {x : Lt} (hx : L[k]? = some x) : L = L.take k ++ x :: L.drop (k + 1) := by
  have hk : k < L.length := (List.getElem?_eq_some_iff.1 hx).1
  have hd : L.drop k = x :: L.drop (k + 1) := by rw [List.drop_eq_getElem_cons hk]; congr 1; exact (List.getElem?_eq_some_iff.1 hx).2
  rw [← hd, List.take_append_drop]
theorem dues_at {g now : Int} {L : List Lt} {k : Nat} {x : Lt} (hx : L[k]? = some x) (h : dueB g now x = true) : (dues g now L)[(dues g now (L.take k)).length]? = some x := by
  have e := congrArg (dues g now) (drop_cons hx)
  unfold dues at e ⊢
  rw [List.filter_append, List.filter_cons, if_pos h] at e
  rw [e, List.getElem?_append_right (Nat.le_refl _), Nat.sub_self]
  rfl
theorem dues_not {g now : Int} {L : List Lt} {k : Nat} {x y : Lt} (hp : L.Pairwise (fun x y => x.id ≠ y.id)) (hx : L[k]? = some x) (h : dueB g now x = false) (hy : (dues g now L)[(dues g now (L.take k)).length]? = some y) : y.id ≠ x.id := by
  have e := congrArg (dues g now) (drop_cons hx)
  unfold dues at e hy
  rw [List.filter_append, List.filter_cons, if_neg (by simp [h])] at e
  rw [e, List.getElem?_append_right (Nat.le_refl _), Nat.sub_self] at hy
  have hm := (List.mem_filter.1 (List.mem_of_getElem? hy)).1
  rw [drop_cons hx, List.pairwise_append, List.pairwise_cons] at hp
  exact fun e => hp.2.1.1 y hm e.symm
theorem upd_at {g now : Int} {L : List Lt} {T : List Int} {k : Nat} {x : Lt} (h : InvP g now L T) (hx : L[k]? = some x) : (updT g now T (L.take k))[x.id.toNat]? = some (if x.sent then x.at' else -g) := by
  have hm := List.mem_of_getElem? hx
  obtain ⟨h1, h2, h3, h4⟩ := h.one x hm
  rw [upd_far, h3]
  intro y hy e
  have hp := h.apart
  rw [drop_cons hx, List.pairwise_append] at hp
  exact hp.2.2 y hy x (List.mem_cons_self ..) (by have := (h.one y (List.mem_of_mem_take hy)).1; omega)

/-- Times as cells. -/
def tv (T : List Int) : List Value := T.map (Value.int .i64)
theorem tv_len (T : List Int) : (tv T).length = T.length := by simp [tv]
theorem tv_get {T : List Int} {d : Nat} {t : Int} (h : T[d]? = some t) : (tv T)[d]? = some (.int .i64 t) := by simp [tv, h]
theorem tv_set (T : List Int) (d : Nat) (t : Int) : (tv T).set d (.int .i64 t) = tv (T.set d t) := by unfold tv; rw [List.map_set]
theorem tv_app (T : List Int) (t : Int) : tv T ++ [.int .i64 t] = tv (T ++ [t]) := by simp [tv]

end Go.Proofs.Ytadnldnmefhlcaa.PoQ
