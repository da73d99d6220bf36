/-
  WHAT IS PROVED: what the program's octet package reads as a list. No condition beside those that each theorem names.
-/
import Derived.Test.YtfodloepkgkilaaDoorOctR
import Derived.BigRegionIn
import Derived.Deep.RegionHeld3
import Derived.Test.YtfodloepkgkilaaDoorRound
namespace Go.Proofs.YtfodloepkgkilaaDoor.OctG
open Go Go.RowKit Go.Shelf Go.Proofs.YtfodloepkgkilaaDoor Go.Proofs.YtfodloepkgkilaaDoor.OctetS Go.Proofs.YtfodloepkgkilaaDoor.OctP Go.Proofs.YtfodloepkgkilaaDoor.OctQ Go.Proofs.YtfodloepkgkilaaDoor.OctR
set_option linter.unusedVariables false
set_option linter.unusedSimpArgs false
attribute [local go_sem] Oper.semAt_some
attribute [-go_sem] Builtin.append_

/-! ### The readings and the list -/
def lastAt (ys : List Reading) : Nat := (ys.getLast?.map (·.2.1)).getD 0
theorem lastAt_snoc (ys : List Reading) (x : Reading) : lastAt (ys ++ [x]) = x.2.1 := by simp [lastAt]
theorem rds_ok : ∀ (n p : Nat) (s : List UInt8) (ys : List Reading), rds n p s = ys → (∀ x ∈ ys, x.2.2 = 0) → getTs n (s.drop p) = (ys.map (·.1), (if ys = [] then p else lastAt ys) - p, 0) ∧ (ys ≠ [] → p ≤ lastAt ys)
  | 0, p, s, ys, h, _ => by
    simp only [rds] at h
    subst h
    simp [getTs]
  | n + 1, p, s, ys, h, hz => by
    rw [rds] at h
    have h0 : (getText (s.drop p)).2.2 = 0 := by
      have := hz (((getText (s.drop p)).1, p + (getText (s.drop p)).2.1, (getText (s.drop p)).2.2)) (by rw [← h]; exact List.mem_cons_self ..)
      exact this
    rw [if_neg (by simpa using h0)] at h
    have ih := rds_ok n (p + (getText (s.drop p)).2.1) s _ rfl (fun x hx => hz x (by rw [← h]; exact List.mem_cons_of_mem _ hx))
    generalize hr : rds n (p + (getText (s.drop p)).2.1) s = r at h ih
    subst h
    rw [getTs, if_neg (by simpa using h0), List.drop_drop, ih.1]
    simp only [ne_eq, not_true_eq_false, if_false, List.map_cons, reduceCtorEq, not_false_eq_true, forall_const, Prod.mk.injEq, and_true, true_and]
    have hl : lastAt ((((getText (s.drop p)).1, p + (getText (s.drop p)).2.1, (getText (s.drop p)).2.2)) :: r) = if r = [] then p + (getText (s.drop p)).2.1 else lastAt r := by
      cases r with
      | nil => rfl
      | cons y r => simp [lastAt, List.getLast?_cons_cons]
    rw [hl]
    by_cases hrn : r = []
    · simp [hrn]
    · have := ih.2 hrn
      simp only [hrn, if_false]
      omega
theorem rds_bad : ∀ (n p : Nat) (s : List UInt8) (pre : List Reading) (x : Reading), pre ++ [x] <+: rds n p s → (∀ y ∈ pre, y.2.2 = 0) → x.2.2 ≠ 0 → getTs n (s.drop p) = ([], 0, x.2.2)
  | 0, p, s, pre, x, h, _, _ => by
    simp [rds] at h
  | n + 1, p, s, pre, x, h, hz, hx => by
    rw [rds] at h
    cases pre with
    | nil =>
      simp only [List.nil_append, List.cons_prefix_cons] at h
      obtain ⟨rfl, _⟩ := h
      rw [getTs, if_pos hx]
    | cons y pre =>
      simp only [List.cons_append, List.cons_prefix_cons] at h
      obtain ⟨rfl, h⟩ := h
      have h0 : (getText (s.drop p)).2.2 = 0 := hz ((getText (s.drop p)).1, p + (getText (s.drop p)).2.1, (getText (s.drop p)).2.2) (List.mem_cons_self ..)
      rw [if_neg (by simpa using h0)] at h
      have ih := rds_bad n _ s pre x h (fun y hy => hz y (List.mem_cons_of_mem _ hy)) hx
      rw [getTs, if_neg (by simpa using h0), List.drop_drop, ih, if_pos hx]

/-- A list, as the functions hand it back. -/
def ListAt (w0 w : World) (v : Value) (l : List (List UInt8)) : Prop := w.ownsRow w0.heap.size 9 1 v l.length (strV (l.map bsOf))
theorem ListAt.nil (w0 w : World) : ListAt w0 w (.slice none 0 0) [] := World.ownsRow_nil _ _ _ _

def ListPost (w : World) (g : List (List UInt8) × Nat × Int) (e : Ending) (w' : World) : Prop :=
  ∃ v, e = .returned (.tuple #[v, .int .i64 g.2.1, .int .i64 g.2.2]) ∧ ListAt w w' v g.1 ∧ Below w.heap.size w w'

set_option maxRecDepth 100000 in
set_option maxHeartbeats 1000000 in
theorem GetList_early (w : World) (s : ByteArray) (hs : s.size ≤ maxLen) (h : getNum (bl s) = (0, 0, 5) ∨ getNum (bl s) = (0, 0, 6) ∨ ∃ n u, getNum (bl s) = (n, u, 0) ∧ 256 < n) :
    Calls Tryd.prog 99 #[.string s] w (ListPost w (getList (bl s))) := by
  rcases h with hg | hg | ⟨n, u, hg, hn⟩
  · have hfin : getList (bl s) = ([], 0, 5) := by
      unfold getList
      rw [hg]
      simp
    rw [hfin]
    have Hg := Lib.hid hg
    clear hg hfin
    go_enter Tryd.func99, Tryd.ntmps99
    go_wp2_with fail
    refine (GetNum_at _ s hs Hg.out).mono ?_
    rintro e w' ⟨rfl, rfl⟩
    go_wp2
    refine bodyPost_ret (v := .tuple #[.slice none 0 0, .int .i64 0, .int .i64 5]) (by simp [results, Tryd.results99, go_sem]) rfl ⟨_, rfl, ListAt.nil _ _, ?_⟩
    go_grown
  · have hfin : getList (bl s) = ([], 0, 6) := by
      unfold getList
      rw [hg]
      simp
    rw [hfin]
    have Hg := Lib.hid hg
    clear hg hfin
    go_enter Tryd.func99, Tryd.ntmps99
    go_wp2_with fail
    refine (GetNum_at _ s hs Hg.out).mono ?_
    rintro e w' ⟨rfl, rfl⟩
    go_wp2
    refine bodyPost_ret (v := .tuple #[.slice none 0 0, .int .i64 0, .int .i64 6]) (by simp [results, Tryd.results99, go_sem]) rfl ⟨_, rfl, ListAt.nil _ _, ?_⟩
    go_grown
  · have hfin : getList (bl s) = ([], 0, 7) := by
      unfold getList
      rw [hg]
      simp [hn]
    rw [hfin]
    have Hg := Lib.hid hg
    clear hg hfin
    go_enter Tryd.func99, Tryd.ntmps99
    go_wp2_with fail
    refine (GetNum_at _ s hs Hg.out).mono ?_
    rintro e w' ⟨rfl, rfl⟩
    go_wp2
    refine bodyPost_ret (v := .tuple #[.slice none 0 0, .int .i64 0, .int .i64 7]) (by simp [results, Tryd.results99, go_sem]) rfl ⟨_, rfl, ListAt.nil _ _, ?_⟩
    go_grown


theorem boxed_new' {W : World} {B : Nat} {t : TypeId} {v : Value} (h : B = W.heap.size) : Boxed (W.alloc (.cells #[v] t)) B t v := by
  subst h
  exact Boxed.new W t v

/-- The blocks of the function, and what they hold between two rounds: b: the heap's size when it was called. -/
structure Inv (w : World) (u : Nat) (pre : List Reading) (W : World) : Prop where
  out : ∃ v, Boxed W (w.heap.size + 4) 93 v ∧ W.ownsRow (w.heap.size + 8) 9 1 v pre.length (strV (pre.map fun x => bsOf x.1))
  at' : Boxed W (w.heap.size + 5) 3 (.int .i64 (IntKind.i64.wrap ((u : Int) + (lastAt pre : Nat))))
  used : Boxed W (w.heap.size + 3) 3 (.int .i64 u)
  r0 : Boxed W w.heap.size 93 (.slice none 0 0)
  r1 : Boxed W (w.heap.size + 1) 3 (.int .i64 0)
  r2 : Boxed W (w.heap.size + 2) 26 (.int .i64 0)
  ok : ∀ x ∈ pre, x.2.2 = 0
  below : Below w.heap.size w W
  sz : w.heap.size + 8 ≤ W.heap.size
def Left (w : World) (c : Code) (pre : List Reading) (W : World) : Prop :=
  c = .ret ∧ (∃ p x, pre = p ++ [x] ∧ (∀ y ∈ p, y.2.2 = 0) ∧ x.2.2 ≠ 0 ∧ Boxed W w.heap.size 93 (.slice none 0 0) ∧ Boxed W (w.heap.size + 1) 3 (.int .i64 0) ∧ Boxed W (w.heap.size + 2) 26 (.int .i64 x.2.2)) ∧ Below w.heap.size w W

theorem boxed_kept {X Y : World} {row : Option Nat} {B : Nat} {t : TypeId} {v : Value} (h : Boxed X B t v) (hg : X.grownBy Y row) (hr : ∀ r, row = some r → ∃ o : Obj, X.heap[r]? = some o ∧ o.isCells = false) : Boxed Y B t v :=
  boxed_own B t (fun (_ : Unit) => v) () X Y row h hg hr
theorem below_kept {B0 N : Nat} {w X Y : World} {row : Option Nat} (h : Below B0 w X) (hN : B0 ≤ N) (hg : X.grownBy Y row) (hr : ∀ r, row = some r → N ≤ r ∧ ∃ o : Obj, X.heap[r]? = some o ∧ o.isCells = false) (hs : B0 ≤ X.heap.size) : Below B0 w Y :=
  h.grown hg hs (fun k hk => Nat.le_trans hN (hr k hk).1)
theorem inv_own (w : World) (u N : Nat) (hN : w.heap.size ≤ N) : OwnFrom N (Inv w u) := by
  intro s X Y row h hg hr
  have hr' := fun r e => (hr r e).2
  obtain ⟨v, hv, ho⟩ := h.out
  obtain ⟨v', hv', ho', _⟩ := holdsRow_own (w.heap.size + 8) (w.heap.size + 4) 93 9 1 (fun pre : List Reading => pre.length) (fun pre => strV (pre.map fun x => bsOf x.1)) (fun _ _ => True) s X Y row ⟨v, hv, ho, trivial⟩ hg hr'
  exact ⟨⟨v', hv', ho'⟩, boxed_kept h.at' hg hr', boxed_kept h.used hg hr', boxed_kept h.r0 hg hr', boxed_kept h.r1 hg hr', boxed_kept h.r2 hg hr', h.ok, below_kept h.below hN hg hr h.below.size, Nat.le_trans h.sz hg.size⟩
theorem left_own (w : World) (c : Code) (N : Nat) (hN : w.heap.size ≤ N) : OwnFrom N (Left w c) := by
  intro s X Y row h hg hr
  have hr' := fun r e => (hr r e).2
  obtain ⟨hc, ⟨p, x, h1, h2, h3, h4, h5, h6⟩, hb⟩ := h
  exact ⟨hc, ⟨p, x, h1, h2, h3, boxed_kept h4 hg hr', boxed_kept h5 hg hr', boxed_kept h6 hg hr'⟩, below_kept hb hN hg hr hb.size⟩

/-- A block of another type is not the row's. -/
theorem row_ne {W : World} {B : Nat} {t e : TypeId} {cs : Array Value} {fr : Nat × Nat} (h : W.heap[B]? = some (.cells cs t fr)) (hte : t ≠ e) {base size k : Nat} {v : Value} {xs : List Value} (hr : W.ownsRow base e size v k xs) : some B ≠ v.ownBlock := by
  rcases hr.2 with ⟨rfl, _⟩ | ⟨g, cap, cur, rfl, _, hgb, _⟩
  · simp [Value.ownBlock]
  · intro e'
    obtain rfl : B = g := by simpa [Value.ownBlock] using e'
    rw [h] at hgb
    simp at hgb
    exact hte hgb.2.1
def IsBox (W : World) (B : Nat) (t : TypeId) : Prop := ∃ v, Boxed W B t v
theorem IsBox.drew {W : World} {B : Nat} {t : TypeId} (h : IsBox W B t) : IsBox W.drew B t := h
theorem IsBox.step {W : World} {B : Nat} {t : TypeId} (h : IsBox W B t) (B' : Nat) (u : Value) : IsBox (W.setCell ⟨B', 0, none⟩ u) B t := by
  obtain ⟨v, hv⟩ := h
  by_cases e : B = B'
  · subst e; exact ⟨u, hv.set u⟩
  · exact ⟨v, hv.other e u⟩
theorem IsBox.set {W : World} {B : Nat} {t : TypeId} (h : IsBox W B t) (u : Value) : Boxed (W.setCell ⟨B, 0, none⟩ u) B t u := by
  obtain ⟨v, hv⟩ := h
  exact hv.set u
theorem Boxed.drew' {W : World} {B : Nat} {t : TypeId} {v : Value} (h : Boxed W B t v) : Boxed W.drew B t v := h

theorem inv_next {w W w1 : World} {u q : Nat} {pre : List Reading} {t : List UInt8} {a0 a1 : Option Addr} {c0 c1 : Nat} (HI : Inv w u pre W) (bV : Boxed W (w.heap.size + 4) 93 (.slice a0 pre.length c0)) (hV : W.ownsRow (w.heap.size + 8) 9 1 (.slice a0 pre.length c0) pre.length (strV (pre.map fun x => bsOf x.1)))
    (hgrow : ((W.alloc (.cells #[.string (bsOf t)] 9)).drew).grownBy w1 (Value.slice a0 pre.length c0).ownBlock) (hown1 : w1.ownsRow (w.heap.size + 8) 9 1 (.slice a1 (pre.length + 1) c1) (pre.length + 1) (strV (pre.map fun x => bsOf x.1) ++ [.string (bsOf t)]))
    (hk : ∀ k, k < w.heap.size + 8 → w1.heap[k]? = W.heap[k]?) :
    KeepsFrom (w.heap.size + 8) W ((w1.setCell ⟨w.heap.size + 4, 0, none⟩ (.slice a1 (pre.length + 1) c1)).setCell ⟨w.heap.size + 5, 0, none⟩ (.int .i64 (IntKind.i64.wrap ((u : Int) + q)))) ∧
    KeepB (w.heap.size + 6) (w.heap.size + 7) W ((w1.setCell ⟨w.heap.size + 4, 0, none⟩ (.slice a1 (pre.length + 1) c1)).setCell ⟨w.heap.size + 5, 0, none⟩ (.int .i64 (IntKind.i64.wrap ((u : Int) + q)))) ∧
    Inv w u (pre ++ [(t, q, 0)]) ((w1.setCell ⟨w.heap.size + 4, 0, none⟩ (.slice a1 (pre.length + 1) c1)).setCell ⟨w.heap.size + 5, 0, none⟩ (.int .i64 (IntKind.i64.wrap ((u : Int) + q)))) := by
  have hsz := HI.sz
  have hsz1 := hgrow.size
  simp at hsz1
  have hB1 : Below w.heap.size w w1 := by
    refine ((HI.below.alloc HI.below.size _).drew).grown hgrow (by simp; omega) (fun k hk => ?_)
    have := (hV.lt k hk).1
    omega
  refine ⟨KeepsOthers.from ?_ _, ⟨?_, ?_⟩, ⟨⟨.slice a1 (pre.length + 1) c1, ?_, ?_⟩, ?_, ?_, ?_, ?_, ?_, ?_, ?_, ?_⟩⟩
  · refine ((((KeepsOthers.alloc W _).trans (KeepsOthers.drew _)).trans (KeepsOthers.of_grownBy hgrow fun j o ej hj => ?_)).trans (KeepsOthers.setCell _ _ _)).trans (KeepsOthers.setCell _ _ _)
    have h2 := own_ext hV (((Ext.refl (fun _ => False) W).alloc (.cells #[.string (bsOf t)] 9)).drew) (fun _ _ h => h)
    rcases h2.2 with ⟨h0, _⟩ | ⟨g, cap, cur, h0, _, hgb, _⟩
    · rw [h0] at ej
      simp [Value.ownBlock] at ej
    · rw [h0] at ej
      obtain rfl : g = j := by simpa [Value.ownBlock] using ej
      rw [hgb] at hj
      cases hj
      rfl
  · rw [heap_setCell_far _ (by omega), heap_setCell_far _ (by omega), hk _ (by omega)]
  · rw [heap_setCell_far _ (by omega), heap_setCell_far _ (by omega), hk _ (by omega)]
  · exact Boxed.other (Boxed.set _ ((hk _ (by omega)).trans bV)) (by omega) _
  · have := own_ext hown1 (((Ext.refl (fun k => k < w.heap.size + 8) w1).setCell (p := ⟨w.heap.size + 4, 0, none⟩) (.inl (by simp)) (.slice a1 (pre.length + 1) c1)).setCell (p := ⟨w.heap.size + 5, 0, none⟩) (.inl (by simp)) (.int .i64 (IntKind.i64.wrap ((u : Int) + q)))) (fun k hk' hlt => by have := (hown1.lt k hk').1; omega)
    simpa [strV] using this
  · rw [lastAt_snoc]
    exact Boxed.set _ (Boxed.other ((hk _ (by omega)).trans HI.at') (by omega) _)
  · exact Boxed.other (Boxed.other ((hk _ (by omega)).trans HI.used) (by omega) _) (by omega) _
  · exact Boxed.other (Boxed.other ((hk _ (by omega)).trans HI.r0) (by omega) _) (by omega) _
  · exact Boxed.other (Boxed.other ((hk _ (by omega)).trans HI.r1) (by omega) _) (by omega) _
  · exact Boxed.other (Boxed.other ((hk _ (by omega)).trans HI.r2) (by omega) _) (by omega) _
  · intro x hx
    rcases List.mem_append.1 hx with hx | hx
    · exact HI.ok x hx
    · simp at hx; rw [hx]
  · exact (hB1.setCell (p := ⟨w.heap.size + 4, 0, none⟩) (by simp) _).setCell (p := ⟨w.heap.size + 5, 0, none⟩) (by simp) _
  · simp [World.setCell]; omega

theorem list_of_rds {s : List UInt8} {n u : Nat} (hg : getNum s = (n, u, 0)) (hn : n ≤ 256) (ok : ∀ x ∈ rds n 0 (s.drop u), x.2.2 = 0) :
    getList s = ((rds n 0 (s.drop u)).map (·.1), u + lastAt (rds n 0 (s.drop u)), 0) ∧ u + lastAt (rds n 0 (s.drop u)) ≤ s.length := by
  obtain ⟨h, _⟩ := rds_ok n 0 (s.drop u) _ rfl ok
  rw [List.drop_zero] at h
  have hl : (if rds n 0 (s.drop u) = [] then 0 else lastAt (rds n 0 (s.drop u))) - 0 = lastAt (rds n 0 (s.drop u)) := by
    split
    · rename_i e
      rw [e]
      rfl
    · omega
  rw [hl] at h
  obtain ⟨_, hb, _⟩ := getTs_ok n (s.drop u) _ _ h
  obtain ⟨_, _, hu, _⟩ := getNum_ok hg
  rw [List.length_drop] at hb
  refine ⟨?_, by omega⟩
  unfold getList
  rw [hg]
  simp only [ne_eq, not_true_eq_false, if_false]
  rw [if_neg (by omega), h]
  simp
theorem list_of_bad {s : List UInt8} {n u : Nat} (hg : getNum s = (n, u, 0)) (hn : n ≤ 256) {p : List Reading} {x : Reading} (hp : p ++ [x] <+: rds n 0 (s.drop u)) (ok : ∀ y ∈ p, y.2.2 = 0) (hx : x.2.2 ≠ 0) : getList s = ([], 0, x.2.2) := by
  have h := rds_bad n 0 (s.drop u) p x hp ok hx
  rw [List.drop_zero] at h
  unfold getList
  rw [hg]
  simp only [ne_eq, not_true_eq_false, if_false]
  rw [if_neg (by omega), h, if_pos hx]

theorem fin_list {w W : World} {u D : Nat} {ys : List Reading} {a0 : Option Addr} {c0 : Nat} {v1 : Value} (HI : Inv w u ys W) (hV : W.ownsRow (w.heap.size + 8) 9 1 (.slice a0 ys.length c0) ys.length (strV (ys.map fun x => bsOf x.1)))
    (hK : W.heap[D]? = some (.deferred (some []))) (hD : w.heap.size + 8 ≤ D) (W' : World) (hW' : W' = (((W.setCell ⟨w.heap.size, 0, none⟩ (.slice a0 ys.length c0)).setCell ⟨w.heap.size + 1, 0, none⟩ v1).setCell ⟨w.heap.size + 1 + 1, 0, none⟩ (.int .i64 0)).drew) :
    W'.heap[D]? = some (.deferred (some [])) ∧ (W'.putObj D (.deferred none)).cell? ⟨w.heap.size, 0, none⟩ = some (.slice a0 ys.length c0) ∧ (W'.putObj D (.deferred none)).cell? ⟨w.heap.size + 1, 0, none⟩ = some v1 ∧ (W'.putObj D (.deferred none)).cell? ⟨w.heap.size + 1 + 1, 0, none⟩ = some (.int .i64 0) ∧
      ListAt w (W'.putObj D (.deferred none)) (.slice a0 ys.length c0) (ys.map (·.1)) ∧ Below w.heap.size w (W'.putObj D (.deferred none)) := by
  have hKD : W'.heap[D]? = some (.deferred (some [])) := by
    rw [hW']
    show ((((W.setCell ⟨w.heap.size, 0, none⟩ (.slice a0 ys.length c0)).setCell ⟨w.heap.size + 1, 0, none⟩ v1).setCell ⟨w.heap.size + 1 + 1, 0, none⟩ (.int .i64 0))).heap[D]? = _
    rw [heap_setCell_far _ (by omega), heap_setCell_far _ (by omega), heap_setCell_far _ (by omega)]
    exact hK
  have hg := grownBy_putObj' W' D (.deferred none)
  have hr : ∀ r, some D = some r → ∃ o : Obj, W'.heap[r]? = some o ∧ o.isCells = false := fun r e => by cases e; exact ⟨_, hKD, rfl⟩
  have b0 : Boxed W' w.heap.size 93 (.slice a0 ys.length c0) := by
    rw [hW']
    exact Boxed.drew' (Boxed.other (Boxed.other (Boxed.set _ HI.r0) (by omega) _) (by omega) _)
  have b1 : Boxed W' (w.heap.size + 1) 3 v1 := by
    rw [hW']
    exact Boxed.drew' (Boxed.other (Boxed.set _ (Boxed.other HI.r1 (by omega) _)) (by omega) _)
  have b2 : Boxed W' (w.heap.size + 1 + 1) 26 (.int .i64 0) := by
    rw [hW']
    exact Boxed.drew' (Boxed.set _ (Boxed.other (Boxed.other HI.r2 (by omega) _) (by omega) _))
  have hE : Ext (fun k => k < w.heap.size + 8) W W' := by
    rw [hW']
    exact ((((Ext.refl (fun k => k < w.heap.size + 8) W).setCell (p := ⟨w.heap.size, 0, none⟩) (.inl (by simp)) _).setCell (p := ⟨w.heap.size + 1, 0, none⟩) (.inl (by simp)) _).setCell (p := ⟨w.heap.size + 1 + 1, 0, none⟩) (.inl (by simp)) _).drew
  have hO : W'.ownsRow (w.heap.size + 8) 9 1 (.slice a0 ys.length c0) ys.length (strV (ys.map fun x => bsOf x.1)) := own_ext hV hE (fun k hk hlt => by have := (hV.lt k hk).1; omega)
  have hO2 := ownsRow_putObj hO (.deferred none) hKD rfl
  have hB : Below w.heap.size w W' := by
    rw [hW']
    exact (((HI.below.setCell (p := ⟨w.heap.size, 0, none⟩) (by simp) _).setCell (p := ⟨w.heap.size + 1, 0, none⟩) (by simp) _).setCell (p := ⟨w.heap.size + 1 + 1, 0, none⟩) (by simp; omega) _).drew
  refine ⟨hKD, (boxed_kept b0 hg hr).cell, (boxed_kept b1 hg hr).cell, (boxed_kept b2 hg hr).cell, ?_, hB.grown hg hB.size (fun k e => by cases e; omega)⟩
  have hO3 := own_base (base' := w.heap.size) hO2 (fun k hk => by have := (hO2.lt k hk).1; omega)
  unfold ListAt
  rw [List.length_map, List.map_map]
  exact hO3

set_option maxRecDepth 100000 in
set_option maxHeartbeats 4000000 in
theorem GetList_late (w : World) (s : ByteArray) (hs : s.size ≤ maxLen) (n u : Nat) (hg : getNum (bl s) = (n, u, 0)) (hn : n ≤ 256) :
    Calls Tryd.prog 99 #[.string s] w (ListPost w (getList (bl s))) := by
  obtain ⟨hu1, hu7, hul, _, hmax⟩ := getNum_ok hg
  rw [bl_length] at hul
  have hx : bl (s.extract u s.size) = (bl s).drop u := by
    rw [bl_extract, List.take_of_length_le (by rw [List.length_drop, bl_length]; omega)]
  have hxs : (s.extract u s.size).size ≤ maxLen := by rw [ByteArray.size_extract]; unfold maxLen at hs ⊢; omega
  have hs' : s.size ≤ 9223372036854775807 := hs
  refine callsIn_wide (n := 3) |>.1 ?_
  refine callsIn_of_wp_marks Tryd.func99 rfl trivial ?_ rfl
  simp only [Tryd.ntmps99, List.size_toArray, List.length_cons, List.length_nil, Nat.reduceAdd, Nat.reduceSub, Array.replicate_succ, Array.replicate_zero, List.push_toArray, List.append_toArray, List.nil_append, List.cons_append]
  have Hg := Lib.hid hg
  have Hx := Lib.hid hx
  clear hg hx
  gi_wp2_with (refine ⟨trivial, ?_⟩; first | (gi_at_call 75; refine (callsIn_wide.2 (GetNum_at _ s hs Hg.out)).mono ?_; rintro e w' ⟨rfl, rfl⟩) | (gi_at_call 116; refine (callsIn_wide.2 (texts_ok _ _ _)).mono ?_; rintro e w' ⟨rfl, rfl⟩))
  obtain ⟨W0, hW0⟩ : ∃ W0, ((((((((w.alloc (Obj.cells #[.slice none 0 0] 93)).alloc (Obj.cells #[.int .i64 0] 3)).alloc (Obj.cells #[.int .i64 0] 26)).alloc (Obj.cells #[.int .i64 ↑u] 3)).alloc (Obj.cells #[.slice none 0 0] 93)).alloc (Obj.cells #[.int .i64 ↑u] 3)).alloc (Obj.cells #[.string (s.extract u s.size)] 9)).alloc (Obj.cells #[.int .u64 ↑n] 76)) = W0 := ⟨_, rfl⟩
  have hI0 : Inv w u [] W0 := by
    rw [← hW0]
    refine ⟨⟨.slice none 0 0, (by repeat (first | (refine boxed_new' ?_; (first | (simp only [World.size_alloc]; done) | (simp only [World.size_alloc]; omega) | omega)) | refine Boxed.alloc ?_ _)), World.ownsRow_nil _ _ _ _⟩, ?_, (by repeat (first | (refine boxed_new' ?_; (first | (simp only [World.size_alloc]; done) | (simp only [World.size_alloc]; omega) | omega)) | refine Boxed.alloc ?_ _)), (by repeat (first | (refine boxed_new' ?_; (first | (simp only [World.size_alloc]; done) | (simp only [World.size_alloc]; omega) | omega)) | refine Boxed.alloc ?_ _)), (by repeat (first | (refine boxed_new' ?_; (first | (simp only [World.size_alloc]; done) | (simp only [World.size_alloc]; omega) | omega)) | refine Boxed.alloc ?_ _)), (by repeat (first | (refine boxed_new' ?_; (first | (simp only [World.size_alloc]; done) | (simp only [World.size_alloc]; omega) | omega)) | refine Boxed.alloc ?_ _)), fun x hx => by simp at hx, by go_grown, by simp⟩
    have : IntKind.i64.wrap ((u : Int) + (lastAt [] : Nat)) = u := by
      show IntKind.i64.wrap ((u : Int) + ((0 : Nat) : Int)) = u
      rw [show ((u : Int) + ((0 : Nat) : Int)) = u by omega, IntWalk.i64_in _ (by omega)]
    rw [this]
    exact (by repeat (first | (refine boxed_new' ?_; (first | (simp only [World.size_alloc]; done) | (simp only [World.size_alloc]; omega) | omega)) | refine Boxed.alloc ?_ _))
  have bS : Boxed W0 (w.heap.size + 6) 9 (.string (s.extract u s.size)) := by rw [← hW0]; exact (by repeat (first | (refine boxed_new' ?_; (first | (simp only [World.size_alloc]; done) | (simp only [World.size_alloc]; omega) | omega)) | refine Boxed.alloc ?_ _))
  have bN : Boxed W0 (w.heap.size + 7) 76 (.int .u64 n) := by rw [← hW0]; exact (by repeat (first | (refine boxed_new' ?_; (first | (simp only [World.size_alloc]; done) | (simp only [World.size_alloc]; omega) | omega)) | refine Boxed.alloc ?_ _))
  have hsz : W0.heap.size = w.heap.size + 8 := by rw [← hW0]; simp
  rw [hW0]
  clear hW0
  refine wpIn_rangeFunc_ownH rfl (by omega) (gf := 131) (lb := #[.pointer (some ⟨w.heap.size + 1 + 1 + 1 + 1 + 1 + 1 + 1, 0, none⟩), .pointer (some ⟨w.heap.size + 1 + 1 + 1 + 1 + 1 + 1, 0, none⟩)]) rfl trivial (enters_of Tryd.func131 (by kernel_rfl) rfl)
    (seq_stops 2 (by omega) (w.heap.size + 6) (w.heap.size + 7) (s.extract u s.size) n hxs hn W0 bS bN) (fun h k => h.trans k) (fun W l o o' hl _ _ _ => ⟨World.putObj_heap_other (by omega), World.putObj_heap_other (by omega)⟩) (Below.refl _ _) (fun _ => rfl)
    (Inv w u) (Left w) (inv_own w u _ (by omega)) (fun c => left_own w c _ (by omega)) hI0
    (fun x a' W => ∃ Bx, w.heap.size + 8 ≤ Bx ∧ W.heap[Bx]? = some (.cells #[.int .i64 x.2.1, .int .i64 x.2.2] 145 (0, 0)) ∧ a' = { tmps := #[.string s, undef, .pointer (some ⟨w.heap.size, 0, none⟩), .pointer (some ⟨w.heap.size + 1, 0, none⟩), .pointer (some ⟨w.heap.size + 1 + 1, 0, none⟩), .int .u64 ↑n, .pointer (some ⟨w.heap.size + 1 + 1 + 1, 0, none⟩), .int .i64 0, .pointer (some ⟨w.heap.size + 1 + 1 + 1 + 1, 0, none⟩), .pointer (some ⟨w.heap.size + 1 + 1 + 1 + 1 + 1, 0, none⟩), .string (bsOf x.1), .pointer (some ⟨Bx, 0, none⟩),
          .tuple #[.int .u64 ↑n, .int .i64 ↑u, .int .i64 0], .string s, .tuple #[.int .u64 ↑n, .int .i64 ↑u, .int .i64 0], .int .u64 ↑n, .int .i64 ↑u, .int .i64 0, .bool false, .int .i64 0, .bool false, undef, .bool (decide ((256 : Int) < ↑n)), .int .u64 ↑n, .bool (decide ((256 : Int) < ↑n)), .int .i64 ↑u, .string s, .int .i64 ↑u, .string (s.extract u s.size), .int .u64 ↑n,
          .func (Fn.func 131) #[] #[.pointer (some ⟨w.heap.size + 1 + 1 + 1 + 1 + 1 + 1 + 1, 0, none⟩), .pointer (some ⟨w.heap.size + 1 + 1 + 1 + 1 + 1 + 1, 0, none⟩)], .string (bsOf x.1), .agg #[.int .i64 x.2.1, .int .i64 x.2.2], undef, undef, undef, undef, undef, undef, undef, undef, undef, undef, undef, undef, undef, undef, undef], defers := [] })
    (fun x a' _ X Y row hs hg hr => by
      obtain ⟨Bx, h1, h2, h3⟩ := hs
      refine ⟨Bx, h1, (hg.block Bx (lt_row h2) (fun e => ?_)).trans h2, h3⟩
      obtain ⟨_, o, ho, hc⟩ := hr Bx e.symm
      rw [h2] at ho
      cases ho
      cases hc)
    ?assign ?body ?done ?stop
  case assign =>
    rintro l pre ⟨t, q, y⟩ W K hI hK
    dsimp only [encR]
    gi_wp2
    exact hK _ _ ((KeepsOthers.alloc _ _).from _) ⟨Below.heap_alloc W _ _ (by have := hI.sz; omega), Below.heap_alloc W _ _ (by have := hI.sz; omega)⟩ ((inv_own w u w.heap.size (Nat.le_refl _)).alloc _ hI) ⟨W.heap.size, hI.sz, heap_new _ _, rfl⟩
  case body =>
    rintro l pre ⟨t, q, y⟩ a' W hl ⟨r, hr⟩ hI ⟨Bx, hBx, bX, rfl⟩ hlt
    have hc0 : W.cell? ⟨Bx, 0, none⟩ = some (.int .i64 q) := cell_row bX
    have hc1 : W.cell? ⟨Bx, 1, none⟩ = some (.int .i64 y) := cell_row bX
    have hr0 := hI.r0.cell
    have hr1 := hI.r1.cell
    have hr2 := hI.r2.cell
    have hf0 := hI.r0.frozen
    have hf1 := hI.r1.frozen
    have hf2 := hI.r2.frozen
    by_cases hy : y = 0
    · subst hy
      obtain ⟨v, bV, hV⟩ := hI.out
      obtain ⟨a0, c0, rfl, _, _⟩ := ownsRow_slice hV
      have hsz2 := hI.sz
      have hcV := bV.cell
      have hfV := bV.frozen
      have hc5 := hI.at'.cell
      have hf5 := hI.at'.frozen
      have hc3 := hI.used.cell
      have hEt : Ext (fun _ => False) W ((W.alloc (.cells #[.string (bsOf t)] 9)).drew) := ((Ext.refl _ _).alloc _).drew
      obtain ⟨v', w1, hrun, hown1, hgrow, hat⟩ := run_app (P := Tryd.prog) ((W.alloc (.cells #[.string (bsOf t)] 9)).drew) 93 93 tyStrs (w.heap.size + 8) (.slice a0 pre.length c0) pre.length _ (own_ext hV hEt (fun _ _ h => h))
        (.slice (some ⟨W.heap.size, 0, none⟩) 1 1) 1 [.string (bsOf t)] (Src.ofSlice _ Tryd.underlying93 _ _ _ _ rfl (by simpa using cell_one_new W (.string (bsOf t)) 9) (by simp [Value.oneCell'])) (by unfold maxLen; omega) (by omega) (by simp; omega)
      obtain ⟨a1, c1, rfl, _, _⟩ := ownsRow_slice hown1
      have hk : ∀ k, k < w.heap.size + 8 → w1.heap[k]? = W.heap[k]? := fun k hk => by
        rw [hgrow.block k (by simp; omega) (fun e => by have := (hV.lt k e.symm).1; omega)]
        exact Below.heap_alloc W _ k (by omega)
      have hX1 : w1.heap[Bx]? = some (.cells #[.int .i64 q, .int .i64 0] 145 (0, 0)) := by
        have hbx := lt_row bX
        rw [hgrow.block Bx (by simp; omega) (row_ne bX (by decide) hV)]
        exact (Below.heap_alloc W _ Bx hbx).trans bX
      have b4 : Boxed w1 (w.heap.size + 4) 93 (.slice a0 pre.length c0) := (hk _ (by omega)).trans bV
      have b5 : Boxed w1 (w.heap.size + 5) 3 _ := (hk _ (by omega)).trans hI.at'
      have b3 : Boxed w1 (w.heap.size + 3) 3 _ := (hk _ (by omega)).trans hI.used
      have d4 := b4.cell
      have d5 := b5.cell
      have d3 := b3.cell
      have e4 := b4.frozen
      have e5 := b5.frozen
      have dX0 : w1.cell? ⟨Bx, 0, none⟩ = some (.int .i64 q) := cell_row hX1
      have dX1 : w1.cell? ⟨Bx, 1, none⟩ = some (.int .i64 0) := cell_row hX1
      have HI := Lib.hid hI
      have Hk := Lib.hid hk
      have Hown := Lib.hid hown1
      have Hgrow := Lib.hid hgrow
      have Hat := Lib.hid hat
      have HV := Lib.hid hV
      clear hI hk hown1 hgrow hat hV
      clear hr0 hr1 hr2 hf0 hf1 hf2 hI0 bS bN hr hl b4 b5 b3 hX1 hEt
      have n3 : ¬ w.heap.size + 3 = W.heap.size := by omega
      have n4 : ¬ w.heap.size + 4 = W.heap.size := by omega
      have n5 : ¬ w.heap.size + 5 = W.heap.size := by omega
      have nX : ¬ Bx = W.heap.size := by have := lt_row bX; omega
      have m3 : w.heap.size + 3 < W.heap.size := by omega
      have m4 : w.heap.size + 4 < W.heap.size := by omega
      have m5 : w.heap.size + 5 < W.heap.size := by omega
      have mX : Bx < W.heap.size := lt_row bX
      gi_wp2
      refine region_round (by kernel_rfl) (by kernel_rfl) ?_ (fun W' => W'.cell? ⟨w.heap.size + 3, 0, none⟩ = some (.int .i64 u) ∧ W'.cell? ⟨Bx, 0, none⟩ = some (.int .i64 q)) ?_
      · rintro ⟨a, w, h⟩
        exact h
      have hS0 : W.drew.cell? ⟨w.heap.size + 3, 0, none⟩ = some (.int .i64 u) ∧ W.drew.cell? ⟨Bx, 0, none⟩ = some (.int .i64 q) := ⟨hc3, hc0⟩
      refine wpAnyH_take (i := 1) (v := ?_) rfl (by kernel_rfl) (by kernel_rfl) (by kernel_rfl) (fun _ _ _ h => h) (Or.inl ⟨by rfl, ?_⟩) hS0 ?_
      rotate_left
      · intro w hSw
        go_simp
        rfl
      simp only [Act.put, List.getElem_toArray, List.getElem_cons_zero, List.getElem_cons_succ, List.setIfInBounds_toArray, List.set_cons_zero, List.set_cons_succ]
      refine wpAnyH_take (i := 4) (v := ?_) rfl (by kernel_rfl) (by kernel_rfl) (by kernel_rfl) (fun _ _ _ h => h) (Or.inl ⟨by rfl, ?_⟩) hS0 ?_
      rotate_left
      · intro w hSw
        go_simp
        rfl
      simp only [Act.put, List.getElem_toArray, List.getElem_cons_zero, List.getElem_cons_succ, List.setIfInBounds_toArray, List.set_cons_zero, List.set_cons_succ]
      refine wpAnyH_take (i := 5) (v := ?_) rfl (by kernel_rfl) (by kernel_rfl) (by kernel_rfl) (fun _ _ _ h => h) (Or.inl ⟨by rfl, ?_⟩) hS0 ?_
      rotate_left
      · intro w hSw
        go_simp
        rfl
      simp only [Act.put, List.getElem_toArray, List.getElem_cons_zero, List.getElem_cons_succ, List.setIfInBounds_toArray, List.set_cons_zero, List.set_cons_succ]
      refine wpAnyH_take (i := 6) (v := ?_) rfl (by kernel_rfl) (by kernel_rfl) (by kernel_rfl) (fun _ _ _ h => h) (Or.inl ⟨by rfl, ?_⟩) hS0 ?_
      rotate_left
      · intro w hSw
        go_simp
        rfl
      simp only [Act.put, List.getElem_toArray, List.getElem_cons_zero, List.getElem_cons_succ, List.setIfInBounds_toArray, List.set_cons_zero, List.set_cons_succ]
      refine wpAnyH_take (i := 7) (v := ?_) rfl (by kernel_rfl) (by kernel_rfl) (by kernel_rfl) (fun _ _ _ h => h) (Or.inl ⟨by rfl, ?_⟩) hS0 ?_
      rotate_left
      · intro w hSw
        go_simp
        rfl
      simp only [Act.put, List.getElem_toArray, List.getElem_cons_zero, List.getElem_cons_succ, List.setIfInBounds_toArray, List.set_cons_zero, List.set_cons_succ]
      refine wpAnyH_all (rs := [0, 2]) (by kernel_rfl) (by simp) ?_
      intro i hi
      simp only [List.mem_cons, List.not_mem_nil, or_false] at hi
      rcases hi with rfl | rfl
      · refine wpOp_run rfl (by rfl) (by go_simp; first | rfl | exact ⟨rfl, rfl⟩) ⟨?_, ?_⟩
        · exact ⟨by go_simp, by go_simp⟩
        simp only [Act.put, List.getElem_toArray, List.getElem_cons_zero, List.getElem_cons_succ, List.setIfInBounds_toArray, List.set_cons_zero, List.set_cons_succ]
        refine wpAnyH_all (rs := [2]) (by kernel_rfl) (by simp) ?_
        intro i hi
        simp only [List.mem_cons, List.not_mem_nil, or_false] at hi
        subst hi
        refine wpOp_run rfl (by rfl) (by go_simp; first | rfl | exact ⟨rfl, rfl⟩) ⟨?_, ?_⟩
        · exact ⟨by go_simp, by go_simp⟩
        simp only [Act.put, List.getElem_toArray, List.getElem_cons_zero, List.getElem_cons_succ, List.setIfInBounds_toArray, List.set_cons_zero, List.set_cons_succ]
        refine wpAnyH_all (rs := [3]) (by kernel_rfl) (by simp) ?_
        intro i hi
        simp only [List.mem_cons, List.not_mem_nil, or_false] at hi
        subst hi
        refine wpOp_run rfl (by rfl) (by go_simp; first | rfl | exact ⟨rfl, rfl⟩) ⟨?_, ?_⟩
        · exact ⟨d3, dX0⟩
        simp only [Act.put, List.getElem_toArray, List.getElem_cons_zero, List.getElem_cons_succ, List.setIfInBounds_toArray, List.set_cons_zero, List.set_cons_succ]
        refine wpAnyH_all (rs := [8]) (by kernel_rfl) (by simp) ?_
        intro i hi
        simp only [List.mem_cons, List.not_mem_nil, or_false] at hi
        subst hi
        refine wpOp_skip rfl (by rfl) (by go_simp; first | rfl | exact ⟨rfl, rfl⟩) ⟨?_, ?_⟩
        · exact ⟨by go_simp, by go_simp⟩
        simp only [Act.put, List.getElem_toArray, List.getElem_cons_zero, List.getElem_cons_succ, List.setIfInBounds_toArray, List.set_cons_zero, List.set_cons_succ]
        refine wpAnyH_all (rs := [9]) (by kernel_rfl) (by simp) ?_
        intro i hi
        simp only [List.mem_cons, List.not_mem_nil, or_false] at hi
        subst hi
        refine wpOp_skip rfl (by rfl) (by go_simp; first | rfl | exact ⟨rfl, rfl⟩) ⟨?_, ?_⟩
        · exact ⟨by go_simp, by go_simp⟩
        simp only [Act.put, List.getElem_toArray, List.getElem_cons_zero, List.getElem_cons_succ, List.setIfInBounds_toArray, List.set_cons_zero, List.set_cons_succ]
        refine wpAnyH_done (by kernel_rfl) ?_ _
        show KeepsFrom _ W _ ∧ KeepB _ _ W _ ∧ Inv w u _ _
        exact inv_next HI.out bV HV.out Hgrow.out Hown.out Hk.out
      · refine wpOp_run rfl (by rfl) (by go_simp; first | rfl | exact ⟨rfl, rfl⟩) ⟨?_, ?_⟩
        · exact ⟨by go_simp, by go_simp⟩
        simp only [Act.put, List.getElem_toArray, List.getElem_cons_zero, List.getElem_cons_succ, List.setIfInBounds_toArray, List.set_cons_zero, List.set_cons_succ]
        refine wpAnyH_all (rs := [0]) (by kernel_rfl) (by simp) ?_
        intro i hi
        simp only [List.mem_cons, List.not_mem_nil, or_false] at hi
        subst hi
        refine wpOp_run rfl (by rfl) (by go_simp; first | rfl | exact ⟨rfl, rfl⟩) ⟨?_, ?_⟩
        · exact ⟨by go_simp, by go_simp⟩
        simp only [Act.put, List.getElem_toArray, List.getElem_cons_zero, List.getElem_cons_succ, List.setIfInBounds_toArray, List.set_cons_zero, List.set_cons_succ]
        refine wpAnyH_all (rs := [3]) (by kernel_rfl) (by simp) ?_
        intro i hi
        simp only [List.mem_cons, List.not_mem_nil, or_false] at hi
        subst hi
        refine wpOp_run rfl (by rfl) (by go_simp; first | rfl | exact ⟨rfl, rfl⟩) ⟨?_, ?_⟩
        · exact ⟨d3, dX0⟩
        simp only [Act.put, List.getElem_toArray, List.getElem_cons_zero, List.getElem_cons_succ, List.setIfInBounds_toArray, List.set_cons_zero, List.set_cons_succ]
        refine wpAnyH_all (rs := [8]) (by kernel_rfl) (by simp) ?_
        intro i hi
        simp only [List.mem_cons, List.not_mem_nil, or_false] at hi
        subst hi
        refine wpOp_skip rfl (by rfl) (by go_simp; first | rfl | exact ⟨rfl, rfl⟩) ⟨?_, ?_⟩
        · exact ⟨by go_simp, by go_simp⟩
        simp only [Act.put, List.getElem_toArray, List.getElem_cons_zero, List.getElem_cons_succ, List.setIfInBounds_toArray, List.set_cons_zero, List.set_cons_succ]
        refine wpAnyH_all (rs := [9]) (by kernel_rfl) (by simp) ?_
        intro i hi
        simp only [List.mem_cons, List.not_mem_nil, or_false] at hi
        subst hi
        refine wpOp_skip rfl (by rfl) (by go_simp; first | rfl | exact ⟨rfl, rfl⟩) ⟨?_, ?_⟩
        · exact ⟨by go_simp, by go_simp⟩
        simp only [Act.put, List.getElem_toArray, List.getElem_cons_zero, List.getElem_cons_succ, List.setIfInBounds_toArray, List.set_cons_zero, List.set_cons_succ]
        refine wpAnyH_done (by kernel_rfl) ?_ _
        show KeepsFrom _ W _ ∧ KeepB _ _ W _ ∧ Inv w u _ _
        exact inv_next HI.out bV HV.out Hgrow.out Hown.out Hk.out
    · have hb : (y != 0) = true := by rw [bne_iff_ne]; exact hy
      have Hy := Lib.hid hy
      have HI := Lib.hid hI
      have hB := hI.below
      have hx0 := hI.r0
      have hx1 := hI.r1
      have hx2 := hI.r2
      have hs8 := hI.sz
      clear hy hI
      clear hl bS bN hI0
      have nX0 : ¬ Bx = w.heap.size := by omega
      have nX1 : ¬ Bx = w.heap.size + 1 := by omega
      have nX2 : ¬ Bx = w.heap.size + 2 := by omega
      gi_wp2
      refine region_round (by kernel_rfl) (by kernel_rfl) ?_ (fun W' => W'.cell? ⟨Bx, 1, none⟩ = some (.int .i64 y)) ?_
      · rintro ⟨a, w, h⟩
        exact h
      have hS0 : W.drew.cell? ⟨Bx, 1, none⟩ = some (.int .i64 y) := hc1
      refine wpAnyH_take (i := 0) (v := ?_) rfl (by kernel_rfl) (by kernel_rfl) (by kernel_rfl) (fun _ _ _ h => h) (Or.inl ⟨by rfl, ?_⟩) hS0 ?_
      rotate_left
      · intro w hSw
        go_simp
        rfl
      simp only [Act.put, List.getElem_toArray, List.getElem_cons_zero, List.getElem_cons_succ, List.setIfInBounds_toArray, List.set_cons_zero, List.set_cons_succ]
      refine wpAnyH_take (i := 1) (v := ?_) rfl (by kernel_rfl) (by kernel_rfl) (by kernel_rfl) (fun _ _ _ h => h) (Or.inl ⟨by rfl, ?_⟩) hS0 ?_
      rotate_left
      · intro w hSw
        go_simp
        rfl
      simp only [Act.put, List.getElem_toArray, List.getElem_cons_zero, List.getElem_cons_succ, List.setIfInBounds_toArray, List.set_cons_zero, List.set_cons_succ]
      refine wpAnyH_all (rs := [2]) (by kernel_rfl) (by simp) ?_
      intro i hi
      simp only [List.mem_cons, List.not_mem_nil, or_false] at hi
      subst hi
      refine wpOp_skip rfl (by rfl) (by go_simp; first | rfl | exact ⟨rfl, rfl⟩) ⟨by go_simp, ?_⟩
      simp only [Act.put, List.getElem_toArray, List.getElem_cons_zero, List.getElem_cons_succ, List.setIfInBounds_toArray, List.set_cons_zero, List.set_cons_succ]
      refine wpAnyH_all (rs := [3]) (by kernel_rfl) (by simp) ?_
      intro i hi
      simp only [List.mem_cons, List.not_mem_nil, or_false] at hi
      subst hi
      refine wpOp_skip rfl (by rfl) (by go_simp; first | rfl | exact ⟨rfl, rfl⟩) ⟨by go_simp, ?_⟩
      simp only [Act.put, List.getElem_toArray, List.getElem_cons_zero, List.getElem_cons_succ, List.setIfInBounds_toArray, List.set_cons_zero, List.set_cons_succ]
      refine wpAnyH_all (rs := [4]) (by kernel_rfl) (by simp) ?_
      intro i hi
      simp only [List.mem_cons, List.not_mem_nil, or_false] at hi
      subst hi
      refine wpOp_skip rfl (by rfl) (by go_simp; first | rfl | exact ⟨rfl, rfl⟩) ⟨by go_simp, ?_⟩
      simp only [Act.put, List.getElem_toArray, List.getElem_cons_zero, List.getElem_cons_succ, List.setIfInBounds_toArray, List.set_cons_zero, List.set_cons_succ]
      refine wpAnyH_done (by kernel_rfl) ?_ _
      gi_wp2
      show KeepsFrom _ W _ ∧ Left w .ret _ _
      refine ⟨KeepsOthers.from ?_ _, rfl, ⟨pre, (t, q, y), rfl, HI.out.ok, Hy.out, ?_, ?_, ?_⟩, ?_⟩
      · exact (((KeepsOthers.drew W).trans (KeepsOthers.setCell _ _ _)).trans (KeepsOthers.setCell _ _ _)).trans (KeepsOthers.setCell _ _ _)
      · exact Boxed.other (Boxed.other (Boxed.set _ hx0) (by omega) _) (by omega) _
      · exact Boxed.other (Boxed.set _ (Boxed.other hx1 (by omega) _)) (by omega) _
      · exact Boxed.set _ (Boxed.other (Boxed.other hx2 (by omega) _) (by omega) _)
      · exact (((hB.drew).setCell (p := ⟨w.heap.size, 0, none⟩) (by simp) _).setCell (p := ⟨w.heap.size + 1, 0, none⟩) (by simp) _).setCell (p := ⟨w.heap.size + 1 + 1, 0, none⟩) (by simp; omega) _
  case done =>
    rintro D ys W hD rfl hI hK
    obtain ⟨v, bV, hV⟩ := hI.out
    obtain ⟨a0, c0, rfl, _, _⟩ := ownsRow_slice hV
    have hc4 := bV.cell
    have hc5 := hI.at'.cell
    have hr0 := hI.r0.cell
    have hr1 := hI.r1.cell
    have hr2 := hI.r2.cell
    have hf0 := hI.r0.frozen
    have hf1 := hI.r1.frozen
    have hf2 := hI.r2.frozen
    have HI := Lib.hid hI
    have HV := Lib.hid hV
    have HK := Lib.hid hK
    clear hI hV hK hI0 bS bN
    gi_wp2
    refine wpIn_wide.2 ?_
    refine wp_region_noPanic ?_
    refine wp_region_held (S := fun W' => W'.cell? ⟨w.heap.size + 4, 0, none⟩ = some (.slice a0 (rds n 0 (bl (s.extract u s.size))).length c0) ∧ W'.cell? ⟨w.heap.size + 5, 0, none⟩ = some (.int .i64 (IntKind.i64.wrap ((u : Int) + (lastAt (rds n 0 (bl (s.extract u s.size))) : Nat))))) (by kernel_rfl) ?_
    change wpAnyH _ _ _ _ _ _ _ _ W.drew
    have hS0 : W.drew.cell? ⟨w.heap.size + 4, 0, none⟩ = some (.slice a0 (rds n 0 (bl (s.extract u s.size))).length c0) ∧ W.drew.cell? ⟨w.heap.size + 5, 0, none⟩ = some (.int .i64 (IntKind.i64.wrap ((u : Int) + (lastAt (rds n 0 (bl (s.extract u s.size))) : Nat)))) := ⟨hc4, hc5⟩
    refine wpAnyH_take (i := 0) (v := ?_) rfl (by kernel_rfl) (by kernel_rfl) (by kernel_rfl) (fun _ _ _ h => h) (Or.inl ⟨by rfl, ?_⟩) hS0 ?_
    rotate_left
    · intro w hSw
      go_simp
      rfl
    simp only [Act.put, List.getElem_toArray, List.getElem_cons_zero, List.getElem_cons_succ, List.setIfInBounds_toArray, List.set_cons_zero, List.set_cons_succ]
    refine wpAnyH_take (i := 1) (v := ?_) rfl (by kernel_rfl) (by kernel_rfl) (by kernel_rfl) (fun _ _ _ h => h) (Or.inl ⟨by rfl, ?_⟩) hS0 ?_
    rotate_left
    · intro w hSw
      go_simp
      rfl
    simp only [Act.put, List.getElem_toArray, List.getElem_cons_zero, List.getElem_cons_succ, List.setIfInBounds_toArray, List.set_cons_zero, List.set_cons_succ]
    refine wpAnyH_all (rs := [2]) (by kernel_rfl) (by simp) ?_
    intro i hi
    simp only [List.mem_cons, List.not_mem_nil, or_false] at hi
    subst hi
    refine wpOp_skip rfl (by rfl) (by go_simp; first | rfl | exact ⟨rfl, rfl⟩) ⟨⟨by go_simp, by go_simp⟩, ?_⟩
    simp only [Act.put, List.getElem_toArray, List.getElem_cons_zero, List.getElem_cons_succ, List.setIfInBounds_toArray, List.set_cons_zero, List.set_cons_succ]
    refine wpAnyH_all (rs := [3]) (by kernel_rfl) (by simp) ?_
    intro i hi
    simp only [List.mem_cons, List.not_mem_nil, or_false] at hi
    subst hi
    refine wpOp_skip rfl (by rfl) (by go_simp; first | rfl | exact ⟨rfl, rfl⟩) ⟨⟨by go_simp, by go_simp⟩, ?_⟩
    simp only [Act.put, List.getElem_toArray, List.getElem_cons_zero, List.getElem_cons_succ, List.setIfInBounds_toArray, List.set_cons_zero, List.set_cons_succ]
    refine wpAnyH_all (rs := [4]) (by kernel_rfl) (by simp) ?_
    intro i hi
    simp only [List.mem_cons, List.not_mem_nil, or_false] at hi
    subst hi
    refine wpOp_skip rfl (by rfl) (by go_simp; first | rfl | exact ⟨rfl, rfl⟩) ⟨⟨by go_simp, by go_simp⟩, ?_⟩
    simp only [Act.put, List.getElem_toArray, List.getElem_cons_zero, List.getElem_cons_succ, List.setIfInBounds_toArray, List.set_cons_zero, List.set_cons_succ]
    refine wpAnyH_done (by kernel_rfl) (NoPanic.normal ?_) _
    gi_wp2
    have hD8 : w.heap.size + 8 ≤ D := by omega
    obtain ⟨W', hW'⟩ : ∃ W', W' = (((W.setCell ⟨w.heap.size, 0, none⟩ (.slice a0 (rds n 0 (bl (s.extract u s.size))).length c0)).setCell ⟨w.heap.size + 1, 0, none⟩ (.int .i64 (IntKind.i64.wrap ((u : Int) + (lastAt (rds n 0 (bl (s.extract u s.size))) : Nat))))).setCell ⟨w.heap.size + 1 + 1, 0, none⟩ (.int .i64 0)).drew := ⟨_, rfl⟩
    obtain ⟨kD, k0, k1, k2, hL, hB⟩ := fin_list HI.out HV.out HK.out hD8 W' hW'
    rw [← hW']
    have hok := HI.out.ok
    rw [Hx.out] at hok hL k0 k1 ⊢
    obtain ⟨hgl, hle⟩ := list_of_rds Hg.out hn hok
    rw [bl_length] at hle
    have hwr : IntKind.i64.wrap ((u : Int) + (lastAt (rds n 0 ((bl s).drop u)) : Nat)) = ((u + lastAt (rds n 0 ((bl s).drop u)) : Nat) : Int) := by
      rw [IntWalk.i64_in _ (by omega)]
      omega
    rw [hwr] at k1
    refine ⟨by simp, .inl ⟨_, _, rfl, run_takeDeferred (b := D) kD, ?_⟩⟩
    refine ⟨.tuple #[.slice a0 (rds n 0 ((bl s).drop u)).length c0, .int .i64 ((u + lastAt (rds n 0 ((bl s).drop u)) : Nat) : Int), .int .i64 0], ?_, ?_⟩
    · simp [results, Tryd.results99, go_sem, k0, k1, k2]
    · exact ⟨_, by rw [hgl], by rw [hgl]; exact hL, hB⟩
  case stop =>
    rintro D c pre W hD hpre ⟨rfl, ⟨p, x, rfl, h2, h3, h4, h5, h6⟩, hB⟩ hK
    have hr0 := h4.cell
    have hr1 := h5.cell
    have hr2 := h6.cell
    have hD8 : w.heap.size + 8 ≤ D := by omega
    have HK := Lib.hid hK
    have H2 := Lib.hid h2
    have H3 := Lib.hid h3
    clear hK hI0 bS bN h2 h3
    gi_wp2
    have hg := grownBy_putObj' W D (.deferred none)
    have hr : ∀ r, some D = some r → ∃ o : Obj, W.heap[r]? = some o ∧ o.isCells = false := fun r e => by cases e; exact ⟨_, HK.out, rfl⟩
    have k0 := (boxed_kept h4 hg hr).cell
    have k1 := (boxed_kept h5 hg hr).cell
    have k2 := (boxed_kept h6 hg hr).cell
    rw [Hx.out] at hpre
    have hgl := list_of_bad Hg.out hn hpre H2.out H3.out
    refine ⟨by simp, .inl ⟨_, _, rfl, run_takeDeferred (b := D) HK.out, ?_⟩⟩
    refine ⟨.tuple #[.slice none 0 0, .int .i64 0, .int .i64 x.2.2], ?_, ?_⟩
    · simp [results, Tryd.results99, go_sem, k0, k1, k2]
    · exact ⟨_, by rw [hgl]; rfl, by rw [hgl]; exact ListAt.nil _ _, hB.grown hg hB.size (fun k e => by cases e; omega)⟩

theorem GetList_ok (w : World) (s : ByteArray) (hs : s.size ≤ maxLen) : Calls Tryd.prog 99 #[.string s] w (ListPost w (getList (bl s))) := by
  rcases getNum_why (bl s) with h0 | hg | hg
  · obtain ⟨n, u, y, hg⟩ : ∃ n u y, getNum (bl s) = (n, u, y) := ⟨_, _, _, rfl⟩
    rw [hg] at h0
    simp only at h0
    subst h0
    by_cases hn : n ≤ 256
    · exact GetList_late w s hs n u hg hn
    · exact GetList_early w s hs (.inr (.inr ⟨n, u, hg, by omega⟩))
  · exact GetList_early w s hs (.inl hg)
  · exact GetList_early w s hs (.inr (.inl hg))

end Go.Proofs.YtfodloepkgkilaaDoor.OctG
