/-
  WHAT IS PROVED: the program's map of what was taken back: for each body of a redaction, the number of the last one. Condition: the variables hold what 'VarsE' says, and the entries' bytes are not longer than the theorem says.
-/
import Derived.Test.YtjiakfblgefioaaGreatDoorTread
import Derived.Maps.OwnIn
import Derived.Maps.Views
import Derived.StringKeys
namespace Go.Proofs.YtjiakfblgefioaaGreatDoor.Ttake
open Go Go.RowKit Go.Shelf Go.Proofs.YtjiakfblgefioaaGreatDoor Go.Proofs.YtjiakfblgefioaaGreatDoor.OctetS Go.Proofs.YtjiakfblgefioaaGreatDoor.IdentS Go.Proofs.YtjiakfblgefioaaGreatDoor.EventS Go.Proofs.YtjiakfblgefioaaGreatDoor.OctP Go.Proofs.YtjiakfblgefioaaGreatDoor.IdentP Go.Proofs.YtjiakfblgefioaaGreatDoor.EventP Go.Proofs.YtjiakfblgefioaaGreatDoor.EventC Go.Proofs.YtjiakfblgefioaaGreatDoor.OctG Go.Proofs.YtjiakfblgefioaaGreatDoor.RowsX Go.Proofs.YtjiakfblgefioaaGreatDoor.Lift Go.Proofs.YtjiakfblgefioaaGreatDoor.Tread
set_option linter.unusedVariables false
set_option linter.unusedSimpArgs false
attribute [local go_sem] Oper.semAt_some

/-! ### The map, as a datum -/
abbrev D0 := DataW Unit
def takStep (D : D0) (x : Rd) : D0 := if x.1.2.kind = 7 then D.put (.string x.1.2.body) (.lit (.int .i64 x.1.1)) else D
def takD (pre : List Rd) : D0 := pre.foldl takStep (.map [])
def lastStep (s : List UInt8) (r : Option Nat) (x : Rd) : Option Nat := if x.1.2.kind = 7 ∧ x.1.2.body = s then some x.1.1 else r
def lastOf (s : List UInt8) (pre : List Rd) : Option Nat := pre.foldl (lastStep s) none
theorem takD_snoc (pre : List Rd) (x : Rd) : takD (pre ++ [x]) = takStep (takD pre) x := by simp [takD]
theorem lastOf_snoc (s : List UInt8) (pre : List Rd) (x : Rd) : lastOf s (pre ++ [x]) = lastStep s (lastOf s pre) x := by simp [lastOf]
def Holds (D : D0) (r : List UInt8 → Option Nat) : Prop := Maps.IsMap D ∧ ∀ s, Maps.has D (.string s) = (r s).isSome ∧ D.atKey (.string s) (.lit (.int .i64 0)) = .lit (.int .i64 ((r s).getD 0 : Nat))
theorem tak_holds (pre : List Rd) : Holds (takD pre) (fun s => lastOf s pre) := by
  suffices h : ∀ (l : List Rd) (D : D0) (r : List UInt8 → Option Nat), Holds D r → Holds (l.foldl takStep D) (fun s => l.foldl (lastStep s) (r s)) by
    exact h pre _ _ ⟨Maps.isMap_empty, fun s => ⟨rfl, rfl⟩⟩
  intro l
  induction l with
  | nil => intro D r h; exact h
  | cons x t ih =>
    intro D r h
    refine ih (takStep D x) (fun s => lastStep s (r s) x) ?_
    unfold takStep lastStep
    by_cases hk : x.1.2.kind = 7
    · rw [if_pos hk]
      refine ⟨h.1.put _ _, fun s => ?_⟩
      by_cases hs : x.1.2.body = s
      · subst hs
        simp only [hk, and_self, if_true]
        exact ⟨Maps.has_put_same h.1 (show WideAt.IsKeyLit (.string _) from trivial) _, Maps.atKey_put_same h.1 (show WideAt.IsKeyLit (.string _) from trivial) _ _⟩
      · have hne : (Lit.string s) ≠ .string x.1.2.body := fun e => hs (by cases e; rfl)
        simp only [hk, hs, and_false, if_false]
        exact ⟨(Maps.has_put_other hne _).trans (h.2 s).1, (Maps.atKey_put_other hne _ _).trans (h.2 s).2⟩
    · rw [if_neg hk]
      refine ⟨h.1, fun s => ?_⟩
      simp only [hk, false_and, if_false]
      exact h.2 s

/-! ### The function -/
def EvCs (e : Ev) : Array Value := #[.string (bsOf e.room), .string (bsOf e.sender), .int .u8 e.kind, .string (bsOf e.key), .string (bsOf e.body), .int .i64 e.nonce]

set_option maxRecDepth 100000 in
set_option maxHeartbeats 4000000 in
theorem takers_ok (w : World) (v : Value) (L : List En) (hv : Sl w v 37 L.length (enV L)) (hV : VarsE w) (hb : ∀ x ∈ L, x.ev.size ≤ 140737488351232) (hL : L.length ≤ 1099511627776) :
    Calls Tryz.prog 60 #[v] w fun e w' => e = .returned (.map (some w.heap.size)) ∧ w'.ownsMap Tryz.prog 9 (plainElem (H := Unit) Tryz.prog 3) w.heap.size (rdE 0 L).length (takD (rdE 0 L)) ∧ Below w.heap.size w w' := by
  obtain ⟨a, cap, rfl, hcap, hm⟩ := hv.form
  have hmm := @run_makeMap Tryz.prog
  refine callsIn_wide (n := 3) |>.1 ?_
  refine callsIn_of_wp_marks Tryz.func60 rfl trivial ?_ rfl
  simp only [Tryz.ntmps60, List.size_toArray, List.length_cons, List.length_nil, Nat.reduceAdd, Nat.reduceSub, Array.replicate_succ, Array.replicate_zero, List.push_toArray, List.append_toArray, List.nil_append, List.cons_append]
  have HV := Lib.hid hv
  have HVars := Lib.hid hV
  have HBnd := Lib.hid hb
  clear hv hV hb hcap hm
  gi_wp2_with (refine ⟨trivial, ?_⟩; gi_at_call 61; refine (callsIn_wide.2 (read_ok _ a L.length cap)).mono ?_; rintro e w' ⟨rfl, rfl⟩)
  have hm0 := World.ownsMap_made w Tryz.prog 9 (plainElem (H := Unit) Tryz.prog 3)
  obtain ⟨W0, hW0⟩ : ∃ W0, W0 = (((w.alloc (.map #[] 0)).alloc (.cells #[.map (some w.heap.size)] 100)).alloc (.cells #[.slice a L.length cap] 34)) := ⟨_, rfl⟩
  have hsz : W0.heap.size = w.heap.size + 3 := by rw [hW0]; simp
  have hB0 : Below w.heap.size w W0 := by rw [hW0]; exact (((Below.refl _ w).alloc (Nat.le_refl _) _).alloc (by simp) _).alloc (by simp; omega) _
  have bM : Boxed W0 (w.heap.size + 1) 100 (.map (some w.heap.size)) := by rw [hW0]; exact heap_at (heap_new' _ (by simp)) _
  have bE : W0.heap[w.heap.size + 2]? = some (.cells #[.slice a L.length cap] 34 (0, 0)) := by rw [hW0]; exact heap_new' _ (by simp)
  have hO : W0.ownsMap Tryz.prog 9 (plainElem (H := Unit) Tryz.prog 3) w.heap.size 0 (takD []) := by rw [hW0]; exact (hm0.alloc _).alloc _
  rw [← hW0]
  clear hW0 hm0
  refine wpIn_rangeFunc_ownH rfl (by omega) (gf := 77) (lb := #[.pointer (some ⟨w.heap.size + 1 + 1, 0, none⟩)]) rfl trivial (enters_of Tryz.func77 (by kernel_rfl) rfl)
    (seq_stops 2 (by omega) (w.heap.size + 2) w W0 _ L HV.out HVars.out HBnd.out hL hB0 bE) (fun h k => KeepE.trans h k) (fun W l o o' hl ho hc hk => ⟨belowK_b (w := W0) (by omega) W l o o' hl ho hc hk, World.putObj_heap_other (by omega)⟩) (Below.refl _ _) (fun _ => rfl)
    (fun pre W => (Boxed W (w.heap.size + 1) 100 (.map (some w.heap.size)) ∧ W.ownsMap Tryz.prog 9 (plainElem (H := Unit) Tryz.prog 3) w.heap.size pre.length (takD pre)) ∧ Below w.heap.size w W ∧ W0.heap.size ≤ W.heap.size)
    (fun _ _ _ => False)
    (OwnFrom.and (fun s A B row hs hg hr => ⟨boxed_kept hs.1 hg (fun r e => (hr r e).2), hs.2.kept hg (fun e => by have := (hr _ e.symm).1; omega)⟩) (OwnFrom.and (ownFrom_below (Nat.le_refl _) (by omega)) (fun s A B row hs hg hr => Nat.le_trans hs hg.size)))
    (fun _ _ _ _ _ hs _ _ => hs)
    ⟨⟨bM, hO⟩, hB0, Nat.le_refl _⟩
    (fun x a' W => ∃ Bx, W0.heap.size ≤ Bx ∧ W.heap[Bx]? = some (.cells (EvCs x.1.2) 56 (0, 0)) ∧ a' = { tmps := #[.slice a L.length cap, undef, .map none, .pointer (some ⟨w.heap.size + 1, 0, none⟩), .int .i64 x.1.1, .pointer (some ⟨Bx, 0, none⟩), .map (some w.heap.size), .slice a L.length cap,
          .func (Fn.func 77) #[] #[.pointer (some ⟨w.heap.size + 1 + 1, 0, none⟩)], .int .i64 x.1.1, .agg (EvCs x.1.2), undef, undef, undef, undef, undef, undef, undef, undef], defers := [] })
    (fun x a' _ X Y row hs hg hr => by
      obtain ⟨Bx, h1, h2, h3⟩ := hs
      refine ⟨Bx, h1, (hg.block Bx (lt_row h2) (fun e => ?_)).trans h2, h3⟩
      obtain ⟨_, o, ho, hc⟩ := hr Bx e.symm
      rw [h2] at ho
      cases ho
      cases hc)
    ?assign ?body ?done ?stop
  case assign =>
    rintro l pre ⟨⟨i, e⟩, hi⟩ W K hI hK
    dsimp only [encE, evZ, evV]
    obtain ⟨⟨hI1, hI2⟩, hI3, hI4⟩ := hI
    gi_wp2
    exact hK _ _ ((KeepsOthers.alloc _ _).from _) ⟨(Below.refl _ _).alloc hI3.size _, Below.heap_alloc W _ _ (by omega)⟩ ⟨⟨hI1.alloc _, hI2.alloc _⟩, hI3.alloc hI3.size _, by simp; omega⟩ ⟨W.heap.size, hI4, heap_new _ _, rfl⟩
  case body =>
    rintro l pre ⟨⟨i, e⟩, hi1, hi2⟩ a' W hl ⟨r, hr⟩ ⟨⟨hc, hown⟩, hB, hsW⟩ ⟨Bx, hBx, bX, rfl⟩ hlt
    have hlen := (rdE_len 0 L)
    unfold EvCs at bX
    obtain ⟨q, fq⟩ := row_facts bX
    have hcc := hc.cell
    have hke : keyOf Tryz.prog 9 (.string (bsOf e.body)) = some (.string (bsOf e.body).data.toList) := WideMaps.keyOf_string_mk Tryz.underlying9 (by have h5 : e.body.length ≤ 512 := hi1.body; rw [size_bsOf]; unfold maxLen; omega)
    have hval : plainElem (H := Unit) Tryz.prog 3 (.int .i64 (i : Int)) = some (.lit (.int .i64 (i : Int)), []) := plainElem_int Tryz.underlying3 (by simp [Lit.wf, IntKind.min, IntKind.max, IntKind.signed, IntKind.bits]; omega)
    have hnM : pre.length < maxLen := by unfold maxLen; omega
    have hbb := hown.lt
    have Hown := Lib.hid hown
    have HB := Lib.hid hB
    have Hc := Lib.hid hc
    have Hke := Lib.hid hke
    have Hval := Lib.hid hval
    clear hown hB hc hke hval hr bM bE hO hB0 hmm
    unfold EvCs
    by_cases hk : e.kind = 7
    · have hst : takD (pre ++ [⟨(i, e), hi1, hi2⟩]) = (takD pre).put (.string (bsOf e.body).data.toList) (.lit (.int .i64 (i : Int))) := by
        rw [takD_snoc, takStep, if_pos hk]
        rfl
      have Hst := Lib.hid hst
      clear hst
      gi_wp2_with (gi_at_mapUpdate; refine wpListIn_mapUpdate_own _ rfl _ _ _ 100 rfl 9 3 (Maps.string_keyed Tryz.underlying9) Tryz.underlying100 _ w.heap.size pre.length _ rfl Hown.out hnM _ _ _ rfl rfl Hke.out _ [] Hval.out ?_; intro w1 hown1 hgrow1)
      obtain ⟨es, ck, hh, _⟩ := Hown.out
      refine ⟨KeepsFrom.of_grownBy hgrow1 (fun j e => by cases e; omega), ⟨(Below.refl _ W).grown hgrow1 HB.out.size (fun k e => by cases e; exact Nat.le_refl _), hgrow1.block _ (by omega) (fun e => by simp at e)⟩, ⟨?_, ?_⟩, HB.out.grown hgrow1 HB.out.size (fun k e => by cases e; exact Nat.le_refl _), by have := hgrow1.size; omega⟩
      · exact (hgrow1.block _ (lt_row Hc.out) (fun e => by simp at e)).trans Hc.out
      · rw [Hst.out, List.length_append]
        exact hown1
    · have hst : takD (pre ++ [⟨(i, e), hi1, hi2⟩]) = takD pre := by rw [takD_snoc, takStep, if_neg hk]
      have Hst := Lib.hid hst
      have hk7 : (e.kind == 7) = false := by simpa using hk
      clear hst
      gi_wp2
      refine ⟨KeepsFrom.refl _ _, ⟨Below.refl _ _, rfl⟩, ⟨Hc.out, ?_⟩, HB.out, by omega⟩
      rw [Hst.out, List.length_append]
      exact Hown.out.mono (by omega)
  case done =>
    rintro D ys W hD rfl ⟨⟨hc, hown⟩, hB, hsW⟩ hK
    have hcc := hc.cell
    gi_wp2
    refine ⟨by simp, .inl ⟨_, _, rfl, run_takeDeferred hK, ?_⟩⟩
    exact ⟨_, results_tmp rfl _ _ _, rfl, hown.kept (grownBy_putObj' _ D _) (fun e => by cases e; omega), hB.trans (belowK_b (w := w) (Nat.le_refl _) W D _ _ (by omega) hK rfl rfl)⟩
  case stop =>
    rintro D c pre W _ _ h _
    exact h.elim

end Go.Proofs.YtjiakfblgefioaaGreatDoor.Ttake
