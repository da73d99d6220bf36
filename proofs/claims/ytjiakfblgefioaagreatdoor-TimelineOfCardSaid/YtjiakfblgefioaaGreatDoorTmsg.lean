/-
  WHAT IS PROVED: the messages that the program has of entries. Condition: the variables hold what 'VarsR' says, and the entries' bytes are not longer than the theorem says.
-/
import Derived.Test.YtjiakfblgefioaaGreatDoorTtake
import Derived.Test.YtjiakfblgefioaaGreatDoorThex
import Derived.Test.YtjiakfblgefioaaGreatDoorEqHash
namespace Go.Proofs.YtjiakfblgefioaaGreatDoor.Tmsg
open Go Go.RowKit Go.Shelf Go.Proofs.YtjiakfblgefioaaGreatDoor Go.Proofs.YtjiakfblgefioaaGreatDoor.OctetS Go.Proofs.YtjiakfblgefioaaGreatDoor.IdentS Go.Proofs.YtjiakfblgefioaaGreatDoor.EventS Go.Proofs.YtjiakfblgefioaaGreatDoor.ShaS Go.Proofs.YtjiakfblgefioaaGreatDoor.RedactS Go.Proofs.YtjiakfblgefioaaGreatDoor.OctP Go.Proofs.YtjiakfblgefioaaGreatDoor.IdentP Go.Proofs.YtjiakfblgefioaaGreatDoor.EventP Go.Proofs.YtjiakfblgefioaaGreatDoor.EventC Go.Proofs.YtjiakfblgefioaaGreatDoor.OctG Go.Proofs.YtjiakfblgefioaaGreatDoor.ShaA Go.Proofs.YtjiakfblgefioaaGreatDoor.ShaB Go.Proofs.YtjiakfblgefioaaGreatDoor.Steps Go.Proofs.YtjiakfblgefioaaGreatDoor.RedA Go.Proofs.YtjiakfblgefioaaGreatDoor.RedB Go.Proofs.YtjiakfblgefioaaGreatDoor.RowsX Go.Proofs.YtjiakfblgefioaaGreatDoor.Lift Go.Proofs.YtjiakfblgefioaaGreatDoor.Tread Go.Proofs.YtjiakfblgefioaaGreatDoor.Ttake Go.Proofs.YtjiakfblgefioaaGreatDoor.Thex
set_option linter.unusedVariables false
set_option linter.unusedSimpArgs false
attribute [local go_sem] Oper.semAt_some

/-! ### A region that draws its order, in a round, by one order -/
theorem region_chain_round {P : Program} {l n : Nat} {ops : Array Oper} {Q : Exit → Act → World → Prop} {id : Nat} {a : Act} {w : World} (S : World → Prop) (is : List Nat) (hm : P.follows .mixedOrders = true) (hd : ops.all noDefer = true) (hQ : ¬ LetsOut Q)
    (hp : (Region.noSelect ops && (Uniform.planB .any ops (Array.replicate ops.size false) is && decide (is.length ≤ ops.size))) = true) (hS : S w.drew) (h : Uniform.Chain P ops S Q is a) : (Code.region id ops true).wpIn (Fence.wide.inRound l) n P Q a w := by
  simp only [Bool.and_eq_true, decide_eq_true_eq] at hp
  exact wpIn_region_any hm (wpAnyIn_round hd hQ _ _ _ _ (Uniform.wpAny_of_uni _ _ _ (Uniform.wpAnyU_chain hp.1 is _ _ _ hp.2.1 hp.2.2 h) _ hS))

/-! ### The map, kept -/
def OwnM (b n : Nat) (D : D0) (w : World) : Prop := w.ownsMap Tryz.prog 9 (plainElem (H := Unit) Tryz.prog 3) b n D
theorem OwnM.below {b n : Nat} {D : D0} {w w' : World} (h : OwnM b n D w) (hb : Below w.heap.size w w') : OwnM b n D w' := by
  unfold OwnM at *
  exact h.kept (row := none) ⟨hb.os, hb.tape, hb.output, hb.size, fun k hk _ => hb.block k hk⟩ (fun e => by cases e)
theorem own_look {b n : Nat} {D : D0} {w : World} (h : OwnM b n D w) (s : List UInt8) (hs : s.length ≤ maxLen) {hv : Bool} {c : Nat} (h1 : Maps.has D (.string s) = hv) (h2 : D.atKey (.string s) (.lit (.int .i64 0)) = .lit (.int .i64 (c : Nat))) :
    (Instr.lookup 100 (.map (some b)) (.string (bsOf s)) true).run Tryz.prog w = .ok (.tuple #[.int .i64 (c : Int), .bool hv]) w := by
  have hz : (zeroValue 3).run Tryz.prog w = .ok (.int .i64 0) w := by kernel_rfl
  obtain ⟨v, ps, hrun, hR⟩ := World.ownsMap.look_ok h (Maps.string_keyed Tryz.underlying9) Tryz.underlying100 hz (plainElem_int Tryz.underlying3 (by decide)) (WideMaps.keyOf_string_mk Tryz.underlying9 (by rw [size_bsOf]; exact hs))
  obtain ⟨c', rfl, hc, _⟩ := plainElem_int_inv Tryz.underlying3 hR
  have e : (bsOf s).data.toList = s := bl_bsOf s
  rw [e] at hrun hc
  simp only [Prod.mk.injEq] at hc
  have h3 := hc.1.symm.trans h2
  simp only [DataW.lit.injEq, Lit.int.injEq, true_and] at h3
  rw [hrun, h1, h3]

/-! ### Messages -/
structure Mg where
  i : Nat
  e : Ev
  gone : Bool
def Mg.csA (x : Mg) : Array Value := #[.int .i64 x.i, .string (bsOf x.e.room), .string (bsOf x.e.sender), .int .u8 x.e.kind, .string (bsOf x.e.key), .string (bsOf x.e.body), .int .i64 x.e.nonce, .bool x.gone]
def Mg.cs (x : Mg) : List Value := x.csA.toList
theorem mgF : RowFn 8 Mg.cs := ⟨fun _ => rfl, fun x u hu => by
  simp only [Mg.cs, Mg.csA, List.mem_cons, List.not_mem_nil, or_false] at hu
  rcases hu with rfl | rfl | rfl | rfl | rfl | rfl | rfl | rfl <;> rfl⟩
theorem tyMsgs : SliceTy Tryz.prog 73 76 8 96 (.agg #[.int .i64 0, .string ByteArray.empty, .string ByteArray.empty, .int .u8 0, .string ByteArray.empty, .string ByteArray.empty, .int .i64 0, .bool false]) :=
  SliceTy.mk' (by kernel_rfl) (by kernel_rfl) rfl (by omega)
def goneAt (T : List Rd) (x : Rd) : Bool := match lastOf (hex (refSum x.1.2)) T with
  | some j => decide (x.1.1 < j)
  | none => false
def mgOf (T : List Rd) (x : Rd) : List Mg := if x.1.2.kind = 6 then [⟨x.1.1, x.1.2, goneAt T x⟩] else []
abbrev AccM (w0 w : World) (v : Value) (l : List Mg) : Prop := AccR 76 8 Mg.cs w0 w v l
theorem mg_len (T : List Rd) : ∀ l : List Rd, (l.flatMap (mgOf T)).length ≤ l.length
  | [] => by simp
  | x :: r => by
    have h1 := mg_len T r
    have h2 : (mgOf T x).length ≤ 1 := by unfold mgOf; split <;> simp
    rw [List.flatMap_cons, List.length_append, List.length_cons]
    omega

theorem accM_kept {w0 X Y : World} {v : Value} {l : List Mg} {row : Option Nat} {N : Nat} (h : AccM w0 X v l) (hN : w0.heap.size ≤ N) (hg : X.grownBy Y row) (hr : ∀ r, row = some r → N ≤ r ∧ ∃ o : Obj, X.heap[r]? = some o ∧ o.isCells = false) : AccM w0 Y v l := by
  refine ⟨?_, below_kept h.bel hN hg hr h.bel.size⟩
  have hE : Ext (fun k => row = some k) X Y := (Ext.refl _ X).grown hg (fun k hk => .inl hk)
  refine h.own.ext hE (fun k hk e => ?_)
  obtain ⟨_, o, ho, hc⟩ := hr k e
  rcases h.own.2 with ⟨rfl, _⟩ | ⟨g, cap, cur, fr, rfl, _, hgb, _⟩
  · simp [Value.ownBlock] at hk
  · have : g = k := by simpa [Value.ownBlock] using hk
    subst this
    rw [hgb] at ho
    cases ho
    cases hc
/-- A block of another type is not the row's. -/
theorem accM_ne {w0 W : World} {v : Value} {l : List Mg} {B : Nat} {cs : Array Value} {t : TypeId} {fr : Nat × Nat} (h : AccM w0 W v l) (hb : W.heap[B]? = some (.cells cs t fr)) (ht : t ≠ 76) : v.ownBlock ≠ some B := by
  intro e
  rcases h.own.2 with ⟨rfl, _⟩ | ⟨g, cap, cur, fr', rfl, _, hgb, _⟩
  · simp [Value.ownBlock] at e
  · have : g = B := by simpa [Value.ownBlock] using e
    subst this
    rw [hgb] at hb
    simp only [Option.some.injEq, Obj.cells.injEq] at hb
    exact ht hb.2.1.symm
theorem accM_set {w0 W : World} {v : Value} {l : List Mg} (h : AccM w0 W v l) {B j : Nat} (hB : w0.heap.size ≤ B) (hne : v.ownBlock ≠ some B) (u : Value) : AccM w0 (W.setCell ⟨B, j, none⟩ u) v l :=
  ⟨h.own.ext (Ext.set1 W B j u) (fun k hk e => hne (e ▸ hk)), h.bel.setCell (p := ⟨B, j, none⟩) hB _⟩
theorem keepsOthers_below {W W' : World} (h : Below W.heap.size W W') : KeepsOthers W W' := ⟨h.size, fun k o hk ho => (h.block k (lt_row hk)).trans hk⟩
theorem acc_cells {w0 W : World} {v : Value} {l : List Mg} (h : AccM w0 W v l) : ∀ (j : Nat) (o : Obj), v.ownBlock = some j → W.heap[j]? = some o → o.isCells = true := by
  intro j o hj ho
  rcases h.own.2 with ⟨rfl, _⟩ | ⟨g, cap, cur, fr', rfl, _, hgb, _⟩
  · simp [Value.ownBlock] at hj
  · have : g = j := by simpa [Value.ownBlock] using hj
    subst this
    rw [hgb] at ho
    cases ho
    rfl

/-- A round that gathers a message leaves what the next one finds. -/
theorem msg_next {w Wb w3 w4 : World} {u v4 : Value} {l l2 l3 : List Mg} {B n : Nat} {D : D0} {cs : Array Value} {sl : Value} (hn : w.heap.size ≤ B) (hBw : B + 3 ≤ Wb.heap.size) (h7 : Below Wb.heap.size Wb w3) (h6 : AccM w w3 u l) (hk : KeepsOthers Wb w3)
    (hg : (w3.alloc (.cells cs 76)).grownBy w4 u.ownBlock) (hA : AccM w w4 v4 l2) (hM : Boxed w3 B 100 (.map (some w.heap.size)))
    (hE : w3.heap[B + 2]? = some (.cells #[sl] 34 (0, 0))) (hO : w3.heap[B + 1]? = some (.cells #[u] 73 (0, 0))) (hD : OwnM w.heap.size n D w3) (hl : l3 = l2) :
    KeepsFrom (B + 3) Wb (w4.setCell ⟨B + 1, 0, none⟩ v4) ∧ KeepE w.heap.size (B + 2) Wb (w4.setCell ⟨B + 1, 0, none⟩ v4) ∧
    Boxed (w4.setCell ⟨B + 1, 0, none⟩ v4) B 100 (.map (some w.heap.size)) ∧ (∃ v, Boxed (w4.setCell ⟨B + 1, 0, none⟩ v4) (B + 1) 73 v ∧ AccM w (w4.setCell ⟨B + 1, 0, none⟩ v4) v l3) ∧ OwnM w.heap.size n D (w4.setCell ⟨B + 1, 0, none⟩ v4) ∧
    (w4.setCell ⟨B + 1, 0, none⟩ v4).heap[B + 2]? = some (.cells #[sl] 34 (0, 0)) ∧ B + 3 ≤ (w4.setCell ⟨B + 1, 0, none⟩ v4).heap.size := by
  subst hl
  have hz3 := h7.size
  have hz4 := hg.size
  rw [World.size_alloc] at hz4
  have hbk : ∀ {k : Nat} {c : Array Value} {t : TypeId}, w3.heap[k]? = some (.cells c t (0, 0)) → t ≠ 76 → w4.heap[k]? = some (.cells c t (0, 0)) := fun {k c t} h ht =>
    (hg.block _ (by rw [World.size_alloc]; have := lt_row h; omega) (fun e => accM_ne h6 h ht e.symm)).trans (heap_at h _)
  have hM4 : Boxed w4 B 100 (.map (some w.heap.size)) := hbk hM (by decide)
  have hE4 := hbk hE (by decide)
  have hO4 := hbk hO (by decide)
  have hb4 : Below w.heap.size Wb w4 := (((h7.mono (by omega)).alloc (by omega) _)).grown hg (by rw [World.size_alloc]; omega) (fun k hk => (h6.own.lt k hk).1)
  have hnv : v4.ownBlock ≠ some (B + 1) := accM_ne hA hO4 (by decide)
  have hD4 : OwnM w.heap.size n D w4 := by
    unfold OwnM at *
    refine (hD.alloc _).kept hg (fun e => ?_)
    obtain ⟨es, ck, hh, _⟩ := hD
    have := (acc_cells h6) _ _ e.symm hh
    cases this
  refine ⟨KeepsOthers.from (((hk.trans (KeepsOthers.alloc _ _)).trans (KeepsOthers.of_grownBy hg (fun j o hj ho => acc_cells (h6.alloc _) j o hj ho))).trans (KeepsOthers.setCell _ _ _)) _, ⟨hb4.setCell (p := ⟨B + 1, 0, none⟩) (by simp; omega) _, ?_⟩, Boxed.other hM4 (by omega) _, ⟨v4, Boxed.set _ hO4, accM_set hA (by omega) hnv _⟩, ?_, (heap_setCell_far _ (by omega)).trans hE4, by simp [World.setCell]; omega⟩
  · rw [heap_setCell_far _ (by omega), hE4, ← hE]
    exact h7.block _ (by omega)
  · unfold OwnM at *
    exact hD4.kept (grownBy_setCell' w4 (B + 1) v4) (fun e => by simp only [Option.some.injEq] at e; omega)

set_option maxRecDepth 100000 in
set_option maxHeartbeats 8000000 in
theorem messages_ok (w : World) (v : Value) (L : List En) (hv : Sl w v 37 L.length (enV L)) (hV : VarsR w) (hb : ∀ x ∈ L, x.ev.size ≤ 140737488351232) (hL : L.length ≤ 1099511627776) :
    Calls Tryz.prog 38 #[v] w fun e w' => ∃ v', e = .returned v' ∧ AccM w w' v' ((rdE 0 L).flatMap (mgOf (rdE 0 L))) := by
  obtain ⟨a, cap, rfl, hcap, hm⟩ := hv.form
  obtain ⟨T, hT⟩ : ∃ T, T = rdE 0 L := ⟨_, rfl⟩
  have hTl := rdE_len 0 L
  have hH := tak_holds (rdE 0 L)
  have hTk := takers_ok w _ L hv hV.e hb hL
  rw [← hT] at hTl hH hTk
  refine callsIn_wide (n := 3) |>.1 ?_
  refine callsIn_of_wp_marks Tryz.func38 rfl trivial ?_ rfl
  simp only [Tryz.ntmps38, List.size_toArray, List.length_cons, List.length_nil, Nat.reduceAdd, Nat.reduceSub, Array.replicate_succ, Array.replicate_zero, List.push_toArray, List.append_toArray, List.nil_append, List.cons_append]
  have HV := Lib.hid hv
  have HVars := Lib.hid hV
  have HBnd := Lib.hid hb
  have HTk := Lib.hid hTk
  have HH := Lib.hid hH
  have HT := Lib.hid hT
  clear hv hV hb hcap hm hTk hH hT
  gi_wp2_with fail
  refine ⟨trivial, ?_⟩
  refine (callsIn_wide.2 HTk.out).mono ?_
  rintro e W1 ⟨rfl, hM1, hB1⟩
  have hW1 := hB1.size
  have hMlt : w.heap.size < W1.heap.size := by
    obtain ⟨es, ck, hh, _⟩ := hM1
    exact lt_row hh
  have HM1 := Lib.hid (show OwnM w.heap.size T.length (takD T) W1 from hM1)
  have HB1 := Lib.hid hB1
  clear hM1 hB1
  gi_wp2_with (refine ⟨trivial, ?_⟩; gi_at_call 61; refine (callsIn_wide.2 (read_ok _ a L.length cap)).mono ?_; rintro e w' ⟨rfl, rfl⟩)
  obtain ⟨W0, hW0⟩ : ∃ W0, W0 = (((W1.alloc (.cells #[.map (some w.heap.size)] 100)).alloc (.cells #[.slice none 0 0] 73)).alloc (.cells #[.slice a L.length cap] 34)) := ⟨_, rfl⟩
  have hsz : W0.heap.size = W1.heap.size + 3 := by rw [hW0]; simp
  have hb10 : Below W1.heap.size W1 W0 := by rw [hW0]; exact (((Below.refl _ W1).alloc (Nat.le_refl _) _).alloc (by simp) _).alloc (by simp; omega) _
  have hB0 : Below w.heap.size w W0 := HB1.out.trans (hb10.mono HB1.out.size)
  have bM : Boxed W0 W1.heap.size 100 (.map (some w.heap.size)) := by rw [hW0]; exact heap_at (heap_at (heap_new _ _) _) _
  have bO : Boxed W0 (W1.heap.size + 1) 73 (.slice none 0 0) := by rw [hW0]; exact heap_at (heap_new' _ (by simp)) _
  have bE : W0.heap[W1.heap.size + 2]? = some (.cells #[.slice a L.length cap] 34 (0, 0)) := by rw [hW0]; exact heap_new' _ (by simp)
  have hM0 := HM1.out.below hb10
  rw [← hW0]
  clear hW0 hb10
  refine wpIn_rangeFunc_ownH rfl (by omega) (gf := 77) (lb := #[.pointer (some ⟨W1.heap.size + 1 + 1, 0, none⟩)]) rfl trivial (enters_of Tryz.func77 (by kernel_rfl) rfl)
    (seq_stops 2 (by omega) (W1.heap.size + 2) w W0 _ L HV.out HVars.out.e HBnd.out hL hB0 bE) (fun h k => KeepE.trans h k) (fun W l o o' hl ho hc hk => ⟨belowK_b (w := W0) (by omega) W l o o' hl ho hc hk, World.putObj_heap_other (by omega)⟩) (Below.refl _ _) (fun _ => rfl)
    (fun pre W => Boxed W W1.heap.size 100 (.map (some w.heap.size)) ∧ (∃ v, Boxed W (W1.heap.size + 1) 73 v ∧ AccM w W v (pre.flatMap (mgOf T))) ∧ OwnM w.heap.size T.length (takD T) W ∧ W.heap[W1.heap.size + 2]? = some (.cells #[.slice a L.length cap] 34 (0, 0)) ∧ W1.heap.size + 3 ≤ W.heap.size)
    (fun _ _ _ => False)
    (fun s X Y row hs hg hr => by
      obtain ⟨h1, ⟨u, h2, h3⟩, h4, h5, h6⟩ := hs
      have hr' := fun r e => (hr r e).2
      exact ⟨boxed_kept h1 hg hr', ⟨u, boxed_kept h2 hg hr', accM_kept h3 (by omega) hg hr⟩, h4.kept hg (fun e => by have := (hr _ e.symm).1; omega), (hg.block _ (lt_row h5) (fun e => by have := (hr _ e.symm).1; omega)).trans h5, Nat.le_trans h6 hg.size⟩)
    (fun _ _ _ _ _ hs _ _ => hs)
    ⟨bM, ⟨_, bO, ⟨Ow.nil _ _ _ _, hB0⟩⟩, hM0, bE, by omega⟩
    (fun x a' W => ∃ Bx, W0.heap.size ≤ Bx ∧ W.heap[Bx]? = some (.cells (EvCs x.1.2) 56 (0, 0)) ∧ a' = { tmps := #[.slice a L.length cap, undef, .slice none 0 0, .pointer (some ⟨W1.heap.size, 0, none⟩), .pointer (some ⟨W1.heap.size + 1, 0, none⟩), .int .i64 x.1.1, .pointer (some ⟨Bx, 0, none⟩), undef, undef, undef, undef, .slice a L.length cap, .map (some w.heap.size), .slice a L.length cap,
          .func (Fn.func 77) #[] #[.pointer (some ⟨W1.heap.size + 1 + 1, 0, none⟩)], .int .i64 x.1.1, .agg (EvCs x.1.2), undef, undef, undef, undef, undef, undef, undef, undef, undef, undef, undef, undef, undef, undef, undef, undef, undef, undef, undef, undef, undef, undef, undef, undef, undef, undef, undef, undef], defers := [] })
    (fun x a' _ X Y row hs hg hr => by
      obtain ⟨Bx, h1, h2, h3⟩ := hs
      refine ⟨Bx, h1, (hg.block Bx (lt_row h2) (fun e => ?_)).trans h2, h3⟩
      obtain ⟨_, o, ho, hc⟩ := hr Bx e.symm
      rw [h2] at ho
      cases ho
      cases hc)
    ?assign ?body ?done ?stop
  case assign =>
    rintro l pre ⟨⟨i, e⟩, hi⟩ W K ⟨h1, ⟨u, h2, h3⟩, h4, h5, h6⟩ hK
    dsimp only [encE, evZ, evV]
    gi_wp2
    exact hK _ _ ((KeepsOthers.alloc _ _).from _) ⟨(Below.refl _ _).alloc (by omega) _, Below.heap_alloc W _ _ (by omega)⟩ ⟨h1.alloc _, ⟨u, h2.alloc _, h3.alloc _⟩, h4.alloc _, heap_at h5 _, by simp; omega⟩ ⟨W.heap.size, by omega, heap_new _ _, rfl⟩
  case body =>
    rintro l pre ⟨⟨i, e⟩, hi1, hi2⟩ a' Wb hl ⟨r, hr⟩ ⟨h1, ⟨u, h2, h3⟩, h4, h5, h6⟩ ⟨Bx, hBx, bX, rfl⟩ hlt
    have hi2' : i ≤ 1099511627776 := hi2
    have hpl := mg_len T pre
    replace bX : Wb.heap[Bx]? = some (.cells #[.string (bsOf e.room), .string (bsOf e.sender), .int .u8 e.kind, .string (bsOf e.key), .string (bsOf e.body), .int .i64 e.nonce] 56 (0, 0)) := bX
    have hBxl := lt_row bX
    obtain ⟨qe, fe⟩ := row_facts bX
    have hc3 := h1.cell
    have HA := Lib.hid h3
    have HO := Lib.hid h4
    have H1 := Lib.hid h1
    have H2 := Lib.hid h2
    have H5 := Lib.hid h5
    have HX := Lib.hid bX
    have Hi1 := Lib.hid hi1
    clear h1 h2 h3 h4 h5 hr bM bO bE hB0 hM0 bX
    unfold EvCs
    by_cases hk : e.kind = 6
    · have hchk : checkB e = true := check_iff.2 Hi1.out
      have hkb : (e.kind != 6) = false := by simp [hk]
      have hbl : bl (bsOf e.room) = e.room ∧ bl (bsOf e.sender) = e.sender ∧ bl (bsOf e.key) = e.key ∧ bl (bsOf e.body) = e.body := ⟨bl_bsOf _, bl_bsOf _, bl_bsOf _, bl_bsOf _⟩
      have hev : evOf (bsOf e.room) (bsOf e.sender) e.kind (bsOf e.key) (bsOf e.body) e.nonce = e := by
        unfold evOf
        rw [hbl.1, hbl.2.1, hbl.2.2.1, hbl.2.2.2]
      have b1 : (bsOf e.room).size ≤ 140737488351232 := by rw [size_bsOf]; have h5 : e.room.length ≤ 20 := room_length Hi1.out.room; omega
      have b2 : (bsOf e.sender).size ≤ 140737488351232 := by rw [size_bsOf]; have h5 : e.sender.length ≤ 20 := user_length Hi1.out.sender; omega
      have b3 : (bsOf e.key).size ≤ 140737488351232 := by rw [size_bsOf]; have h5 : e.key.length ≤ 20 := Hi1.out.key_length; omega
      have b4 : (bsOf e.body).size ≤ maxLen := by rw [size_bsOf]; have h5 : e.body.length ≤ 512 := Hi1.out.body; unfold maxLen; omega
      have hR := fun w hv => Ref_ok w (bsOf e.room) (bsOf e.sender) e.kind (bsOf e.key) (bsOf e.body) e.nonce hv b1 b2 b3 b4
      rw [hev] at hR
      unfold refV at hR
      rw [hchk, if_pos rfl] at hR
      obtain ⟨lr, hlr⟩ : ∃ lr, lr = refSum e := ⟨_, rfl⟩
      have hl32 : lr.length = 32 := by rw [hlr]; exact refSum_length e
      rw [← hlr] at hR
      unfold hV evV at hR
      have hhex := fun w => Hex_ok w lr hl32
      have hlast := HH.out.2 (hex lr)
      obtain ⟨hvv, hhv⟩ : ∃ b, b = (lastOf (hex lr) T).isSome := ⟨_, rfl⟩
      obtain ⟨c, hcc⟩ : ∃ c, c = (lastOf (hex lr) T).getD 0 := ⟨_, rfl⟩
      rw [← hhv, ← hcc] at hlast
      have hgone : goneAt T ⟨(i, e), Hi1.out, hi2'⟩ = (hvv && decide (i < c)) := by
        unfold goneAt
        rw [show refSum (⟨(i, e), Hi1.out, hi2'⟩ : Rd).1.2 = lr from hlr.symm, hhv, hcc]
        cases lastOf (hex lr) T <;> rfl
      have hmg : (pre ++ [(⟨(i, e), Hi1.out, hi2'⟩ : Rd)]).flatMap (mgOf T) = pre.flatMap (mgOf T) ++ [⟨i, e, hvv && decide (i < c)⟩] := by
        have hm : mgOf T ⟨(i, e), Hi1.out, hi2'⟩ = [⟨i, e, goneAt T ⟨(i, e), Hi1.out, hi2'⟩⟩] := by unfold mgOf; exact if_pos hk
        rw [List.flatMap_append, List.flatMap_singleton, hm, hgone]
      have hi : (Tryz.prog.info? 60).map (·.size) = some 32 := by kernel_rfl
      have HIs := Lib.hid (show (Tryz.prog.info? 60).map (·.size) = some (pB 32 lr).size by rw [pB_size (by omega)]; exact hi)
      have HL32 := Lib.hid hl32
      have HR := Lib.hid hR
      have Hhex := Lib.hid hhex
      have Hh1 := Lib.hid hlast.1
      have Hh2 := Lib.hid hlast.2
      have Hhl := Lib.hid (show (hex lr).length ≤ maxLen by rw [hex_len, hl32]; unfold maxLen; omega)
      have Hmg := Lib.hid hmg
      have HVW := Lib.hid (HVars.out.below HA.out.bel)
      clear hR hhex hlast hmg hgone hhv hcc hlr hev hbl b1 b2 b3 b4 hi hl32 hchk hk
      gi_wp2_with fail
      refine ⟨trivial, ?_⟩
      refine CallsIn.inRound l ((callsIn_wide.2 (HR.out Wb HVW.out)).mono ?_)
      rintro e' w1 ⟨rfl, hb1⟩
      have hx1 := (hb1.block _ hBxl).trans HX.out
      have HB1' := Lib.hid hb1
      have hl1 := hb1.size
      clear hb1 qe fe hc3
      gi_wp2_with (refine wpListIn_store_rowA (wideF_round l) rfl _ _ _ rfl w1.heap.size (pB 32 lr) rfl rfl _ _ (heap_new _ _) HIs.out (by rw [pB_size (Nat.le_of_eq HL32.out)]; rfl) (pB_one _ _) ?_)
      intro w2 hw2
      obtain ⟨hb2, hr2⟩ := Lift.row_new hw2
      have hbW2 := HB1'.out.trans (hb2.mono HB1'.out.size)
      have hcM := below_cell hbW2 H1.out.cell
      have hbX2 := (hbW2.block _ hBxl).trans HX.out
      have hbE2 := (hbW2.block _ (lt_row H5.out)).trans H5.out
      have hbO2 : w2.heap[W1.heap.size + 1]? = some (.cells #[u] 73 (0, 0)) := (hbW2.block _ (lt_row H2.out)).trans H2.out
      have HO2 := Lib.hid (HO.out.below hbW2)
      have HA2 := Lib.hid (HA.out.below hbW2)
      have HBW2 := Lib.hid hbW2
      clear hb2 hw2 hbW2 hx1
      gi_wp2
      refine region_chain_round (S := (fun W => W.cell? ⟨W1.heap.size, 0, none⟩ = some (.map (some w.heap.size)) ∧ W.heap[w1.heap.size]? = some (.cells (pB 32 lr) 60 (0, 0)) ∧ W.heap[Bx]? = some (.cells #[.string (bsOf e.room), .string (bsOf e.sender), .int .u8 e.kind, .string (bsOf e.key), .string (bsOf e.body), .int .i64 e.nonce] 56 (0, 0)) ∧ W.heap[W1.heap.size + 2]? = some (.cells #[.slice a L.length cap] 34 (0, 0)) ∧ W.heap[W1.heap.size + 1]? = some (.cells #[u] 73 (0, 0)) ∧ OwnM w.heap.size T.length (takD T) W ∧ AccM w W u (pre.flatMap (mgOf T)) ∧ Below Wb.heap.size Wb W)) (List.range 9) (by kernel_rfl) (by kernel_rfl) (by rintro ⟨_, _, h⟩; exact h) (by kernel_rfl) ⟨hcM, hr2, hbX2, hbE2, hbO2, (HO2.out).below (Bl.drew (Below.refl _ _)), (HA2.out).below (Bl.drew (Below.refl _ _)), (HBW2.out).drew⟩ ?_
      refine ⟨_, ?_, rfl, Or.inl ⟨by rfl, fun wq hSw => Uniform.UStep.value (w' := wq) ?_ hSw⟩, ?_⟩
      rotate_left
      · obtain ⟨q0, q1, q2, q3, q4, q5, q6, q7⟩ := hSw
        go_simp
        rfl
      simp only [Act.put, List.getElem_toArray, List.getElem_cons_zero, List.getElem_cons_succ, List.setIfInBounds_toArray, List.set_cons_zero, List.set_cons_succ]
      refine ⟨_, _, rfl, Or.inl ⟨by rfl, fun wq hSw => Uniform.UStep.value (w' := wq) (EqHash.exec_load_row 60 _ rfl _ rfl hSw.2.1 Tryz.underlying60 rfl HIs.out) hSw⟩, ?_⟩
      simp only [Act.put, List.getElem_toArray, List.getElem_cons_zero, List.getElem_cons_succ, List.setIfInBounds_toArray, List.set_cons_zero, List.set_cons_succ]
      refine ⟨_, ?_, rfl, Or.inl ⟨by rfl, fun wq hSw => Uniform.UStep.call (w' := wq) ?_ ((Hhex.out wq).mono ?_)⟩, ?_⟩
      rotate_left
      · obtain ⟨q0, q1, q2, q3, q4, q5, q6, q7⟩ := hSw
        go_simp
        first | done | rfl | exact ⟨⟨rfl, rfl⟩, rfl⟩ | exact ⟨rfl, rfl⟩
      · have hSk := hSw
        obtain ⟨q0, q1, q2, q3, q4, q5, q6, q7⟩ := hSw
        rintro e wq2 ⟨rfl, hbq⟩
        refine ⟨?_, below_cell hbq q0, (hbq.block _ (lt_row q1)).trans q1, (hbq.block _ (lt_row q2)).trans q2, (hbq.block _ (lt_row q3)).trans q3, (hbq.block _ (lt_row q4)).trans q4, q5.below hbq, q6.below hbq, q7.trans (hbq.mono q7.size)⟩
        rfl
      simp only [Act.put, List.getElem_toArray, List.getElem_cons_zero, List.getElem_cons_succ, List.setIfInBounds_toArray, List.set_cons_zero, List.set_cons_succ]
      refine ⟨_, (.tuple #[.int .i64 (c : Int), .bool hvv]), rfl, Or.inl ⟨by rfl, fun wq hSw => Uniform.UStep.value (w' := wq) ?_ hSw⟩, ?_⟩
      · obtain ⟨q0, q1, q2, q3, q4, q5, q6, q7⟩ := hSw
        have hlk := own_look q5 (hex lr) Hhl.out Hh1.out Hh2.out
        go_simp
      simp only [Act.put, List.getElem_toArray, List.getElem_cons_zero, List.getElem_cons_succ, List.setIfInBounds_toArray, List.set_cons_zero, List.set_cons_succ]
      refine ⟨_, ?_, rfl, Or.inl ⟨by rfl, fun wq hSw => Uniform.UStep.value (w' := wq) ?_ hSw⟩, ?_⟩
      rotate_left
      · obtain ⟨q0, q1, q2, q3, q4, q5, q6, q7⟩ := hSw
        go_simp
        rfl
      simp only [Act.put, List.getElem_toArray, List.getElem_cons_zero, List.getElem_cons_succ, List.setIfInBounds_toArray, List.set_cons_zero, List.set_cons_succ]
      refine ⟨_, ?_, rfl, Or.inl ⟨by rfl, fun wq hSw => Uniform.UStep.value (w' := wq) ?_ hSw⟩, ?_⟩
      rotate_left
      · obtain ⟨q0, q1, q2, q3, q4, q5, q6, q7⟩ := hSw
        go_simp
        rfl
      simp only [Act.put, List.getElem_toArray, List.getElem_cons_zero, List.getElem_cons_succ, List.setIfInBounds_toArray, List.set_cons_zero, List.set_cons_succ]
      refine ⟨_, ?_, rfl, Or.inl ⟨by rfl, fun wq hSw => Uniform.UStep.value (w' := wq) ?_ hSw⟩, ?_⟩
      rotate_left
      · obtain ⟨q0, q1, q2, q3, q4, q5, q6, q7⟩ := hSw
        go_simp
        rfl
      simp only [Act.put, List.getElem_toArray, List.getElem_cons_zero, List.getElem_cons_succ, List.setIfInBounds_toArray, List.set_cons_zero, List.set_cons_succ]
      refine ⟨_, ?_, rfl, Or.inl ⟨by rfl, fun wq hSw => Uniform.UStep.value (w' := wq) ?_ hSw⟩, ?_⟩
      rotate_left
      · obtain ⟨q0, q1, q2, q3, q4, q5, q6, q7⟩ := hSw
        go_simp
        rfl
      simp only [Act.put, List.getElem_toArray, List.getElem_cons_zero, List.getElem_cons_succ, List.setIfInBounds_toArray, List.set_cons_zero, List.set_cons_succ]
      refine ⟨_, ?_, rfl, Or.inl ⟨by rfl, fun wq hSw => Uniform.UStep.value (w' := wq) ?_ hSw⟩, ?_⟩
      rotate_left
      · obtain ⟨q0, q1, q2, q3, q4, q5, q6, q7⟩ := hSw
        go_simp
        rfl
      simp only [Act.put, List.getElem_toArray, List.getElem_cons_zero, List.getElem_cons_succ, List.setIfInBounds_toArray, List.set_cons_zero, List.set_cons_succ]
      rintro w3 ⟨q0, q1, q2, q3, q4, q5, q6, q7⟩
      obtain ⟨qe3, fe3⟩ := row_facts q2
      obtain ⟨qo3, fo3⟩ := row_facts q4
      have l2 := lt_row q2
      have l3 := lt_row q3
      have l4 := lt_row q4
      have Q1 := Lib.hid q0
      have Q3 := Lib.hid q3
      have Q4 := Lib.hid q4
      have Q5 := Lib.hid q5
      have Q6 := Lib.hid q6
      have Q7 := Lib.hid q7
      clear q0 q1 q2 q3 q4 q5 q6 q7 hr2 hbX2 hbE2 hbO2 hcM
      have HM3 : Boxed w3 W1.heap.size 100 (.map (some w.heap.size)) := (Q7.out.block _ (lt_row H1.out)).trans H1.out
      have Hm3 := Lib.hid HM3
      clear HM3
      cases hvv
      · have Hmg' : Hid ((pre ++ [(⟨(i, e), Hi1.out, hi2'⟩ : Rd)]).flatMap (mgOf T) = pre.flatMap (mgOf T) ++ [⟨i, e, false⟩]) := Hmg
        gi_wp2_with (refine wpListIn_accR (wideF_round l) tyMsgs mgF Q6.out ⟨i, e, false⟩ rfl _ _ rfl rfl #[.int .i64 (i : Int), .string (bsOf e.room), .string (bsOf e.sender), .int .u8 e.kind, .string (bsOf e.key), .string (bsOf e.body), .int .i64 e.nonce, .bool (false)] rfl _ rfl (by simp) ?hl ?hb ?go)
        case hl => unfold maxLen; omega
        case hb => omega
        case go =>
        intro v4 w4 A4 hgrow
        have hz4 := hgrow.size
        rw [World.size_alloc] at hz4
        have hO4 : w4.heap[W1.heap.size + 1]? = some (.cells #[u] 73 (0, 0)) := (hgrow.block _ (by rw [World.size_alloc]; omega) (fun h => accM_ne Q6.out Q4.out (by decide) h.symm)).trans (heap_at Q4.out _)
        obtain ⟨qo4, fo4⟩ := row_facts hO4
        obtain ⟨a4, n4, c4, rfl⟩ : ∃ a n c, v4 = .slice a n c := by obtain ⟨a, c, h, _⟩ := A4.own.form; exact ⟨_, _, _, h⟩
        have HA4 := Lib.hid A4
        have HG := Lib.hid hgrow
        have HO4 := Lib.hid hO4
        clear A4 hgrow hO4 qe3 fe3 qo3 fo3
        gi_wp2
        rw [hsz]
        exact msg_next (by omega) (by omega) Q7.out Q6.out (keepsOthers_below Q7.out) HG.out HA4.out Hm3.out Q3.out Q4.out Q5.out Hmg'.out
      · have Hmg' : Hid ((pre ++ [(⟨(i, e), Hi1.out, hi2'⟩ : Rd)]).flatMap (mgOf T) = pre.flatMap (mgOf T) ++ [⟨i, e, decide (i < c)⟩]) := Lib.hid (by rw [Hmg.out, Bool.true_and])
        gi_wp2_with (refine wpListIn_accR (wideF_round l) tyMsgs mgF Q6.out ⟨i, e, decide (i < c)⟩ rfl _ _ rfl rfl #[.int .i64 (i : Int), .string (bsOf e.room), .string (bsOf e.sender), .int .u8 e.kind, .string (bsOf e.key), .string (bsOf e.body), .int .i64 e.nonce, .bool (decide (i < c))] rfl _ rfl (by simp) ?hl ?hb ?go)
        case hl => unfold maxLen; omega
        case hb => omega
        case go =>
        intro v4 w4 A4 hgrow
        have hz4 := hgrow.size
        rw [World.size_alloc] at hz4
        have hO4 : w4.heap[W1.heap.size + 1]? = some (.cells #[u] 73 (0, 0)) := (hgrow.block _ (by rw [World.size_alloc]; omega) (fun h => accM_ne Q6.out Q4.out (by decide) h.symm)).trans (heap_at Q4.out _)
        obtain ⟨qo4, fo4⟩ := row_facts hO4
        obtain ⟨a4, n4, c4, rfl⟩ : ∃ a n c, v4 = .slice a n c := by obtain ⟨a, c, h, _⟩ := A4.own.form; exact ⟨_, _, _, h⟩
        have HA4 := Lib.hid A4
        have HG := Lib.hid hgrow
        have HO4 := Lib.hid hO4
        clear A4 hgrow hO4 qe3 fe3 qo3 fo3
        gi_wp2
        rw [hsz]
        exact msg_next (by omega) (by omega) Q7.out Q6.out (keepsOthers_below Q7.out) HG.out HA4.out Hm3.out Q3.out Q4.out Q5.out Hmg'.out
    · have hkb : (e.kind != 6) = true := by simpa using hk
      have hmg : (pre ++ [(⟨(i, e), Hi1.out, hi2'⟩ : Rd)]).flatMap (mgOf T) = pre.flatMap (mgOf T) := by
        have hm : mgOf T ⟨(i, e), Hi1.out, hi2'⟩ = [] := by unfold mgOf; exact if_neg hk
        rw [List.flatMap_append, List.flatMap_singleton, hm, List.append_nil]
      have Hmg := Lib.hid hmg
      clear hmg
      gi_wp2
      exact ⟨KeepsFrom.refl _ _, ⟨Below.refl _ _, rfl⟩, H1.out, ⟨_, H2.out, by rw [Hmg.out]; exact HA.out⟩, HO.out, H5.out, h6⟩
  case done =>
    rintro D ys W hD rfl ⟨h1, ⟨u, h2, h3⟩, h4, h5, h6⟩ hK
    have hcc := h2.cell
    rw [← HT.out] at h3
    gi_wp2
    refine ⟨by simp, .inl ⟨_, _, rfl, run_takeDeferred hK, ?_⟩⟩
    refine ⟨_, results_tmp rfl _ _ _, _, rfl, ?_⟩
    rw [← HT.out]
    exact accM_kept (N := w.heap.size) h3 (Nat.le_refl _) (grownBy_putObj' _ D _) (fun r e => by cases e; exact ⟨by omega, _, hK, rfl⟩)
  case stop =>
    rintro D c pre W _ _ h _
    exact h.elim

end Go.Proofs.YtjiakfblgefioaaGreatDoor.Tmsg
