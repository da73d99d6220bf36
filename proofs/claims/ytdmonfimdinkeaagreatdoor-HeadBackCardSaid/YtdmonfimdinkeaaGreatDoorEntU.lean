/-
  WHAT IS PROVED: entries' sums, bytes, signatures, and the statements' own check of them. Condition: what each theorem names.
-/
import Derived.Test.YtdmonfimdinkeaaGreatDoorKeyQ
import Derived.Test.YtdmonfimdinkeaaGreatDoorEntB
import Derived.Test.YtdmonfimdinkeaaGreatDoorEnt
import Derived.LoopN
import Derived.Test.YtdmonfimdinkeaaGreatDoorBook
import Derived.Test.YtdmonfimdinkeaaGreatDoorWireT
import Derived.Test.YtdmonfimdinkeaaGreatDoorEqHash
import Derived.Test.YtdmonfimdinkeaaGreatDoorKeyN
import Derived.Test.YtdmonfimdinkeaaGreatDoorWireB
import Derived.Laws.StructEq
namespace Go.Proofs.YtdmonfimdinkeaaGreatDoor.EntX
open Go Go.RowKit Go.Shelf Go.Proofs.YtdmonfimdinkeaaGreatDoor Go.Proofs.YtdmonfimdinkeaaGreatDoor.OctetS Go.Proofs.YtdmonfimdinkeaaGreatDoor.IdentS Go.Proofs.YtdmonfimdinkeaaGreatDoor.EntS Go.Proofs.YtdmonfimdinkeaaGreatDoor.OctP Go.Proofs.YtdmonfimdinkeaaGreatDoor.OctG Go.Proofs.YtdmonfimdinkeaaGreatDoor.IdentP Go.Proofs.YtdmonfimdinkeaaGreatDoor.EntP Go.Proofs.YtdmonfimdinkeaaGreatDoor.EventC Go.Proofs.YtdmonfimdinkeaaGreatDoor.EventP Go.Proofs.YtdmonfimdinkeaaGreatDoor.ShaA Go.Proofs.YtdmonfimdinkeaaGreatDoor.Steps Go.Proofs.YtdmonfimdinkeaaGreatDoor.KeyA Go.Proofs.YtdmonfimdinkeaaGreatDoor.TreeA
set_option linter.unusedVariables false
set_option linter.unusedSimpArgs false

theorem text_len {t : List UInt8} (h : t.length ≤ 8192) : (OctetS.text t).length ≤ 8194 := by
  unfold OctetS.text
  have := OctetS.num_length2 h
  rw [List.length_append]
  omega
theorem flat_len : ∀ (l : List (List UInt8)), (∀ t ∈ l, t.length ≤ 8192) → (l.flatMap OctetS.text).length ≤ 8194 * l.length
  | [], _ => by simp
  | t :: r, h => by
    have h1 := text_len (h t (by simp))
    have h2 := flat_len r (fun x hx => h x (by simp [hx]))
    simp only [List.flatMap_cons, List.length_append, List.length_cons]
    omega
theorem ent_len {e : Ent} (h : Right e) (hp : e.prev.length = 32) : (EntS.text e).length ≤ 100000 := by
  obtain ⟨h1, h2⟩ := fits_iff.1 (h.fits hp)
  have h3 := flat_len _ h2
  have h4 : (EntS.parts e).length = 6 := rfl
  have h5 := OctetS.num_length2 (n := 6) (by omega)
  unfold EntS.text OctetS.list
  rw [List.length_append, h4]
  rw [h4] at h3
  omega
def sumH (t : List UInt8) : H32 := KeyJ.mk32 (ShaS.sum t) (ShaS.sum_length t)
theorem sumH_A (t : List UInt8) : (sumH t).A = (byV (ShaS.sum t)).toArray := by
  unfold sumH
  exact KeyJ.mk32_A _ _
/-- An entry's sum, and why there is none. -/
def sumE (e : Ent) : H32 := if checkB e = true then sumH (EntS.text e) else zeroH

set_option maxRecDepth 100000 in
set_option maxHeartbeats 4000000 in
theorem Sum_ok (w : World) (p : Array Value) (r : ByteArray) (ep ix : Int) (pv : List UInt8) (e s : ByteArray) (hp : EntP p r ep ix pv e s) (hv : VarsI w) (hk : VarsH w) (hr : r.size ≤ 140737488351232) (he : e.size ≤ maxLen) (hs : s.size ≤ maxLen) :
    Calls Tryz.prog 36 #[.agg p] w (KeyA.RB (.tuple #[.agg (sumE (entOf r ep ix pv e s)).A, .int .i64 (whyOf (EntS.checkB (entOf r ep ix pv e s)))]) w) := by
  have hT := fun w hv => Text_ok w p r ep ix pv e s hp hv hr he hs
  unfold EntS.textOf at hT
  unfold sumE
  have hps := hp.size
  have hpi : (Tryz.prog.info? 27).map (·.size) = some 37 := by kernel_rfl
  rw [← hps] at hpi
  have HI := Lib.hid hpi
  obtain ⟨Z, hZ⟩ : ∃ Z, Z = zeroH.A := ⟨_, rfl⟩
  have HLIT : Hid ((#[.int .u8 0, .int .u8 0, .int .u8 0, .int .u8 0, .int .u8 0, .int .u8 0, .int .u8 0, .int .u8 0, .int .u8 0, .int .u8 0, .int .u8 0, .int .u8 0, .int .u8 0, .int .u8 0, .int .u8 0, .int .u8 0, .int .u8 0, .int .u8 0, .int .u8 0, .int .u8 0, .int .u8 0, .int .u8 0, .int .u8 0, .int .u8 0, .int .u8 0, .int .u8 0, .int .u8 0, .int .u8 0, .int .u8 0, .int .u8 0, .int .u8 0, .int .u8 0] : Array Value) = Z) := Lib.hid (by rw [hZ]; kernel_rfl)
  have HZN : Hid (Z.size = 32) := Lib.hid (by rw [hZ]; kernel_rfl)
  have HZS : Hid ((Tryz.prog.info? 23).map (·.size) = some Z.size) := Lib.hid (by rw [hZ]; exact H32.info _)
  have HZO : Hid (Z.all (·.oneCell') = true) := Lib.hid (by rw [hZ]; exact H32.one _)
  obtain ⟨w0, hw0⟩ : ∃ w0, w0 = (w.alloc (.cells p 27)).alloc (.cells Z 23) := ⟨_, rfl⟩
  have hb0 : Below w.heap.size w w0 := by rw [hw0]; exact ((Below.refl _ w).alloc (Nat.le_refl _) _).alloc (by simp) _
  have HX0 := Lib.hid (show w0.heap[w.heap.size]? = some (.cells p 27 (0, 0)) by rw [hw0]; exact heap_at (heap_new _ _) _)
  have HZ0 := Lib.hid (show w0.heap[w.heap.size + 1]? = some (.cells Z 23 (0, 0)) by rw [hw0]; exact heap_new' _ (by simp))
  have HBL0 := Lib.hid hb0
  have HW0 := Lib.hid hw0
  have HV0 := Lib.hid (hv.below hb0)
  have HK0 := Lib.hid (hk.below hb0)
  cases hchk : EntS.checkB (entOf r ep ix pv e s)
  · skip
    rw [hchk] at hT
    rw [if_neg (by simp), ← hZ]
    have HT := Lib.hid hT
    clear hT hchk hr he hs hp hb0 hv hk hw0 hZ hpi hps
    go_enter Tryz.func36, Tryz.ntmps36
    go_wp2_with (first | (rw [HLIT.out, ← HW0.out]; refine wpList_load_row rfl _ _ rfl w.heap.size rfl _ p (0, 0) _ HX0.out Tryz.underlying27 rfl HI.out ?_) | fail)
    refine (HT.out w0 HV0.out).mono ?_
    rintro e' w1 ⟨rfl, hb⟩
    have HBL1 := Lib.hid (HBL0.out.trans (hb.mono HBL0.out.size))
    have HZ1 := Lib.hid ((hb.block _ (lt_row HZ0.out)).trans HZ0.out)
    clear hb
    unfold whyOf
    go_wp2_with (first | (refine wpList_store_rowA rfl _ _ _ rfl (w.heap.size + 1) Z rfl (by rw [← HLIT.out]; rfl) _ _ HZ1.out HZS.out rfl HZO.out ?_) | fail)
    intro wf hwf
    go_wp2
    refine bodyPost_ret (v := .tuple #[.agg Z, .int .i64 2]) (WireT.results_cell_slot rfl _ _ (w.heap.size + 1) 23 Z (0, 0) _ rfl (by rw [hwf.out]; exact setRow_at HZ1.out) Tryz.underlying23 rfl HZS.out rfl) rfl ⟨rfl, by rw [hwf.out]; exact below_row HBL1.out (by omega) _⟩
  · skip
    rw [hchk] at hT
    rw [if_pos rfl] at hT ⊢
    have hR := EntS.check_iff.1 hchk
    have hlen := ent_len hR hp.len
    obtain ⟨t, ht⟩ : ∃ t, t = EntS.text (entOf r ep ix pv e s) := ⟨_, rfl⟩
    rw [← ht] at hT hlen ⊢
    obtain ⟨R, hRe⟩ : ∃ R, R = (sumH t).A := ⟨_, rfl⟩
    have HRS : Hid ((Tryz.prog.info? 23).map (·.size) = some R.size) := Lib.hid (by rw [hRe]; exact H32.info _)
    have HRN : Hid (Z.size = R.size) := Lib.hid (by rw [hRe, H32.size]; exact HZN.out)
    have HRO : Hid (R.all (·.oneCell') = true) := Lib.hid (by rw [hRe]; exact H32.one _)
    obtain ⟨Tb, hTb⟩ : ∃ Tb, Tb = bsOf t := ⟨_, rfl⟩
    rw [← hTb] at hT
    have hS := fun w hk => ShaM.Sum_ok w Tb (by rw [hTb, size_bsOf]; omega) hk
    have hRR : (byV (ShaS.sum (bl Tb))).toArray = R := by rw [hTb, bl_bsOf, hRe, sumH_A]
    rw [hRR] at hS
    rw [← hRe]
    have HT := Lib.hid hT
    have HS := Lib.hid hS
    clear hT hS hRR hRe hTb ht hlen hR hchk hr he hs hp hb0 hv hk hw0 hZ hpi hps
    go_enter Tryz.func36, Tryz.ntmps36
    go_wp2_with (first | (rw [HLIT.out, ← HW0.out]; refine wpList_load_row rfl _ _ rfl w.heap.size rfl _ p (0, 0) _ HX0.out Tryz.underlying27 rfl HI.out ?_) | fail)
    refine (HT.out w0 HV0.out).mono ?_
    rintro e' w1 ⟨rfl, hb⟩
    have HBL1 := Lib.hid (HBL0.out.trans (hb.mono HBL0.out.size))
    have HZ1 := Lib.hid ((hb.block _ (lt_row HZ0.out)).trans HZ0.out)
    have HK1 := Lib.hid (HK0.out.below hb)
    clear hb
    unfold whyOf
    go_wp2_with fail
    refine (HS.out w1 HK1.out).mono ?_
    rintro e' w2 ⟨rfl, hb⟩
    have HBL2 := Lib.hid (HBL1.out.trans (hb.mono HBL1.out.size))
    have HZ2 := Lib.hid ((hb.block _ (lt_row HZ1.out)).trans HZ1.out)
    clear hb
    go_wp2_with (first | (refine wpList_store_rowA rfl _ _ _ rfl (w.heap.size + 1) R rfl rfl _ _ HZ2.out HRS.out HRN.out HRO.out ?_) | fail)
    intro wf hwf
    go_wp2
    refine bodyPost_ret (v := .tuple #[.agg R, .int .i64 0]) (WireT.results_cell_slot rfl _ _ (w.heap.size + 1) 23 R (0, 0) _ rfl (by rw [hwf.out]; exact setRow_at HZ2.out) Tryz.underlying23 rfl HRS.out rfl) rfl ⟨rfl, by rw [hwf.out]; exact below_row HBL2.out (by omega) _⟩

end Go.Proofs.YtdmonfimdinkeaaGreatDoor.EntX

namespace Go.Proofs.YtdmonfimdinkeaaGreatDoor.EntY
open Go Go.RowKit Go.Shelf Go.Proofs.YtdmonfimdinkeaaGreatDoor Go.Proofs.YtdmonfimdinkeaaGreatDoor.OctetS Go.Proofs.YtdmonfimdinkeaaGreatDoor.IdentS Go.Proofs.YtdmonfimdinkeaaGreatDoor.EntS Go.Proofs.YtdmonfimdinkeaaGreatDoor.OctP Go.Proofs.YtdmonfimdinkeaaGreatDoor.OctQ Go.Proofs.YtdmonfimdinkeaaGreatDoor.OctG Go.Proofs.YtdmonfimdinkeaaGreatDoor.IdentP Go.Proofs.YtdmonfimdinkeaaGreatDoor.EntP Go.Proofs.YtdmonfimdinkeaaGreatDoor.EventC Go.Proofs.YtdmonfimdinkeaaGreatDoor.EventP Go.Proofs.YtdmonfimdinkeaaGreatDoor.ShaA Go.Proofs.YtdmonfimdinkeaaGreatDoor.Steps Go.Proofs.YtdmonfimdinkeaaGreatDoor.KeyA Go.Proofs.YtdmonfimdinkeaaGreatDoor.EntB
set_option linter.unusedVariables false
set_option linter.unusedSimpArgs false

set_option maxRecDepth 100000 in
set_option maxHeartbeats 1000000 in
theorem List_long (w : World) (v : Value) (t : ByteArray) (r : List ByteArray) (h : Rd w v (t :: r)) (hr : r.length ≤ 100) (ht : 8192 < t.size) (ht2 : t.size ≤ 140737488351232) :
    Calls Tryz.prog 41 #[v] w (KeyA.RB (.tuple #[.string ⟨#[]⟩, .int .i64 7]) w) := by
  obtain ⟨a, cap, rfl, hcap, hm⟩ := h.form
  obtain ⟨b, off, rfl, hbl, hcell⟩ := h.plain (by rw [strV_length]; simp)
  have hc0 : w.cell? ⟨b, off + 0, none⟩ = some (.string t) := hcell 0 _ rfl
  rw [Nat.add_zero] at hc0
  obtain ⟨n, hn⟩ : ∃ n, n = (t :: r).length := ⟨_, rfl⟩
  have hn1 : 0 < n := by rw [hn]; simp
  have hn2 : n ≤ 256 := by rw [hn]; simp; omega
  rw [← hn]
  have Hc := Lib.hid hc0
  clear hcell hc0 h hn hcap hm
  go_enter Tryz.func41, Tryz.ntmps41
  go_wp2_with fail
  refine (put_ok w w.heap.size (.slice none 0 0) [] n (Ow.nil _ _ _ _) (by omega) (by simp) (Nat.le_refl _)).mono ?_
  rintro e w1 ⟨v1, rfl, hG⟩
  have hb := hG.ofNil
  have hc1 : w1.cell? ⟨b, off, none⟩ = some (.string t) := (hb.cell (p := ⟨b, off, none⟩) hbl).trans Hc.out
  have HB := Lib.hid hb
  clear hb hG
  go_wp2
  refine wp_loop_rounds 1 ?_
  rw [rounds_succ]
  go_wp2
  go_ret2
  exact ⟨rfl, HB.out⟩

/-- An entry's bytes. -/
theorem bytesW_ok {e : Ent} : bytesW e = (if checkB e = true then (if (EntS.text e).length ≤ 8192 then (bytesE e, 0) else ([], 7)) else ([], 2)) := rfl
end Go.Proofs.YtdmonfimdinkeaaGreatDoor.EntY

namespace Go.Proofs.YtdmonfimdinkeaaGreatDoor.EntV
open Go Go.RowKit Go.Shelf Go.Proofs.YtdmonfimdinkeaaGreatDoor Go.Proofs.YtdmonfimdinkeaaGreatDoor.OctetS Go.Proofs.YtdmonfimdinkeaaGreatDoor.IdentS Go.Proofs.YtdmonfimdinkeaaGreatDoor.EntS Go.Proofs.YtdmonfimdinkeaaGreatDoor.OctP Go.Proofs.YtdmonfimdinkeaaGreatDoor.OctG Go.Proofs.YtdmonfimdinkeaaGreatDoor.IdentP Go.Proofs.YtdmonfimdinkeaaGreatDoor.EntP Go.Proofs.YtdmonfimdinkeaaGreatDoor.EventC Go.Proofs.YtdmonfimdinkeaaGreatDoor.EventP Go.Proofs.YtdmonfimdinkeaaGreatDoor.Steps
set_option linter.unusedVariables false
set_option linter.unusedSimpArgs false

end Go.Proofs.YtdmonfimdinkeaaGreatDoor.EntV

namespace Go.Proofs.YtdmonfimdinkeaaGreatDoor.EntW
open Go Go.RowKit Go.Shelf Go.Proofs.YtdmonfimdinkeaaGreatDoor Go.Proofs.YtdmonfimdinkeaaGreatDoor.OctetS Go.Proofs.YtdmonfimdinkeaaGreatDoor.IdentS Go.Proofs.YtdmonfimdinkeaaGreatDoor.EntS Go.Proofs.YtdmonfimdinkeaaGreatDoor.OctP Go.Proofs.YtdmonfimdinkeaaGreatDoor.OctG Go.Proofs.YtdmonfimdinkeaaGreatDoor.IdentP Go.Proofs.YtdmonfimdinkeaaGreatDoor.EntP Go.Proofs.YtdmonfimdinkeaaGreatDoor.EventC Go.Proofs.YtdmonfimdinkeaaGreatDoor.EventP Go.Proofs.YtdmonfimdinkeaaGreatDoor.ShaA Go.Proofs.YtdmonfimdinkeaaGreatDoor.Steps Go.Proofs.YtdmonfimdinkeaaGreatDoor.KeyA Go.Proofs.YtdmonfimdinkeaaGreatDoor.KeyS Go.Proofs.YtdmonfimdinkeaaGreatDoor.KeyK Go.Proofs.YtdmonfimdinkeaaGreatDoor.TreeA
set_option linter.unusedVariables false
set_option linter.unusedSimpArgs false

theorem grownBy_setRow (w : World) (g : Nat) (cs : Array Value) : w.grownBy (w.setRow g cs) (some g) :=
  ⟨rfl, rfl, rfl, by simp [World.setRow], fun k _ hk => setRow_other w g k cs (fun e => hk (by rw [e]))⟩
theorem entA_set36 (r : ByteArray) (ep ix : Int) (pv : List UInt8) (e s t : ByteArray) (hp : pv.length = 32) : (entA r ep ix pv e s).setIfInBounds 36 (.string t) = entA r ep ix pv e t := by
  have hl : ([.string r, .int .i64 ep, .int .i64 ix] ++ byV pv ++ [.string e] : List Value).length = 36 := by simp [byV_length, hp]
  have h1 : ∀ u : ByteArray, entA r ep ix pv e u = (([.string r, .int .i64 ep, .int .i64 ix] ++ byV pv ++ [.string e]) ++ [.string u] : List Value).toArray := fun u => by unfold entA; simp
  rw [h1 s, h1 t]
  generalize ([.string r, .int .i64 ep, .int .i64 ix] ++ byV pv ++ [.string e] : List Value) = L at hl ⊢
  simp only [List.setIfInBounds_toArray]
  congr 1
  rw [← hl, List.set_append_right _ _ (Nat.le_refl _), Nat.sub_self]
  rfl

end Go.Proofs.YtdmonfimdinkeaaGreatDoor.EntW

namespace Go.Proofs.YtdmonfimdinkeaaGreatDoor.EqEnt
open Go Go.RowKit Go.Proofs.YtdmonfimdinkeaaGreatDoor Go.Proofs.YtdmonfimdinkeaaGreatDoor.ShaB Go.Proofs.YtdmonfimdinkeaaGreatDoor.EqHash Go.Proofs.YtdmonfimdinkeaaGreatDoor.EntP Go.Proofs.YtdmonfimdinkeaaGreatDoor.OctP
set_option linter.unusedVariables false
set_option linter.unusedSimpArgs false

theorem eqHashD (d : Nat) (a b : List UInt8) (w : World) : (Op.equalIn (d + 2) 23 (.agg (pB 32 a)) (.agg (pB 32 b))).run Tryz.prog w = .ok (hEq a b) w := by
  have hu : Tryz.prog.underlying 23 = some (.array 32 5) := by kernel_rfl
  have hc : Tryz.prog.cellsOf 5 = 1 := by kernel_rfl
  have hi : ∃ i, Tryz.prog.info? 5 = some i := info_of_underlying (show Tryz.prog.underlying 5 = some (.int .u8) by kernel_rfl)
  obtain ⟨i, hi⟩ := hi
  rw [show d + 2 = (d + 1) + 1 from rfl, run_equalIn_array w (d + 1) _ _ hu hi, hc]
  exact items w d a b (List.range 32) (fun i hi => by simpa using hi)
theorem pB_of {l : List UInt8} (h : l.length = 32) : (byV l).toArray = pB 32 l := by
  unfold pB
  simp [h]
theorem part_hash (w : World) (xs : Array Value) (off : Nat) : (part 23 xs off).run Tryz.prog w = .ok (.agg (xs.extract off (off + 32))) w := by
  have hu : Tryz.prog.underlying 23 = some (.array 32 5) := by kernel_rfl
  obtain ⟨i, hi⟩ := info_of_underlying (P := Tryz.prog) hu
  have hc : Tryz.prog.cellsOf 23 = 32 := by kernel_rfl
  have hs := run_sizeOf w hi
  rw [hc] at hs
  simp [part, isAgg, run_underlying hu, Sem.run_bind, hs]
theorem ext_prev (r : ByteArray) (ep ix : Int) (pv : List UInt8) (e s : ByteArray) (hp : pv.length = 32) : (entA r ep ix pv e s).extract 3 35 = pB 32 pv := by
  rw [← pB_of hp]
  unfold entA
  have h1 : (byV pv).length = 32 := by rw [byV_length, hp]
  rw [List.extract_toArray]
  congr 1
  rw [List.extract_eq_take_drop]
  simp [h1]
theorem eqF_cons {P : Program} {w : World} {d : Nat} {xs ys : Array Value} {f : Field} {fs : List Field} {x y : Value} {r s : Bool} (hn : f.name ≠ "_") (h1 : (part f.type xs f.offset).run P w = .ok x w) (h2 : (part f.type ys f.offset).run P w = .ok y w)
    (h3 : (Op.equalIn d f.type x y).run P w = .ok r w) (h4 : (Op.eqFields d xs ys fs).run P w = .ok s w) : (Op.eqFields d xs ys (f :: fs)).run P w = .ok (r && s) w := by
  unfold Op.eqFields
  rw [if_pos hn]
  simp only [Sem.run_bind, h1, h2, h3, Result.andThen_ok]
  cases r
  · simp
  · simpa using h4
theorem eqF_nil {P : Program} {w : World} {d : Nat} {xs ys : Array Value} : (Op.eqFields d xs ys []).run P w = .ok true w := by simp [Op.eqFields]
set_option maxHeartbeats 1000000 in
theorem fieldsEnt (d : Nat) (r1 r2 e1 e2 s1 s2 : ByteArray) (a1 a2 b1 b2 : Int) (p1 p2 : List UInt8) (h1 : p1.length = 32) (h2 : p2.length = 32) (w : World) :
    (Op.eqFields (d + 2) (entA r1 a1 b1 p1 e1 s1) (entA r2 a2 b2 p2 e2 s2) [⟨"Room", 9, 0, false, "", "", 0⟩, ⟨"Epoch", 3, 1, false, "", "", 16⟩, ⟨"Index", 3, 2, false, "", "", 24⟩, ⟨"Prev", 23, 3, false, "", "", 32⟩, ⟨"Event", 9, 35, false, "", "", 64⟩, ⟨"Sig", 9, 36, false, "", "", 80⟩]).run Tryz.prog w =
    .ok (r1.toList == r2.toList && (a1 == a2 && (b1 == b2 && (hEq p1 p2 && (e1.toList == e2.toList && s1.toList == s2.toList))))) w := by
  have u3 : Tryz.prog.underlying 3 = some (.int .i64) := by kernel_rfl
  have u9 : Tryz.prog.underlying 9 = some .string := by kernel_rfl
  have k3 : Tryz.prog.plainKey 3 = true := by kernel_rfl
  have k9 : Tryz.prog.plainKey 9 = true := by kernel_rfl
  have E1 : EntP (entA r1 a1 b1 p1 e1 s1) r1 a1 b1 p1 e1 s1 := ⟨rfl, h1⟩
  have E2 : EntP (entA r2 a2 b2 p2 e2 s2) r2 a2 b2 p2 e2 s2 := ⟨rfl, h2⟩
  have x1 := ext_prev r1 a1 b1 p1 e1 s1 h1
  have x2 := ext_prev r2 a2 b2 p2 e2 s2 h2
  obtain ⟨A, hA⟩ : ∃ A, A = entA r1 a1 b1 p1 e1 s1 := ⟨_, rfl⟩
  obtain ⟨B, hB⟩ : ∃ B, B = entA r2 a2 b2 p2 e2 s2 := ⟨_, rfl⟩
  rw [← hA] at E1 x1 ⊢
  rw [← hB] at E2 x2 ⊢
  have q0 := run_part_plain w k9 (off := 0) E1.c0
  have q0' := run_part_plain w k9 (off := 0) E2.c0
  have q1 := run_part_plain w k3 (off := 1) E1.c1
  have q1' := run_part_plain w k3 (off := 1) E2.c1
  have q2 := run_part_plain w k3 (off := 2) E1.c2
  have q2' := run_part_plain w k3 (off := 2) E2.c2
  have q3 := part_hash w A 3
  have q3' := part_hash w B 3
  have q4 := run_part_plain w k9 (off := 35) E1.c35
  have q4' := run_part_plain w k9 (off := 35) E2.c35
  have q5 := run_part_plain w k9 (off := 36) E1.c36
  have q5' := run_part_plain w k9 (off := 36) E2.c36
  rw [x1] at q3
  rw [x2] at q3'
  have z0 := run_equalIn_string (P := Tryz.prog) w (d + 1) 9 r1 r2 u9
  have z1 := run_equalIn_int (P := Tryz.prog) w (d + 1) 3 .i64 .i64 a1 a2 u3
  have z2 := run_equalIn_int (P := Tryz.prog) w (d + 1) 3 .i64 .i64 b1 b2 u3
  have z3 := eqHashD d p1 p2 w
  have z4 := run_equalIn_string (P := Tryz.prog) w (d + 1) 9 e1 e2 u9
  have z5 := run_equalIn_string (P := Tryz.prog) w (d + 1) 9 s1 s2 u9
  have h := eqF_cons (f := ⟨"Room", 9, 0, false, "", "", 0⟩) (by decide) q0 q0' z0 (eqF_cons (f := ⟨"Epoch", 3, 1, false, "", "", 16⟩) (by decide) q1 q1' z1 (eqF_cons (f := ⟨"Index", 3, 2, false, "", "", 24⟩) (by decide) q2 q2' z2
    (eqF_cons (f := ⟨"Prev", 23, 3, false, "", "", 32⟩) (by decide) q3 q3' z3 (eqF_cons (f := ⟨"Event", 9, 35, false, "", "", 64⟩) (by decide) q4 q4' z4 (eqF_cons (f := ⟨"Sig", 9, 36, false, "", "", 80⟩) (by decide) q5 q5' z5 eqF_nil)))))
  rw [Bool.and_true] at h
  exact h
theorem eqEnt (r1 r2 e1 e2 s1 s2 : ByteArray) (a1 a2 b1 b2 : Int) (p1 p2 : List UInt8) (h1 : p1.length = 32) (h2 : p2.length = 32) (w : World) : (Op.equalIn 10000 27 (.agg (entA r1 a1 b1 p1 e1 s1)) (.agg (entA r2 a2 b2 p2 e2 s2))).run Tryz.prog w =
    .ok (r1.toList == r2.toList && (a1 == a2 && (b1 == b2 && (hEq p1 p2 && (e1.toList == e2.toList && s1.toList == s2.toList))))) w := by
  have hS : Tryz.prog.underlying 27 = some (.struct (Tryz.prog.fieldsOf 27)) := by kernel_rfl
  have hF : (Tryz.prog.fieldsOf 27).toList = [⟨"Room", 9, 0, false, "", "", 0⟩, ⟨"Epoch", 3, 1, false, "", "", 16⟩, ⟨"Index", 3, 2, false, "", "", 24⟩, ⟨"Prev", 23, 3, false, "", "", 32⟩, ⟨"Event", 9, 35, false, "", "", 64⟩, ⟨"Sig", 9, 36, false, "", "", 80⟩] := by kernel_rfl
  have hp : Tryz.prog.stoodInHeld 27 = false := by kernel_rfl
  have h := fieldsEnt 9997 r1 r2 e1 e2 s1 s2 a1 a2 b1 b2 p1 p2 h1 h2 w
  rw [← hF] at h
  rw [show (10000 : Nat) = 9999 + 1 from rfl, run_equalIn_agg w 9999 27 _ _ hS hp]
  exact h
theorem guardEnt : Go.Program.eqGuardType Tryz.prog Tryz.prog.depth 27 = false := by kernel_rfl
end Go.Proofs.YtdmonfimdinkeaaGreatDoor.EqEnt

namespace Go.Proofs.YtdmonfimdinkeaaGreatDoor.EntK
open Go.Proofs.YtdmonfimdinkeaaGreatDoor.OctetS Go.Proofs.YtdmonfimdinkeaaGreatDoor.IdentS Go.Proofs.YtdmonfimdinkeaaGreatDoor.EntS Go.Proofs.YtdmonfimdinkeaaGreatDoor.EntB Go.Proofs.YtdmonfimdinkeaaGreatDoor.KeyS Go.Proofs.YtdmonfimdinkeaaGreatDoor.KeyN Go.Proofs.YtdmonfimdinkeaaGreatDoor.NSha
set_option linter.unusedVariables false
set_option maxRecDepth 100000

def z32 : List UInt8 := List.replicate 32 0
theorem z32_len : z32.length = 32 := rfl
def rm : List UInt8 := [33, 104, 97, 108, 108, 58, 48]
def ent (ix : Nat) (s : List UInt8) : Ent := ⟨rm, 1, (ix : Int), z32, [120], s⟩
def T5 : List UInt8 := [6, 5, 101, 110, 116, 114, 121, 7, 33, 104, 97, 108, 108, 58, 48, 1, 1, 1, 5, 32, 0, 0, 0, 0, 0, 0, 0, 0, 0, 0, 0, 0, 0, 0, 0, 0, 0, 0, 0, 0, 0, 0, 0, 0, 0, 0, 0, 0, 0, 0, 0, 0, 1, 120]
def T6 : List UInt8 := [6, 5, 101, 110, 116, 114, 121, 7, 33, 104, 97, 108, 108, 58, 48, 1, 1, 1, 6, 32, 0, 0, 0, 0, 0, 0, 0, 0, 0, 0, 0, 0, 0, 0, 0, 0, 0, 0, 0, 0, 0, 0, 0, 0, 0, 0, 0, 0, 0, 0, 0, 0, 1, 120]
def G : List UInt8 := sigOf [115] 1 0 T5
theorem G_len : G.length = 1121 := by
  unfold G
  rw [sigOf_length (by decide)]
theorem G_head : (G.headD 0).toNat = 0 := by
  unfold G
  exact sigOf_head (by decide) (by decide) _ _
theorem room0 : roomB rm = true := by decide +kernel
theorem right {ix : Nat} (hi : ix ≤ 4096) {s : List UInt8} (hs : s.length ≤ 8192) : Right (ent ix s) := ⟨room0, by show (0 : Int) ≤ 1; omega, by show (1 : Int) ≤ 4096; omega, by show (0 : Int) ≤ ix; omega, by show (ix : Int) ≤ 4096; omega, by show 1 ≤ 8192; omega, hs⟩
theorem lt5 : OctetS.list [EntS.mark, rm, num 1, num 5, z32, [120]] = T5 := by decide +kernel
theorem lt6 : OctetS.list [EntS.mark, rm, num 1, num 6, z32, [120]] = T6 := by decide +kernel
theorem text5 (s : List UInt8) : EntS.text (ent 5 s) = T5 := by
  rw [← lt5]
  rfl
theorem text6 (s : List UInt8) : EntS.text (ent 6 s) = T6 := by
  rw [← lt6]
  rfl
theorem T5_len : T5.length ≤ 8192 := by decide +kernel
theorem check5 {s : List UInt8} (hs : s.length ≤ 8192) : checkB (ent 5 s) = true := check_iff.2 (right (by omega) hs)
theorem check6 {s : List UInt8} (hs : s.length ≤ 8192) : checkB (ent 6 s) = true := check_iff.2 (right (by omega) hs)
theorem check0 : checkB ⟨[], 0, 0, z32, [], []⟩ = false := by decide +kernel
theorem read5 : WireS.read T5 = some (ent 5 []) := by
  have h := read_text (right (ix := 5) (by omega) (s := []) (by simp)) z32_len
  rw [text5] at h
  exact h
theorem bytes5 : bytesE (ent 5 G) = OctetS.list [T5, G] := by
  unfold bytesE
  rw [text5]
  rfl
theorem parse5 : WireS.parse (OctetS.list [T5, G]) = some (ent 5 G) := by
  have h := parse_bytes (right (ix := 5) (by omega) (s := G) (by rw [G_len]; omega)) z32_len (by rw [text5]; exact T5_len)
  rw [bytes5] at h
  exact h
theorem fits5 : fits [T5, G] = true := by
  have h := bytes_fits (right (ix := 5) (by omega) (s := G) (by rw [G_len]; omega)) (by rw [text5]; exact T5_len)
  rw [text5] at h
  exact h
theorem parse_more {l : List (List UInt8)} (h : fits l = true) (x : UInt8) : WireS.parse (OctetS.list l ++ [x]) = none := by
  have h1 := getList_list h [x]
  have h2 : (all (OctetS.list l ++ [x])).2 = 6 := by
    unfold all
    rw [h1]
    simp
  unfold WireS.parse
  rw [h2]
  simp
theorem climb5 : climbOf 1 T5 G = rootOf [115] 1 := by
  have h := verify_sig (h := 1) (i := 0) (by decide) (by decide) [115] T5
  unfold verify at h
  by_cases hb : sigB 1 (sigOf [115] 1 0 T5) = true
  · rw [if_pos hb] at h
    by_cases hc : climbOf 1 T5 (sigOf [115] 1 0 T5) = rootOf [115] 1
    · exact hc
    · rw [if_neg hc] at h
      cases h
  · rw [if_neg hb] at h
    cases h
theorem climb6 : climbOf 1 T6 G ≠ rootOf [115] 1 := other_no (t := [6, 5, 101, 110, 116, 114, 121, 7, 33, 104, 97, 108, 108, 58, 48, 1, 1, 1, 5, 32, 0, 0, 0, 0, 0, 0, 0, 0, 0, 0, 0, 0, 0, 0, 0, 0, 0, 0, 0, 0, 0, 0, 0, 0, 0, 0, 0, 0, 0, 0, 0, 0, 1, 120]) (o := [6, 5, 101, 110, 116, 114, 121, 7, 33, 104, 97, 108, 108, 58, 48, 1, 1, 1, 6, 32, 0, 0, 0, 0, 0, 0, 0, 0, 0, 0, 0, 0, 0, 0, 0, 0, 0, 0, 0, 0, 0, 0, 0, 0, 0, 0, 0, 0, 0, 0, 0, 0, 1, 120]) (r := [242, 124, 105, 156, 171, 149, 251, 141, 237, 14, 184, 168, 224, 205, 36, 153, 117, 124, 137, 154, 46, 165, 71, 57, 154, 109, 77, 238, 72, 219, 231, 65]) (b := [7, 40, 155, 86, 173, 193, 102, 95, 90, 175, 50, 109, 158, 101, 38, 185, 236, 96, 157, 32, 168, 40, 43, 186, 18, 179, 78, 212, 101, 177, 36, 201]) (by decide +kernel) (by decide +kernel) (by decide +kernel) (by decide +kernel) (by decide)

end Go.Proofs.YtdmonfimdinkeaaGreatDoor.EntK

namespace Go.Proofs.YtdmonfimdinkeaaGreatDoor.EntL
open Go Go.RowKit Go.Shelf Go.Proofs.YtdmonfimdinkeaaGreatDoor Go.Proofs.YtdmonfimdinkeaaGreatDoor.OctetS Go.Proofs.YtdmonfimdinkeaaGreatDoor.IdentS Go.Proofs.YtdmonfimdinkeaaGreatDoor.EntS Go.Proofs.YtdmonfimdinkeaaGreatDoor.OctG Go.Proofs.YtdmonfimdinkeaaGreatDoor.IdentP Go.Proofs.YtdmonfimdinkeaaGreatDoor.EntP Go.Proofs.YtdmonfimdinkeaaGreatDoor.EventC Go.Proofs.YtdmonfimdinkeaaGreatDoor.ShaA Go.Proofs.YtdmonfimdinkeaaGreatDoor.Steps Go.Proofs.YtdmonfimdinkeaaGreatDoor.KeyA Go.Proofs.YtdmonfimdinkeaaGreatDoor.KeyS Go.Proofs.YtdmonfimdinkeaaGreatDoor.KeyI Go.Proofs.YtdmonfimdinkeaaGreatDoor.KeyK Go.Proofs.YtdmonfimdinkeaaGreatDoor.TreeA Go.Proofs.YtdmonfimdinkeaaGreatDoor.EntK Go.Proofs.YtdmonfimdinkeaaGreatDoor.EntB Go.Proofs.YtdmonfimdinkeaaGreatDoor.BookA
set_option linter.unusedVariables false
set_option linter.unusedSimpArgs false

def rB : ByteArray := bsOf rm
def xB : ByteArray := bsOf [120]
def nB : ByteArray := bsOf []
def gB : ByteArray := bsOf G
def sS : ByteArray := ⟨#[115]⟩
theorem sS_bl : bl sS = [115] := rfl
theorem rB_z : rB.size ≤ 140737488351232 := by decide +kernel
theorem xB_z : xB.size ≤ maxLen := by decide +kernel
theorem nB_z : nB.size ≤ maxLen := by decide +kernel
theorem gB_size : gB.size = 1121 := by
  unfold gB
  rw [size_bsOf, G_len]
theorem gB_z : gB.size ≤ maxLen := by
  rw [gB_size]
  unfold maxLen
  omega
theorem of_ent (ix : Nat) (s : List UInt8) : entOf rB 1 (ix : Int) z32 xB (bsOf s) = ent ix s := by
  unfold entOf rB xB ent
  rw [bl_bsOf, bl_bsOf, bl_bsOf]
theorem nB_of : nB = bsOf [] := rfl
def eA (ix : Nat) (s : ByteArray) : Array Value := entA rB 1 (ix : Int) z32 xB s
theorem eP (ix : Nat) (s : ByteArray) : EntP (eA ix s) rB 1 (ix : Int) z32 xB s := ⟨rfl, z32_len⟩
theorem G_le : G.length ≤ 8192 := by
  rw [G_len]
  omega
theorem check_n : EntS.checkB (entOf rB 1 ((5 : Nat) : Int) z32 xB nB) = true := by
  rw [nB_of, of_ent]
  exact check5 (by simp)
theorem check_5 : EntS.checkB (entOf rB 1 ((5 : Nat) : Int) z32 xB gB) = true := by
  unfold gB
  rw [of_ent]
  exact check5 G_le
theorem check_6 : EntS.checkB (entOf rB 1 ((6 : Nat) : Int) z32 xB gB) = true := by
  unfold gB
  rw [of_ent]
  exact check6 G_le
theorem text_n : EntS.text (entOf rB 1 ((5 : Nat) : Int) z32 xB nB) = T5 := by
  rw [nB_of, of_ent]
  exact text5 _
theorem text_5 : EntS.text (entOf rB 1 ((5 : Nat) : Int) z32 xB gB) = T5 := by
  unfold gB
  rw [of_ent]
  exact text5 _
theorem text_6 : EntS.text (entOf rB 1 ((6 : Nat) : Int) z32 xB gB) = T6 := by
  unfold gB
  rw [of_ent]
  exact text6 _
def sB : ByteArray := bsOf (OctetS.list [T5, G])
def tB : ByteArray := bsOf T5
theorem list_len2 : (OctetS.list [T5, G]).length ≤ 20000 := by
  have h := EntX.flat_len [T5, G] (fun t ht => by
    simp only [List.mem_cons, List.not_mem_nil, or_false] at ht
    rcases ht with rfl | rfl
    · exact T5_len
    · exact G_le)
  have h5 := OctetS.num_length2 (n := 2) (by omega)
  have h2 : ([T5, G].flatMap OctetS.text).length ≤ 8194 * 2 := h
  show (OctetS.num 2 ++ [T5, G].flatMap OctetS.text).length ≤ 20000
  rw [List.length_append]
  omega
theorem sB_size : sB.size ≤ 20000 := by
  unfold sB
  rw [size_bsOf]
  exact list_len2

theorem Make_s (w : World) (hk : VarsH w) : Calls Tryz.prog 35 #[.agg #[.string ⟨#[115]⟩, .int .i64 1, .int .i64 0]] w fun e w' => ∃ R v, e = .returned (.tuple #[.pointer (some ⟨R, 0, none⟩), .int .i64 0]) ∧ RingAt w w' R sS 1 0 v ∧ Below w.heap.size w w' :=
  Make_yes w sS 1 0 (by decide) (by decide) (by decide) (by decide) hk
theorem Text_s (w : World) (hv : VarsI w) : Calls Tryz.prog 33 #[.agg (eA 5 gB)] w (RB (.tuple #[.string tB, .int .i64 0]) w) := by
  have h := Text_ok w (eA 5 gB) rB 1 ((5 : Nat) : Int) z32 xB gB (eP 5 gB) hv rB_z xB_z gB_z
  unfold EntS.textOf at h
  rw [check_5, if_pos rfl, text_5] at h
  exact h
theorem Read_s (w : World) (hv : VarsI w) : Calls Tryz.prog 34 #[.string tB] w (RB (.tuple #[.agg (eA 5 nB), .int .i64 0]) w) := by
  have h := WireB.Read_ok w tB (by unfold tB; rw [size_bsOf]; have := T5_len; omega) hv
  have hp : WireS.read (bl tB) = some (ent 5 []) := by
    unfold tB
    rw [bl_bsOf]
    exact read5
  rw [hp] at h
  exact h
theorem bl_snoc (s : ByteArray) : bl (s ++ ⟨#[33]⟩) = bl s ++ [33] := by simp [bl]
theorem size_snoc (s : ByteArray) : (s ++ ⟨#[33]⟩ : ByteArray).size = s.size + 1 := by
  rw [ByteArray.size_append]
  rfl
theorem small_snoc (s : ByteArray) (h : s.size ≤ 20000) : (s ++ ⟨#[33]⟩ : ByteArray).size ≤ 140737488351232 := by
  rw [size_snoc]
  omega
theorem Check_s (w : World) (hv : VarsI w) : Calls Tryz.prog 59 #[.agg WireT.entZ] w (RB (.int .i64 2) w) := by
  have h := Check_ok w WireT.entZ ⟨#[]⟩ 0 0 WireT.zero32 ⟨#[]⟩ ⟨#[]⟩ ⟨rfl, rfl⟩ hv (by decide) (by decide +kernel) (by decide +kernel)
  have hc : EntS.checkB (entOf ⟨#[]⟩ 0 0 WireT.zero32 ⟨#[]⟩ ⟨#[]⟩) = false := by decide +kernel
  rw [hc] at h
  exact h

/-- The grant. -/
def gr : Gr' := ⟨2, 0, 9, 1, rootK [115] 1⟩
theorem gr_right : gr.Right := ⟨by decide, by decide, by decide, by decide, by decide, by decide, by decide⟩
theorem found_yes (ix : Int) (h0 : 0 ≤ ix) (h9 : ix ≤ 9) : foundB gr 2 ix = true := by
  unfold foundB gr
  simp [h0, h9]
theorem found_no (ix : Int) : foundB gr 1 ix = false := by
  unfold foundB gr
  simp
theorem eq_self (w : World) : (Op.equalIn 10000 27 (.agg (eA 5 nB)) (.agg (eA 5 nB))).run Tryz.prog w = .ok true w := by
  unfold eA
  rw [EqEnt.eqEnt _ _ _ _ _ _ _ _ _ _ _ _ z32_len z32_len, EqHash.hEq_self]
  simp
/-- The root's cells. -/
theorem byV_bN (l : List UInt8) : byV l = (NSha.bN l).map fun n => .int .u8 (n : Int) := by
  unfold byV NSha.bN
  rw [List.map_map]
  rfl
def rootL : Array Value := ([1, 182, 6, 211, 135, 147, 53, 5, 245, 241, 205, 252, 197, 223, 231, 32, 130, 117, 182, 46, 173, 16, 191, 101, 209, 159, 7, 102, 245, 140, 192, 251].map fun n : Nat => Value.int .u8 (n : Int)).toArray
theorem root_A : (rootK [115] 1).A = rootL := by
  unfold H32.A rootL
  rw [rootK_l, byV_bN, KeyN.root_s]

end Go.Proofs.YtdmonfimdinkeaaGreatDoor.EntL

namespace Go.Proofs.YtdmonfimdinkeaaGreatDoor.EntQ
open Go Go.RowKit Go.Shelf Go.Proofs.YtdmonfimdinkeaaGreatDoor Go.Proofs.YtdmonfimdinkeaaGreatDoor.OctetS Go.Proofs.YtdmonfimdinkeaaGreatDoor.IdentS Go.Proofs.YtdmonfimdinkeaaGreatDoor.EntS Go.Proofs.YtdmonfimdinkeaaGreatDoor.OctG Go.Proofs.YtdmonfimdinkeaaGreatDoor.IdentP Go.Proofs.YtdmonfimdinkeaaGreatDoor.EntP Go.Proofs.YtdmonfimdinkeaaGreatDoor.EventC Go.Proofs.YtdmonfimdinkeaaGreatDoor.ShaA Go.Proofs.YtdmonfimdinkeaaGreatDoor.Steps Go.Proofs.YtdmonfimdinkeaaGreatDoor.KeyA Go.Proofs.YtdmonfimdinkeaaGreatDoor.KeyS Go.Proofs.YtdmonfimdinkeaaGreatDoor.KeyI Go.Proofs.YtdmonfimdinkeaaGreatDoor.KeyK Go.Proofs.YtdmonfimdinkeaaGreatDoor.TreeA Go.Proofs.YtdmonfimdinkeaaGreatDoor.EntK Go.Proofs.YtdmonfimdinkeaaGreatDoor.EntB Go.Proofs.YtdmonfimdinkeaaGreatDoor.BookA Go.Proofs.YtdmonfimdinkeaaGreatDoor.EntL Go.Proofs.YtdmonfimdinkeaaGreatDoor.KeyG
set_option linter.unusedVariables false
set_option linter.unusedSimpArgs false
attribute [-go_sem] run_equalIn_agg

theorem wpList_buildC {P : Program} {ops : Array Oper} {rest : List Oper} {o : Oper} {a : Act} {w : World} {Q : Exit → Act → World → Prop} (hg : o.guard = none) (t : TypeId) (parts : Array (Nat × Operand)) (ho : o.op = .build t parts) (cells : Array Value)
    (hb : P.built t (parts.map fun (i, x) => (i, a.eval x)).toList = some cells) (h : wpList P ops Q rest (a.put o.dst (.agg cells)) w) : wpList P ops Q (o :: rest) a w :=
  wpList_build hg t parts ho (by rw [hb]; rfl) (by rw [hb]; exact h)
theorem fold_any (Z C : Array Value) (n : Nat) (hZ : Z.size = n) (hC : C.size = n) : Array.foldl (fun (cs : Array Value) x => cs.setIfInBounds x.snd x.fst) Z C.zipIdx 0 n = C := by
  have h1 : C.zipIdx.size = n := by simp [hC]
  rw [← h1, ← Array.foldl_toList, Array.toList_zipIdx, fold_set C.toList 0 _ (by simp [hC, hZ])]
  simp
theorem sl_one {w : World} {b n : Nat} {cs : Array Value} {t : TypeId} {fr : Nat × Nat} (h : w.heap[b]? = some (.cells cs t fr)) (hn : cs.size = n) : Sl w (.slice (some ⟨b, 0, none⟩) 1 1) n 1 cs.toList :=
  ⟨by rw [Array.length_toList, hn, Nat.one_mul], .inr ⟨⟨b, 0, none⟩, 1, rfl, Nat.le_refl _, by unfold maxLen; omega, fun j u hu => by
    rw [Addr.add_mid, Nat.zero_add, cell_row h, ← hu]
    simp⟩⟩
theorem ring_below {w0 w w' : World} {R : Nat} {s : ByteArray} {h nx : Nat} {v : Value} (hr : RingAt w0 w R s h nx v) (hb : Below w.heap.size w w') : RingAt w0 w' R s h nx v :=
  ⟨(hb.block _ (lt_row hr.row)).trans hr.row, hr.lv.ext (Ext.ofB hb) (fun _ _ h => h), hr.ge, hr.sep⟩

end Go.Proofs.YtdmonfimdinkeaaGreatDoor.EntQ
