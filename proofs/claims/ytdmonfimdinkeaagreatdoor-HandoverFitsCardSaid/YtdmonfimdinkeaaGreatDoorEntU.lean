/-
  WHAT IS PROVED: entries' sums, bytes, signatures, and the statements' own check of them. Condition: what each theorem names.
-/
import Derived.Test.YtdmonfimdinkeaaGreatDoorBook
import Derived.Test.YtdmonfimdinkeaaGreatDoorKeyN
namespace Go.Proofs.YtdmonfimdinkeaaGreatDoor.EntX
open Go Go.RowKit Go.Shelf Go.Proofs.YtdmonfimdinkeaaGreatDoor Go.Proofs.YtdmonfimdinkeaaGreatDoor.OctetS Go.Proofs.YtdmonfimdinkeaaGreatDoor.IdentS Go.Proofs.YtdmonfimdinkeaaGreatDoor.EntS Go.Proofs.YtdmonfimdinkeaaGreatDoor.OctP Go.Proofs.YtdmonfimdinkeaaGreatDoor.OctG Go.Proofs.YtdmonfimdinkeaaGreatDoor.IdentP Go.Proofs.YtdmonfimdinkeaaGreatDoor.EntP Go.Proofs.YtdmonfimdinkeaaGreatDoor.EventC Go.Proofs.YtdmonfimdinkeaaGreatDoor.EventP Go.Proofs.YtdmonfimdinkeaaGreatDoor.ShaA Go.Proofs.YtdmonfimdinkeaaGreatDoor.Steps Go.Proofs.YtdmonfimdinkeaaGreatDoor.KeyA Go.Proofs.YtdmonfimdinkeaaGreatDoor.TreeA
set_option linter.unusedVariables false
set_option linter.unusedSimpArgs false

theorem text_len {t : List UInt8} (h : t.length ≤ 8192) : (OctetS.text t).length ≤ 8194 := by
  unfold OctetS.text
  have := OctetS.num_length2 h
  rw [List.length_append]
  omega
theorem flat_len : ∀ (l : List (List UInt8)), (∀ t ∈ l, t.length ≤ 8192) → (l.flatMap OctetS.text).length ≤ 8194 * l.length
  | [], _ => by simp
  | t :: r, h => by
    have h1 := text_len (h t (by simp))
    have h2 := flat_len r (fun x hx => h x (by simp [hx]))
    simp only [List.flatMap_cons, List.length_append, List.length_cons]
    omega
theorem ent_len {e : Ent} (h : Right e) (hp : e.prev.length = 32) : (EntS.text e).length ≤ 100000 := by
  obtain ⟨h1, h2⟩ := fits_iff.1 (h.fits hp)
  have h3 := flat_len _ h2
  have h4 : (EntS.parts e).length = 6 := rfl
  have h5 := OctetS.num_length2 (n := 6) (by omega)
  unfold EntS.text OctetS.list
  rw [List.length_append, h4]
  rw [h4] at h3
  omega
def sumH (t : List UInt8) : H32 := KeyJ.mk32 (ShaS.sum t) (ShaS.sum_length t)
theorem sumH_A (t : List UInt8) : (sumH t).A = (byV (ShaS.sum t)).toArray := by
  unfold sumH
  exact KeyJ.mk32_A _ _
/-- An entry's sum, and why there is none. -/
def sumE (e : Ent) : H32 := if checkB e = true then sumH (EntS.text e) else zeroH

set_option maxRecDepth 100000 in
set_option maxHeartbeats 4000000 in
theorem Sum_ok (w : World) (p : Array Value) (r : ByteArray) (ep ix : Int) (pv : List UInt8) (e s : ByteArray) (hp : EntP p r ep ix pv e s) (hv : VarsI w) (hk : VarsH w) (hr : r.size ≤ 140737488351232) (he : e.size ≤ maxLen) (hs : s.size ≤ maxLen) :
    Calls Tryz.prog 36 #[.agg p] w (KeyA.RB (.tuple #[.agg (sumE (entOf r ep ix pv e s)).A, .int .i64 (whyOf (EntS.checkB (entOf r ep ix pv e s)))]) w) := by
  have hT := fun w hv => Text_ok w p r ep ix pv e s hp hv hr he hs
  unfold EntS.textOf at hT
  unfold sumE
  have hps := hp.size
  have hpi : (Tryz.prog.info? 27).map (·.size) = some 37 := by kernel_rfl
  rw [← hps] at hpi
  have HI := Lib.hid hpi
  obtain ⟨Z, hZ⟩ : ∃ Z, Z = zeroH.A := ⟨_, rfl⟩
  have HLIT : Hid ((#[.int .u8 0, .int .u8 0, .int .u8 0, .int .u8 0, .int .u8 0, .int .u8 0, .int .u8 0, .int .u8 0, .int .u8 0, .int .u8 0, .int .u8 0, .int .u8 0, .int .u8 0, .int .u8 0, .int .u8 0, .int .u8 0, .int .u8 0, .int .u8 0, .int .u8 0, .int .u8 0, .int .u8 0, .int .u8 0, .int .u8 0, .int .u8 0, .int .u8 0, .int .u8 0, .int .u8 0, .int .u8 0, .int .u8 0, .int .u8 0, .int .u8 0, .int .u8 0] : Array Value) = Z) := Lib.hid (by rw [hZ]; kernel_rfl)
  have HZN : Hid (Z.size = 32) := Lib.hid (by rw [hZ]; kernel_rfl)
  have HZS : Hid ((Tryz.prog.info? 23).map (·.size) = some Z.size) := Lib.hid (by rw [hZ]; exact H32.info _)
  have HZO : Hid (Z.all (·.oneCell') = true) := Lib.hid (by rw [hZ]; exact H32.one _)
  obtain ⟨w0, hw0⟩ : ∃ w0, w0 = (w.alloc (.cells p 27)).alloc (.cells Z 23) := ⟨_, rfl⟩
  have hb0 : Below w.heap.size w w0 := by rw [hw0]; exact ((Below.refl _ w).alloc (Nat.le_refl _) _).alloc (by simp) _
  have HX0 := Lib.hid (show w0.heap[w.heap.size]? = some (.cells p 27 (0, 0)) by rw [hw0]; exact heap_at (heap_new _ _) _)
  have HZ0 := Lib.hid (show w0.heap[w.heap.size + 1]? = some (.cells Z 23 (0, 0)) by rw [hw0]; exact heap_new' _ (by simp))
  have HBL0 := Lib.hid hb0
  have HW0 := Lib.hid hw0
  have HV0 := Lib.hid (hv.below hb0)
  have HK0 := Lib.hid (hk.below hb0)
  cases hchk : EntS.checkB (entOf r ep ix pv e s)
  · skip
    rw [hchk] at hT
    rw [if_neg (by simp), ← hZ]
    have HT := Lib.hid hT
    clear hT hchk hr he hs hp hb0 hv hk hw0 hZ hpi hps
    go_enter Tryz.func36, Tryz.ntmps36
    go_wp2_with (first | (rw [HLIT.out, ← HW0.out]; refine wpList_load_row rfl _ _ rfl w.heap.size rfl _ p (0, 0) _ HX0.out Tryz.underlying27 rfl HI.out ?_) | fail)
    refine (HT.out w0 HV0.out).mono ?_
    rintro e' w1 ⟨rfl, hb⟩
    have HBL1 := Lib.hid (HBL0.out.trans (hb.mono HBL0.out.size))
    have HZ1 := Lib.hid ((hb.block _ (lt_row HZ0.out)).trans HZ0.out)
    clear hb
    unfold whyOf
    go_wp2_with (first | (refine wpList_store_rowA rfl _ _ _ rfl (w.heap.size + 1) Z rfl (by rw [← HLIT.out]; rfl) _ _ HZ1.out HZS.out rfl HZO.out ?_) | fail)
    intro wf hwf
    go_wp2
    refine bodyPost_ret (v := .tuple #[.agg Z, .int .i64 2]) (WireT.results_cell_slot rfl _ _ (w.heap.size + 1) 23 Z (0, 0) _ rfl (by rw [hwf.out]; exact setRow_at HZ1.out) Tryz.underlying23 rfl HZS.out rfl) rfl ⟨rfl, by rw [hwf.out]; exact below_row HBL1.out (by omega) _⟩
  · skip
    rw [hchk] at hT
    rw [if_pos rfl] at hT ⊢
    have hR := EntS.check_iff.1 hchk
    have hlen := ent_len hR hp.len
    obtain ⟨t, ht⟩ : ∃ t, t = EntS.text (entOf r ep ix pv e s) := ⟨_, rfl⟩
    rw [← ht] at hT hlen ⊢
    obtain ⟨R, hRe⟩ : ∃ R, R = (sumH t).A := ⟨_, rfl⟩
    have HRS : Hid ((Tryz.prog.info? 23).map (·.size) = some R.size) := Lib.hid (by rw [hRe]; exact H32.info _)
    have HRN : Hid (Z.size = R.size) := Lib.hid (by rw [hRe, H32.size]; exact HZN.out)
    have HRO : Hid (R.all (·.oneCell') = true) := Lib.hid (by rw [hRe]; exact H32.one _)
    obtain ⟨Tb, hTb⟩ : ∃ Tb, Tb = bsOf t := ⟨_, rfl⟩
    rw [← hTb] at hT
    have hS := fun w hk => ShaM.Sum_ok w Tb (by rw [hTb, size_bsOf]; omega) hk
    have hRR : (byV (ShaS.sum (bl Tb))).toArray = R := by rw [hTb, bl_bsOf, hRe, sumH_A]
    rw [hRR] at hS
    rw [← hRe]
    have HT := Lib.hid hT
    have HS := Lib.hid hS
    clear hT hS hRR hRe hTb ht hlen hR hchk hr he hs hp hb0 hv hk hw0 hZ hpi hps
    go_enter Tryz.func36, Tryz.ntmps36
    go_wp2_with (first | (rw [HLIT.out, ← HW0.out]; refine wpList_load_row rfl _ _ rfl w.heap.size rfl _ p (0, 0) _ HX0.out Tryz.underlying27 rfl HI.out ?_) | fail)
    refine (HT.out w0 HV0.out).mono ?_
    rintro e' w1 ⟨rfl, hb⟩
    have HBL1 := Lib.hid (HBL0.out.trans (hb.mono HBL0.out.size))
    have HZ1 := Lib.hid ((hb.block _ (lt_row HZ0.out)).trans HZ0.out)
    have HK1 := Lib.hid (HK0.out.below hb)
    clear hb
    unfold whyOf
    go_wp2_with fail
    refine (HS.out w1 HK1.out).mono ?_
    rintro e' w2 ⟨rfl, hb⟩
    have HBL2 := Lib.hid (HBL1.out.trans (hb.mono HBL1.out.size))
    have HZ2 := Lib.hid ((hb.block _ (lt_row HZ1.out)).trans HZ1.out)
    clear hb
    go_wp2_with (first | (refine wpList_store_rowA rfl _ _ _ rfl (w.heap.size + 1) R rfl rfl _ _ HZ2.out HRS.out HRN.out HRO.out ?_) | fail)
    intro wf hwf
    go_wp2
    refine bodyPost_ret (v := .tuple #[.agg R, .int .i64 0]) (WireT.results_cell_slot rfl _ _ (w.heap.size + 1) 23 R (0, 0) _ rfl (by rw [hwf.out]; exact setRow_at HZ2.out) Tryz.underlying23 rfl HRS.out rfl) rfl ⟨rfl, by rw [hwf.out]; exact below_row HBL2.out (by omega) _⟩

end Go.Proofs.YtdmonfimdinkeaaGreatDoor.EntX

namespace Go.Proofs.YtdmonfimdinkeaaGreatDoor.EntY
open Go Go.RowKit Go.Shelf Go.Proofs.YtdmonfimdinkeaaGreatDoor Go.Proofs.YtdmonfimdinkeaaGreatDoor.OctetS Go.Proofs.YtdmonfimdinkeaaGreatDoor.IdentS Go.Proofs.YtdmonfimdinkeaaGreatDoor.EntS Go.Proofs.YtdmonfimdinkeaaGreatDoor.OctP Go.Proofs.YtdmonfimdinkeaaGreatDoor.OctQ Go.Proofs.YtdmonfimdinkeaaGreatDoor.OctG Go.Proofs.YtdmonfimdinkeaaGreatDoor.IdentP Go.Proofs.YtdmonfimdinkeaaGreatDoor.EntP Go.Proofs.YtdmonfimdinkeaaGreatDoor.EventC Go.Proofs.YtdmonfimdinkeaaGreatDoor.EventP Go.Proofs.YtdmonfimdinkeaaGreatDoor.ShaA Go.Proofs.YtdmonfimdinkeaaGreatDoor.Steps Go.Proofs.YtdmonfimdinkeaaGreatDoor.KeyA
set_option linter.unusedVariables false
set_option linter.unusedSimpArgs false

set_option maxRecDepth 100000 in
set_option maxHeartbeats 1000000 in
theorem List_long (w : World) (v : Value) (t : ByteArray) (r : List ByteArray) (h : Rd w v (t :: r)) (hr : r.length ≤ 100) (ht : 8192 < t.size) (ht2 : t.size ≤ 140737488351232) :
    Calls Tryz.prog 41 #[v] w (KeyA.RB (.tuple #[.string ⟨#[]⟩, .int .i64 7]) w) := by
  obtain ⟨a, cap, rfl, hcap, hm⟩ := h.form
  obtain ⟨b, off, rfl, hbl, hcell⟩ := h.plain (by rw [strV_length]; simp)
  have hc0 : w.cell? ⟨b, off + 0, none⟩ = some (.string t) := hcell 0 _ rfl
  rw [Nat.add_zero] at hc0
  obtain ⟨n, hn⟩ : ∃ n, n = (t :: r).length := ⟨_, rfl⟩
  have hn1 : 0 < n := by rw [hn]; simp
  have hn2 : n ≤ 256 := by rw [hn]; simp; omega
  rw [← hn]
  have Hc := Lib.hid hc0
  clear hcell hc0 h hn hcap hm
  go_enter Tryz.func41, Tryz.ntmps41
  go_wp2_with fail
  refine (put_ok w w.heap.size (.slice none 0 0) [] n (Ow.nil _ _ _ _) (by omega) (by simp) (Nat.le_refl _)).mono ?_
  rintro e w1 ⟨v1, rfl, hG⟩
  have hb := hG.ofNil
  have hc1 : w1.cell? ⟨b, off, none⟩ = some (.string t) := (hb.cell (p := ⟨b, off, none⟩) hbl).trans Hc.out
  have HB := Lib.hid hb
  clear hb hG
  go_wp2
  refine wp_loop_rounds 1 ?_
  rw [rounds_succ]
  go_wp2
  go_ret2
  exact ⟨rfl, HB.out⟩

end Go.Proofs.YtdmonfimdinkeaaGreatDoor.EntY


namespace Go.Proofs.YtdmonfimdinkeaaGreatDoor.EntW
open Go Go.RowKit Go.Shelf Go.Proofs.YtdmonfimdinkeaaGreatDoor Go.Proofs.YtdmonfimdinkeaaGreatDoor.OctetS Go.Proofs.YtdmonfimdinkeaaGreatDoor.IdentS Go.Proofs.YtdmonfimdinkeaaGreatDoor.EntS Go.Proofs.YtdmonfimdinkeaaGreatDoor.OctP Go.Proofs.YtdmonfimdinkeaaGreatDoor.OctG Go.Proofs.YtdmonfimdinkeaaGreatDoor.IdentP Go.Proofs.YtdmonfimdinkeaaGreatDoor.EntP Go.Proofs.YtdmonfimdinkeaaGreatDoor.EventC Go.Proofs.YtdmonfimdinkeaaGreatDoor.EventP Go.Proofs.YtdmonfimdinkeaaGreatDoor.ShaA Go.Proofs.YtdmonfimdinkeaaGreatDoor.Steps Go.Proofs.YtdmonfimdinkeaaGreatDoor.KeyA Go.Proofs.YtdmonfimdinkeaaGreatDoor.KeyS Go.Proofs.YtdmonfimdinkeaaGreatDoor.KeyK Go.Proofs.YtdmonfimdinkeaaGreatDoor.TreeA
set_option linter.unusedVariables false
set_option linter.unusedSimpArgs false

theorem grownBy_setRow (w : World) (g : Nat) (cs : Array Value) : w.grownBy (w.setRow g cs) (some g) :=
  ⟨rfl, rfl, rfl, by simp [World.setRow], fun k _ hk => setRow_other w g k cs (fun e => hk (by rw [e]))⟩

end Go.Proofs.YtdmonfimdinkeaaGreatDoor.EntW

namespace Go.Proofs.YtdmonfimdinkeaaGreatDoor.EqEnt
open Go Go.RowKit Go.Proofs.YtdmonfimdinkeaaGreatDoor Go.Proofs.YtdmonfimdinkeaaGreatDoor.ShaB Go.Proofs.YtdmonfimdinkeaaGreatDoor.EqHash Go.Proofs.YtdmonfimdinkeaaGreatDoor.EntP Go.Proofs.YtdmonfimdinkeaaGreatDoor.OctP
set_option linter.unusedVariables false
set_option linter.unusedSimpArgs false

theorem eqHashD (d : Nat) (a b : List UInt8) (w : World) : (Op.equalIn (d + 2) 23 (.agg (pB 32 a)) (.agg (pB 32 b))).run Tryz.prog w = .ok (hEq a b) w := by
  have hu : Tryz.prog.underlying 23 = some (.array 32 5) := by kernel_rfl
  have hc : Tryz.prog.cellsOf 5 = 1 := by kernel_rfl
  have hi : ∃ i, Tryz.prog.info? 5 = some i := info_of_underlying (show Tryz.prog.underlying 5 = some (.int .u8) by kernel_rfl)
  obtain ⟨i, hi⟩ := hi
  rw [show d + 2 = (d + 1) + 1 from rfl, run_equalIn_array w (d + 1) _ _ hu hi, hc]
  exact items w d a b (List.range 32) (fun i hi => by simpa using hi)
theorem pB_of {l : List UInt8} (h : l.length = 32) : (byV l).toArray = pB 32 l := by
  unfold pB
  simp [h]
theorem part_hash (w : World) (xs : Array Value) (off : Nat) : (part 23 xs off).run Tryz.prog w = .ok (.agg (xs.extract off (off + 32))) w := by
  have hu : Tryz.prog.underlying 23 = some (.array 32 5) := by kernel_rfl
  obtain ⟨i, hi⟩ := info_of_underlying (P := Tryz.prog) hu
  have hc : Tryz.prog.cellsOf 23 = 32 := by kernel_rfl
  have hs := run_sizeOf w hi
  rw [hc] at hs
  simp [part, isAgg, run_underlying hu, Sem.run_bind, hs]
theorem eqF_cons {P : Program} {w : World} {d : Nat} {xs ys : Array Value} {f : Field} {fs : List Field} {x y : Value} {r s : Bool} (hn : f.name ≠ "_") (h1 : (part f.type xs f.offset).run P w = .ok x w) (h2 : (part f.type ys f.offset).run P w = .ok y w)
    (h3 : (Op.equalIn d f.type x y).run P w = .ok r w) (h4 : (Op.eqFields d xs ys fs).run P w = .ok s w) : (Op.eqFields d xs ys (f :: fs)).run P w = .ok (r && s) w := by
  unfold Op.eqFields
  rw [if_pos hn]
  simp only [Sem.run_bind, h1, h2, h3, Result.andThen_ok]
  cases r
  · simp
  · simpa using h4
theorem eqF_nil {P : Program} {w : World} {d : Nat} {xs ys : Array Value} : (Op.eqFields d xs ys []).run P w = .ok true w := by simp [Op.eqFields]
end Go.Proofs.YtdmonfimdinkeaaGreatDoor.EqEnt

namespace Go.Proofs.YtdmonfimdinkeaaGreatDoor.EntK
open Go.Proofs.YtdmonfimdinkeaaGreatDoor.OctetS Go.Proofs.YtdmonfimdinkeaaGreatDoor.IdentS Go.Proofs.YtdmonfimdinkeaaGreatDoor.EntS Go.Proofs.YtdmonfimdinkeaaGreatDoor.KeyS Go.Proofs.YtdmonfimdinkeaaGreatDoor.KeyN Go.Proofs.YtdmonfimdinkeaaGreatDoor.NSha
set_option linter.unusedVariables false
set_option maxRecDepth 100000

def z32 : List UInt8 := List.replicate 32 0
theorem z32_len : z32.length = 32 := rfl
def rm : List UInt8 := [33, 104, 97, 108, 108, 58, 48]
def ent (ix : Nat) (s : List UInt8) : Ent := ⟨rm, 1, (ix : Int), z32, [120], s⟩
def T5 : List UInt8 := [6, 5, 101, 110, 116, 114, 121, 7, 33, 104, 97, 108, 108, 58, 48, 1, 1, 1, 5, 32, 0, 0, 0, 0, 0, 0, 0, 0, 0, 0, 0, 0, 0, 0, 0, 0, 0, 0, 0, 0, 0, 0, 0, 0, 0, 0, 0, 0, 0, 0, 0, 0, 1, 120]
def G : List UInt8 := sigOf [115] 1 0 T5
theorem room0 : roomB rm = true := by decide +kernel
theorem right {ix : Nat} (hi : ix ≤ 4096) {s : List UInt8} (hs : s.length ≤ 8192) : Right (ent ix s) := ⟨room0, by show (0 : Int) ≤ 1; omega, by show (1 : Int) ≤ 4096; omega, by show (0 : Int) ≤ ix; omega, by show (ix : Int) ≤ 4096; omega, by show 1 ≤ 8192; omega, hs⟩
theorem lt5 : OctetS.list [EntS.mark, rm, num 1, num 5, z32, [120]] = T5 := by decide +kernel
theorem text5 (s : List UInt8) : EntS.text (ent 5 s) = T5 := by
  rw [← lt5]
  rfl
theorem check5 {s : List UInt8} (hs : s.length ≤ 8192) : checkB (ent 5 s) = true := check_iff.2 (right (by omega) hs)

end Go.Proofs.YtdmonfimdinkeaaGreatDoor.EntK

namespace Go.Proofs.YtdmonfimdinkeaaGreatDoor.EntL
open Go Go.RowKit Go.Shelf Go.Proofs.YtdmonfimdinkeaaGreatDoor Go.Proofs.YtdmonfimdinkeaaGreatDoor.OctetS Go.Proofs.YtdmonfimdinkeaaGreatDoor.IdentS Go.Proofs.YtdmonfimdinkeaaGreatDoor.EntS Go.Proofs.YtdmonfimdinkeaaGreatDoor.OctG Go.Proofs.YtdmonfimdinkeaaGreatDoor.IdentP Go.Proofs.YtdmonfimdinkeaaGreatDoor.EntP Go.Proofs.YtdmonfimdinkeaaGreatDoor.EventC Go.Proofs.YtdmonfimdinkeaaGreatDoor.ShaA Go.Proofs.YtdmonfimdinkeaaGreatDoor.Steps Go.Proofs.YtdmonfimdinkeaaGreatDoor.KeyA Go.Proofs.YtdmonfimdinkeaaGreatDoor.KeyS Go.Proofs.YtdmonfimdinkeaaGreatDoor.KeyI Go.Proofs.YtdmonfimdinkeaaGreatDoor.KeyK Go.Proofs.YtdmonfimdinkeaaGreatDoor.TreeA Go.Proofs.YtdmonfimdinkeaaGreatDoor.EntK Go.Proofs.YtdmonfimdinkeaaGreatDoor.BookA
set_option linter.unusedVariables false
set_option linter.unusedSimpArgs false

def rB : ByteArray := bsOf rm
def xB : ByteArray := bsOf [120]
def nB : ByteArray := bsOf []
def sS : ByteArray := ⟨#[115]⟩
theorem sS_bl : bl sS = [115] := rfl
theorem rB_z : rB.size ≤ 140737488351232 := by decide +kernel
theorem xB_z : xB.size ≤ maxLen := by decide +kernel
theorem nB_z : nB.size ≤ maxLen := by decide +kernel
theorem of_ent (ix : Nat) (s : List UInt8) : entOf rB 1 (ix : Int) z32 xB (bsOf s) = ent ix s := by
  unfold entOf rB xB ent
  rw [bl_bsOf, bl_bsOf, bl_bsOf]
theorem nB_of : nB = bsOf [] := rfl
def eA (ix : Nat) (s : ByteArray) : Array Value := entA rB 1 (ix : Int) z32 xB s
theorem eP (ix : Nat) (s : ByteArray) : EntP (eA ix s) rB 1 (ix : Int) z32 xB s := ⟨rfl, z32_len⟩
theorem check_n : EntS.checkB (entOf rB 1 ((5 : Nat) : Int) z32 xB nB) = true := by
  rw [nB_of, of_ent]
  exact check5 (by simp)
theorem text_n : EntS.text (entOf rB 1 ((5 : Nat) : Int) z32 xB nB) = T5 := by
  rw [nB_of, of_ent]
  exact text5 _

theorem Make_s (w : World) (hk : VarsH w) : Calls Tryz.prog 35 #[.agg #[.string ⟨#[115]⟩, .int .i64 1, .int .i64 0]] w fun e w' => ∃ R v, e = .returned (.tuple #[.pointer (some ⟨R, 0, none⟩), .int .i64 0]) ∧ RingAt w w' R sS 1 0 v ∧ Below w.heap.size w w' :=
  Make_yes w sS 1 0 (by decide) (by decide) (by decide) (by decide) hk

/-- The grant. -/
def gr : Gr' := ⟨2, 0, 9, 1, rootK [115] 1⟩
theorem gr_right : gr.Right := ⟨by decide, by decide, by decide, by decide, by decide, by decide, by decide⟩
theorem found_yes (ix : Int) (h0 : 0 ≤ ix) (h9 : ix ≤ 9) : foundB gr 2 ix = true := by
  unfold foundB gr
  simp [h0, h9]
theorem found_no (ix : Int) : foundB gr 1 ix = false := by
  unfold foundB gr
  simp
/-- The root's cells. -/
theorem byV_bN (l : List UInt8) : byV l = (NSha.bN l).map fun n => .int .u8 (n : Int) := by
  unfold byV NSha.bN
  rw [List.map_map]
  rfl
def rootL : Array Value := ([1, 182, 6, 211, 135, 147, 53, 5, 245, 241, 205, 252, 197, 223, 231, 32, 130, 117, 182, 46, 173, 16, 191, 101, 209, 159, 7, 102, 245, 140, 192, 251].map fun n : Nat => Value.int .u8 (n : Int)).toArray
theorem root_A : (rootK [115] 1).A = rootL := by
  unfold H32.A rootL
  rw [rootK_l, byV_bN, KeyN.root_s]

end Go.Proofs.YtdmonfimdinkeaaGreatDoor.EntL

namespace Go.Proofs.YtdmonfimdinkeaaGreatDoor.EntQ
open Go Go.RowKit Go.Shelf Go.Proofs.YtdmonfimdinkeaaGreatDoor Go.Proofs.YtdmonfimdinkeaaGreatDoor.OctetS Go.Proofs.YtdmonfimdinkeaaGreatDoor.IdentS Go.Proofs.YtdmonfimdinkeaaGreatDoor.EntS Go.Proofs.YtdmonfimdinkeaaGreatDoor.OctG Go.Proofs.YtdmonfimdinkeaaGreatDoor.IdentP Go.Proofs.YtdmonfimdinkeaaGreatDoor.EntP Go.Proofs.YtdmonfimdinkeaaGreatDoor.EventC Go.Proofs.YtdmonfimdinkeaaGreatDoor.ShaA Go.Proofs.YtdmonfimdinkeaaGreatDoor.Steps Go.Proofs.YtdmonfimdinkeaaGreatDoor.KeyA Go.Proofs.YtdmonfimdinkeaaGreatDoor.KeyS Go.Proofs.YtdmonfimdinkeaaGreatDoor.KeyI Go.Proofs.YtdmonfimdinkeaaGreatDoor.KeyK Go.Proofs.YtdmonfimdinkeaaGreatDoor.TreeA Go.Proofs.YtdmonfimdinkeaaGreatDoor.EntK Go.Proofs.YtdmonfimdinkeaaGreatDoor.BookA Go.Proofs.YtdmonfimdinkeaaGreatDoor.EntL Go.Proofs.YtdmonfimdinkeaaGreatDoor.KeyG
set_option linter.unusedVariables false
set_option linter.unusedSimpArgs false
attribute [-go_sem] run_equalIn_agg

theorem wpList_buildC {P : Program} {ops : Array Oper} {rest : List Oper} {o : Oper} {a : Act} {w : World} {Q : Exit → Act → World → Prop} (hg : o.guard = none) (t : TypeId) (parts : Array (Nat × Operand)) (ho : o.op = .build t parts) (cells : Array Value)
    (hb : P.built t (parts.map fun (i, x) => (i, a.eval x)).toList = some cells) (h : wpList P ops Q rest (a.put o.dst (.agg cells)) w) : wpList P ops Q (o :: rest) a w :=
  wpList_build hg t parts ho (by rw [hb]; rfl) (by rw [hb]; exact h)
theorem fold_any (Z C : Array Value) (n : Nat) (hZ : Z.size = n) (hC : C.size = n) : Array.foldl (fun (cs : Array Value) x => cs.setIfInBounds x.snd x.fst) Z C.zipIdx 0 n = C := by
  have h1 : C.zipIdx.size = n := by simp [hC]
  rw [← h1, ← Array.foldl_toList, Array.toList_zipIdx, fold_set C.toList 0 _ (by simp [hC, hZ])]
  simp
theorem sl_one {w : World} {b n : Nat} {cs : Array Value} {t : TypeId} {fr : Nat × Nat} (h : w.heap[b]? = some (.cells cs t fr)) (hn : cs.size = n) : Sl w (.slice (some ⟨b, 0, none⟩) 1 1) n 1 cs.toList :=
  ⟨by rw [Array.length_toList, hn, Nat.one_mul], .inr ⟨⟨b, 0, none⟩, 1, rfl, Nat.le_refl _, by unfold maxLen; omega, fun j u hu => by
    rw [Addr.add_mid, Nat.zero_add, cell_row h, ← hu]
    simp⟩⟩
theorem ring_below {w0 w w' : World} {R : Nat} {s : ByteArray} {h nx : Nat} {v : Value} (hr : RingAt w0 w R s h nx v) (hb : Below w.heap.size w w') : RingAt w0 w' R s h nx v :=
  ⟨(hb.block _ (lt_row hr.row)).trans hr.row, hr.lv.ext (Ext.ofB hb) (fun _ _ h => h), hr.ge, hr.sep⟩

end Go.Proofs.YtdmonfimdinkeaaGreatDoor.EntQ
