/-
  WHAT IS PROVED: entries, heads, deals, proofs and messages as rows of cells, and when texts are such. numbers, words, and small tests of the texts between servers. what the listed variables are, and which rows entries and heads among the arguments are. entries' sums, bytes, signatures, and the statements' own check of them. plain laws of heads: what is signed, and their coding. Condition: what each theorem names.
-/
import Derived.Test.YtkcikadgnnjjjaaGreatDoorS0
import Derived.Test.YtkcikadgnnjjjaaGreatDoorZEH26
set_option linter.unusedVariables false
set_option linter.unusedSimpArgs false
set_option maxRecDepth 100000
set_option maxHeartbeats 4000000
namespace Go.Proofs.YtkcikadgnnjjjaaGreatDoor.WireT
open Go Go.RowKit Go.Shelf OctetS IdentS EntS WireS OctG OctP OctQ EventP EventC EntP
/-! ### Small numbers -/
/-! ### A list, and its cells -/
/-! ### Entries -/
/-! ### Heads -/
theorem hdA_one (r : ByteArray) (ep ix : Int) (pv : List UInt8) (s : ByteArray) : (hdA r ep ix pv s).all (·.oneCell') = true := by
 simp [hdA, byV, Value.oneCell']
theorem hdA_size {r : ByteArray} {ep ix : Int} {pv : List UInt8} {s : ByteArray} (h : pv.length = 32) : (hdA r ep ix pv s).size = 36 := by simp [hdA, byV_length, h]
def hdZ : Array Value := hdA ⟨#[]⟩ 0 0 zero32 ⟨#[]⟩
def hdV : Option Hd → Value
 | some e => .tuple #[.agg (hdA (bsOf e.room) e.ep e.ix e.sum (bsOf e.sig)), .int .i64 0]
 | none => .tuple #[.agg hdZ, .int .i64 6]
theorem hd_copy (r : ByteArray) (ep ix : Int) {z pv : List UInt8} (hz : z.length = 32) (hp : pv.length = 32) (s : ByteArray) :
 ((hdA r ep ix z s).toList.take 3 ++ byV (pv.take 32) ++ (hdA r ep ix z s).toList.drop (3 + 32)).toArray = hdA r ep ix pv s := by
 have h1 : pv.take 32 = pv := List.take_of_length_le (by omega)
 rw [h1]
 unfold hdA
 have h2 : (byV z).length = 32 := by rw [byV_length, hz]
 have h3 : ([.string r, .int .i64 ep, .int .i64 ix] ++ byV z ++ [.string s] : List Value).drop (3 + 32) = [.string s] := by
  have h4 : ([.string r, .int .i64 ep, .int .i64 ix] ++ byV z : List Value).length = 3 + 32 := by simp [h2]
  rw [← h4, List.drop_left]
 simp only [h3]
 congr 1
theorem hd_sig (r : ByteArray) (ep ix : Int) {pv : List UInt8} (hp : pv.length = 32) (s s' : ByteArray) : (hdA r ep ix pv s).setIfInBounds 35 (.string s') = hdA r ep ix pv s' := by
 have h2 : (byV pv).length = 32 := by rw [byV_length, hp]
 obtain ⟨l, hl⟩ := nXe (byV pv)
 unfold hdA
 rw [← hl] at h2 ⊢
 rw [List.setIfInBounds_toArray]
 congr 1
 rw [List.set_append_right _ _ (by simp [h2])]
 simp [h2]
def hdOf (r : ByteArray) (ep ix : Int) (sm : List UInt8) (s : ByteArray) : Hd := ⟨bl r, ep, ix, sm, bl s⟩
def checkH (e : Hd) : Bool := roomB e.room && (placeB e.ep && (placeB e.ix && decide (e.sig.length ≤ 8192)))
theorem readH_bad {s : List UInt8} {l : List (List UInt8)} {y : Int} (ha : all s = (l, y)) (h : y ≠ 0 ∨ l.length ≠ 5) : readH s = none := by
 unfold readH
 rw [ha]
 rcases h with h | h
 ·exact if_neg h
 ·split
  ·unfold readHL
   split
   ·rename_i heq
    simp only at heq
    subst heq
    simp at h
   ·rfl
  ·rfl
theorem readH_mark {s : List UInt8} {k r a b p : List UInt8} (ha : all s = ([k, r, a, b, p], 0)) (h : k ≠ markH) : readH s = none := by
 unfold readH
 rw [ha]
 simp [readHL, h]
theorem readH_five {s : List UInt8} {r a b p : List UInt8} (ha : all s = ([markH, r, a, b, p], 0)) :
 readH s = if p.length = 32 ∧ checkH ⟨r, numI 4096 a, numI 4096 b, p, []⟩ = true then some ⟨r, numI 4096 a, numI 4096 b, p, []⟩ else none := by
 unfold readH
 rw [ha]
 simp only [if_true, readHL, checkH, place_small, List.length_nil]
 cases h1 : small 4096 a with
 | none => simp
 | some x =>
   cases h2 : small 4096 b with
   | none => simp
   | some z =>
     simp only [Option.bind_some, numI_some h1, numI_some h2, Option.isSome_some, Bool.true_and]
     by_cases h3 : p.length = 32 ∧ roomB r = true
     ·rw [if_pos h3, if_pos ⟨h3.1, by simp [h3.2]⟩]
     ·rw [if_neg h3, if_neg (fun h => h3 ⟨h.1, by simpa using h.2⟩)]
theorem readH_len {s : List UInt8} {e : Hd} (h : readH s = some e) : e.sum.length = 32 ∧ e.sig = [] ∧ checkH e = true := by
 obtain ⟨l, y, ha⟩ : ∃ l y, all s = (l, y) := ⟨_, _, rfl⟩
 by_cases h0 : y = 0 ∧ l.length = 5
 ·obtain ⟨rfl, h6⟩ := h0
  match l, h6, ha with
  | [k, r, a, b, p], _, ha =>
    by_cases hk : k = markH
    ·subst hk
     rw [readH_five ha] at h
     split at h
     ·rename_i hc
      cases h
      exact ⟨hc.1, rfl, hc.2⟩
     ·cases h
    ·rw [readH_mark ha hk] at h
     cases h
 ·rw [readH_bad ha (by omega)] at h
  cases h
/-! ### Bytes: two texts -/
theorem parseH_bad {s : List UInt8} {l : List (List UInt8)} {y : Int} (ha : all s = (l, y)) (h : y ≠ 0 ∨ l.length ≠ 2) : parseH s = none := by
 unfold parseH
 rw [ha]
 rcases h with h | h
 ·exact if_neg h
 ·split
  ·unfold parseHL
   split
   ·rename_i heq
    simp only at heq
    subst heq
    simp at h
   ·rfl
  ·rfl
theorem parseH_two {s t g : List UInt8} (ha : all s = ([t, g], 0)) : parseH s = (readH t).map fun e => withSigH e g := by
 unfold parseH
 rw [ha]
 rfl
/-! ### Deals -/
/-! ### Proofs -/
/-! ### Rejections -/
/-! ### Messages -/
/-! ### Results and rows -/
/-! ### More ways to see a list, and a text -/
end Go.Proofs.YtkcikadgnnjjjaaGreatDoor.WireT
namespace Go.Proofs.YtkcikadgnnjjjaaGreatDoor.WireA
open Go Go.RowKit Go.Shelf OctetS IdentS EntS WireS OctP OctQ IdentP IdentR EventP EventC WireT
theorem h_number (w : World) (s : ByteArray) (hs : s.size ≤ maxLen) : Calls Tryz.prog 87 #[.string s] w fun e w' => e = .returned (.int .i64 (numI 4096 (bl s))) ∧ w = w' := by
 obtain ⟨n, u, y, hg⟩ : ∃ n u y, getNum (bl s) = (n, u, y) := ⟨_, _, _, rfl⟩
 have hG := GetNum_at w s hs hg
 obtain ⟨z, hz⟩ := nXe (numI 4096 (bl s))
 rw [← hz]
 have hcase : ((y != 0) = true ∧ z = -1) ∨ (y = 0 ∧ u < s.size ∧ z = -1) ∨ (y = 0 ∧ u = s.size ∧ 4096 < n ∧ n ≤ maxNum ∧ z = -1) ∨ (y = 0 ∧ u = s.size ∧ n ≤ 4096 ∧ z = n) := by
  rw [hz]
  rcases small_cases 4096 hg with ⟨h, h'⟩ | ⟨h, h1, h'⟩ | ⟨h, h1, h2, h3, h'⟩ | ⟨h, h1, h2, h3, h'⟩
  ·exact .inl ⟨by simpa using h, numI_none h'⟩
  ·exact .inr (.inl ⟨h, by rw [← bl_length]; exact h1, numI_none h'⟩)
  ·exact .inr (.inr (.inl ⟨h, by rw [← bl_length]; exact h1, h2, h3, numI_none h'⟩))
  ·exact .inr (.inr (.inr ⟨h, by rw [← bl_length]; exact h1, h2, numI_some h'⟩))
 have HG := lh hG
 clear hG hg hz
 unfold maxNum at hcase
 unfold maxLen at hs
 rcases hcase with ⟨hy, rfl⟩ | ⟨rfl, hy, rfl⟩ | ⟨rfl, rfl, hy, hn, rfl⟩ | ⟨rfl, rfl, hy, rfl⟩
 all_goals
  go_enter Tryz.func87, Tryz.ntmps87
  go_wp2_with fail
  refine HG.out.mono ?_
  rintro e w1 ⟨rfl, rfl⟩
  go_wp2
  go_ret
  exact ⟨rfl, rfl⟩
theorem h_place (w : World) (n : Int) : Calls Tryz.prog 88 #[.int .i64 n] w fun e w' => e = .returned (.bool (placeB n)) ∧ w = w' := by
 by_cases h0 : 0 ≤ n
 ·go_enter Tryz.func88, Tryz.ntmps88
  go_wp2
  go_ret
  exact ⟨by simp [placeB, h0], rfl⟩
 ·have h1 : decide (0 ≤ n) = false := by simpa using h0
  go_enter Tryz.func88, Tryz.ntmps88
  go_wp2
  go_ret
  exact ⟨by simp [placeB, h1], rfl⟩
end Go.Proofs.YtkcikadgnnjjjaaGreatDoor.WireA
namespace Go.Proofs.YtkcikadgnnjjjaaGreatDoor.LaidJ
open Go Go.ChangeShapes Go.WideShapes Go.RowKit EntP WireT LaidI
section
variable {H : Type} {enc : TypeId × Value → H} {w : World} {base : Nat} {spare : Nat → Bool} {held : Bool} {fuel : Nat} {cs : List Value} {x : DataW H × List MemPlace}
theorem hd_of (h : DataW.trod enc Tryz.prog w base spare held fuel 47 cs = some x) :
 ∃ (r : ByteArray) (ep ix : Int) (pv : List UInt8) (s : ByteArray) (d3 : DataW H), cs.toArray = hdA r ep ix pv s ∧ pv.length = 32 ∧ s.size ≤ maxLen ∧ x.1 = .agg [.lit (.string (bl r)), .lit (.int .i64 ep), .lit (.int .i64 ix), d3, .lit (.string (bl s))] := by
 have hS : Tryz.prog.underlying 47 = some (.struct (Tryz.prog.fieldsOf 47)) := by kernel_rfl
 have hF : Tryz.prog.fieldsOf 47 = #[⟨"Room", 9, 0, false, "", "", 0⟩, ⟨"Epoch", 3, 1, false, "", "", 16⟩, ⟨"Index", 3, 2, false, "", "", 24⟩, ⟨"Sum", 25, 3, false, "", "", 32⟩, ⟨"Sig", 9, 35, false, "", "", 64⟩] := by kernel_rfl
 have u64 : Tryz.prog.underlying 3 = some (.int .i64) := by kernel_rfl
 have c64 : Tryz.prog.cellsOf 3 = 1 := by kernel_rfl
 have cH : Tryz.prog.cellsOf 25 = 32 := by kernel_rfl
 have cE : Tryz.prog.cellsOf 47 = 36 := by kernel_rfl
 rw [hF] at hS
 obtain ⟨xs, n, rfl, hx, hl, hn, hel⟩ := DataW.trod_struct hS h
 rw [cE] at hl
 match xs, hn with
 | [x0, x1, x2, x3, x4], _ =>
   obtain ⟨r, e0, d0, _⟩ := LaidE.field_str (y := none) x0 (hel 0 _ rfl)
   obtain ⟨ep, e1, d1⟩ := LaidE.field_int x1 u64 c64 (hel 1 _ rfl)
   obtain ⟨ix, e2, d2⟩ := LaidE.field_int x2 u64 c64 (hel 2 _ rfl)
   have h3 : DataW.trod enc Tryz.prog w base spare held n 25 ((cs.drop 3).take 32) = some x3 := by
    rw [← cH]
    exact hel 3 _ rfl
   obtain ⟨pv, hpv, hcp⟩ := LaidW.hash_of (fits_of_trod 4 _ _ flatHash3 _ _ _ h3)
   obtain ⟨s, e5, d5, z5⟩ := LaidE.field_str (y := none) x4 (hel 4 _ rfl)
   refine ⟨r, ep, ix, pv, s, x3.1, ?_, hpv, z5, ?_⟩
   ·unfold hdA
    refine congrArg List.toArray ?_
    have hb : (byV pv).length = 32 := by rw [byV_length, hpv]
    apply List.ext_getElem?
    intro i
    rcases Nat.lt_or_ge i 3 with hi | hi
    ·rw [List.append_assoc, List.getElem?_append_left (by simpa using hi)]
     rcases i with _ | _ | _ | i
     ·exact e0
     ·exact e1
     ·exact e2
     ·omega
    ·obtain ⟨j, rfl⟩ : ∃ j, i = 3 + j := ⟨i - 3, by omega⟩
     rw [List.append_assoc, List.getElem?_append_right (by simp), show 3 + j - ([.string r, .int .i64 ep, .int .i64 ix] : List Value).length = j by simp]
     rcases Nat.lt_or_ge j 32 with hj | hj
     ·rw [List.getElem?_append_left (by omega), ← hcp, List.getElem?_take, if_pos hj, List.getElem?_drop]
     ·rw [List.getElem?_append_right (by omega), hb]
      obtain ⟨k, rfl⟩ : ∃ k, j = 32 + k := ⟨j - 32, by omega⟩
      rw [show 32 + k - 32 = k by omega, show 3 + (32 + k) = 35 + k by omega]
      rcases k with _ | k
      ·exact e5
      ·rw [List.getElem?_eq_none (by omega), List.getElem?_eq_none (by simp)]
   ·rw [hx]
    simp only [List.map_cons, List.map_nil, d0, d1, d2, d5]
end
end Go.Proofs.YtkcikadgnnjjjaaGreatDoor.LaidJ
namespace Go.Proofs.YtkcikadgnnjjjaaGreatDoor.EntX
open Go Go.RowKit Go.Shelf OctetS IdentS EntS OctP OctG IdentP EntP EventC EventP ShaA Steps KeyA TreeA
def sumH (t : List UInt8) : H32 := KeyJ.mk32 (ShaS.sum t) (ShaS.sum_length t)
theorem sumH_A (t : List UInt8) : (sumH t).A = (byV (ShaS.sum t)).toArray := by
 unfold sumH
 exact KeyJ.mk32_A _ _
def sumE (e : Ent) : H32 := if checkB e = true then sumH (EntS.text e) else zeroH
theorem Sum_ok (w : World) (p : Array Value) (r : ByteArray) (ep ix : Int) (pv : List UInt8) (e s : ByteArray) (hp : EntP p r ep ix pv e s) (hv : VarsI w) (hk : VarsH w) (hr : r.size ≤ 140737488351232) (he : e.size ≤ maxLen) (hs : s.size ≤ maxLen) :
 Calls Tryz.prog 44 #[.agg p] w (KeyA.RB (.tuple #[.agg (sumE (entOf r ep ix pv e s)).A, .int .i64 (whyOf (EntS.checkB (entOf r ep ix pv e s)))]) w) := by
 have hT := fun w hv => Text_ok w p r ep ix pv e s hp hv hr he hs
 unfold EntS.textOf at hT
 unfold sumE
 have hps := hp.size
 have hpi : (Tryz.prog.info? 27).map (·.size) = some 37 := by kernel_rfl
 rw [← hps] at hpi
 have HI := lh hpi
 obtain ⟨Z, hZ⟩ := nXe (zeroH.A)
 have HLIT : Hid (zq0 Z) := lh (by rw [hZ]; unfold zq0; kernel_rfl)
 have HZN : Hid (Z.size = 32) := lh (by rw [hZ]; kernel_rfl)
 have HZS : Hid ((Tryz.prog.info? 25).map (·.size) = some Z.size) := lh (by rw [hZ]; exact H32.info _)
 have HZO : Hid (Z.all (·.oneCell') = true) := lh (by rw [hZ]; exact H32.one _)
 obtain ⟨w0, hw0⟩ := nXe ((w.alloc (.cells p 27)).alloc (.cells Z 25))
 have hb0 : Below w.heap.size w w0 := by rw [hw0]; exact ((Below.refl _ w).alloc (Nat.le_refl _) _).alloc (by simp) _
 have HX0 := lh (show w0.heap[w.heap.size]? = some (.cells p 27 (0, 0)) by rw [hw0]; exact heap_at (heap_new _ _) _)
 have HZ0 := lh (show w0.heap[w.heap.size + 1]? = some (.cells Z 25 (0, 0)) by rw [hw0]; exact heap_new' _ (by simp))
 have HBL0 := lh hb0
 have HW0 := lh hw0
 have HV0 := lh (hv.below hb0)
 have HK0 := lh (hk.below hb0)
 cases hchk : EntS.checkB (entOf r ep ix pv e s)
 ·skip
  rw [hchk] at hT
  rw [if_neg (by simp), ← hZ]
  have HT := lh hT
  clear hT hchk hr he hs hp hb0 hv hk hw0 hZ hpi hps
  go_enter Tryz.func44, Tryz.ntmps44
  go_wp2_with (first | (rw [HLIT.out, ← HW0.out]; refine wpList_load_row rfl _ _ rfl w.heap.size rfl _ p (0, 0) _ HX0.out Tryz.underlying27 rfl HI.out ?_) | fail)
  refine (HT.out w0 HV0.out).mono ?_
  rintro e' w1 ⟨rfl, hb⟩
  have HBL1 := tbB HBL0 hb
  have HZ1 := kpB hb HZ0
  clear hb
  unfold whyOf
  go_wp2_with (first | (refine wpList_store_rowA rfl _ _ _ rfl (w.heap.size + 1) Z rfl (by rw [← HLIT.out]; rfl) _ _ HZ1.out HZS.out rfl HZO.out ?_) | fail)
  intro wf hwf
  go_wp2
  refine bodyPost_ret (v := .tuple #[.agg Z, .int .i64 2]) (WireT.results_cell_slot rfl _ _ (w.heap.size + 1) 25 Z (0, 0) _ rfl (by rw [hwf.out]; exact setRow_at HZ1.out) Tryz.underlying25 rfl HZS.out rfl) rfl ⟨rfl, by rw [hwf.out]; exact below_row HBL1.out (by omega) _⟩
 ·skip
  rw [hchk] at hT
  rw [if_pos rfl] at hT ⊢
  have hR := EntS.check_iff.1 hchk
  have hlen := ent_len hR hp.len
  obtain ⟨t, ht⟩ := nXe (EntS.text (entOf r ep ix pv e s))
  rw [← ht] at hT hlen ⊢
  obtain ⟨R, hRe⟩ := nXe ((sumH t).A)
  have HRS : Hid ((Tryz.prog.info? 25).map (·.size) = some R.size) := lh (by rw [hRe]; exact H32.info _)
  have HRN : Hid (Z.size = R.size) := lh (by rw [hRe, H32.size]; exact HZN.out)
  have HRO : Hid (R.all (·.oneCell') = true) := lh (by rw [hRe]; exact H32.one _)
  obtain ⟨Tb, hTb⟩ := nXe (bsOf t)
  rw [← hTb] at hT
  have hS := fun w hk => ShaM.Sum_ok w Tb (by rw [hTb, size_bsOf]; omega) hk
  have hRR : (byV (ShaS.sum (bl Tb))).toArray = R := by rw [hTb, bl_bsOf, hRe, sumH_A]
  rw [hRR] at hS
  rw [← hRe]
  have HT := lh hT
  have HS := lh hS
  clear hT hS hRR hRe hTb ht hlen hR hchk hr he hs hp hb0 hv hk hw0 hZ hpi hps
  go_enter Tryz.func44, Tryz.ntmps44
  go_wp2_with (first | (rw [HLIT.out, ← HW0.out]; refine wpList_load_row rfl _ _ rfl w.heap.size rfl _ p (0, 0) _ HX0.out Tryz.underlying27 rfl HI.out ?_) | fail)
  refine (HT.out w0 HV0.out).mono ?_
  rintro e' w1 ⟨rfl, hb⟩
  have HBL1 := tbB HBL0 hb
  have HZ1 := kpB hb HZ0
  have HK1 := lh (HK0.out.below hb)
  clear hb
  unfold whyOf
  go_wp2_with fail
  refine (HS.out w1 HK1.out).mono ?_
  rintro e' w2 ⟨rfl, hb⟩
  have HBL2 := tbB HBL1 hb
  have HZ2 := kpB hb HZ1
  clear hb
  go_wp2_with (first | (refine wpList_store_rowA rfl _ _ _ rfl (w.heap.size + 1) R rfl rfl _ _ HZ2.out HRS.out HRN.out HRO.out ?_) | fail)
  intro wf hwf
  go_wp2
  refine bodyPost_ret (v := .tuple #[.agg R, .int .i64 0]) (WireT.results_cell_slot rfl _ _ (w.heap.size + 1) 25 R (0, 0) _ rfl (by rw [hwf.out]; exact setRow_at HZ2.out) Tryz.underlying25 rfl HRS.out rfl) rfl ⟨rfl, by rw [hwf.out]; exact below_row HBL2.out (by omega) _⟩
end Go.Proofs.YtkcikadgnnjjjaaGreatDoor.EntX
namespace Go.Proofs.YtkcikadgnnjjjaaGreatDoor.HdS
open OctetS IdentS ShaS EntS WireS WireT
structure Right (e : Hd) : Prop where
 room : roomB e.room = true
 ep0 : 0 ≤ e.ep
 ep1 : e.ep ≤ 4096
 ix0 : 0 ≤ e.ix
 ix1 : e.ix ≤ 4096
 sig : e.sig.length ≤ 8192
theorem check_iff {e : Hd} : checkH e = true ↔ Right e := by
 unfold checkH
 simp only [Bool.and_eq_true, place_iff, decide_eq_true_eq]
 exact ⟨fun ⟨a, b, c, d⟩ => ⟨a, b.1, b.2, c.1, c.2, d⟩, fun h => ⟨h.room, ⟨h.ep0, h.ep1⟩, ⟨h.ix0, h.ix1⟩, h.sig⟩⟩
def parts (e : Hd) : List (List UInt8) := [markH, e.room, num e.ep.toNat, num e.ix.toNat, e.sum]
def text (e : Hd) : List UInt8 := OctetS.list (parts e)
def textOf (e : Hd) : List UInt8 := if checkH e then text e else []
theorem Right.fits {e : Hd} (h : Right e) (hp : e.sum.length = 32) : fits (parts e) = true := by
 rw [fits_iff]
 refine ⟨by simp [parts], fun t ht => ?_⟩
 have hr := room_length h.room
 have h1 := num_place h.ep0 h.ep1
 have h2 := num_place h.ix0 h.ix1
 simp only [parts, List.mem_cons, List.not_mem_nil, or_false] at ht
 rcases ht with rfl | rfl | rfl | rfl | rfl
 ·simp [markH]
 ·omega
 ·omega
 ·omega
 ·omega
def bytesE (e : Hd) : List UInt8 := list [text e, e.sig]
def bytesW (e : Hd) : List UInt8 × Int := if checkH e = true then (if (text e).length ≤ 8192 then (bytesE e, 0) else ([], 7)) else ([], 2)
theorem read_text {e : Hd} (h : Right e) (hp : e.sum.length = 32) : readH (text e) = some { e with sig := [] } := by
 unfold readH HdS.text
 rw [all_list (h.fits hp)]
 simp only [if_true, HdS.parts, readHL]
 rw [small_num (by unfold maxNum; omega) (by have := h.ep0; have := h.ep1; omega), small_num (by unfold maxNum; omega) (by have := h.ix0; have := h.ix1; omega)]
 simp only [Option.bind_some]
 rw [if_pos ⟨hp, h.room⟩]
 have h1 : ((e.ep.toNat : Nat) : Int) = e.ep := by have := h.ep0; omega
 have h2 : ((e.ix.toNat : Nat) : Int) = e.ix := by have := h.ix0; omega
 rw [h1, h2]
theorem bytes_fits {e : Hd} (h : Right e) (ht : (text e).length ≤ 8192) : fits [text e, e.sig] = true := by
 rw [fits_iff]
 have := h.sig
 refine ⟨by simp, fun t hm => ?_⟩
 simp only [List.mem_cons, List.not_mem_nil, or_false] at hm
 rcases hm with rfl | rfl
 ·exact ht
 ·exact this
theorem parse_bytes {e : Hd} (h : Right e) (hp : e.sum.length = 32) (ht : (text e).length ≤ 8192) : parseH (bytesE e) = some e := by
 unfold parseH bytesE
 rw [all_list (bytes_fits h ht)]
 simp only [if_true, parseHL, read_text h hp, Option.map_some, withSigH]
end Go.Proofs.YtkcikadgnnjjjaaGreatDoor.HdS
