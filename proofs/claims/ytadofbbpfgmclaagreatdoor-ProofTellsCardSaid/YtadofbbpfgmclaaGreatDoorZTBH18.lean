/-
  WHAT IS PROVED: contracts of functions, and plain laws. Condition: what each theorem names.
-/
import Derived.Test.YtadofbbpfgmclaaGreatDoorS0
import Derived.Test.YtadofbbpfgmclaaGreatDoorZTBH17
import Derived.IntWalk
set_option linter.unusedVariables false
set_option linter.unusedSimpArgs false
set_option maxRecDepth 100000
set_option maxHeartbeats 4000000
namespace Go.Proofs.YtadofbbpfgmclaaGreatDoor
open Go.Proofs.Tryz
namespace HdL
open Go Go.RowKit Go.Shelf OctetS IdentS EntS OctP OctG IdentP EntP EventC ShaA Steps KeyA KeyS KeyI KeyK TreeA EntK BookA EntL WireT Lift
def gH : ByteArray := bsOf HdK.G
def hA (ep : Nat) (s : ByteArray) : Array Value := hdA rB (ep : Int) 5 HdK.sm s
/-! ### The ring's root -/
theorem Ring_Root (w0 w : World) (R n : Nat) (v : Value) (hR : RingAt w0 w R sS 1 n v) : Calls Tryz.prog 16 #[.pointer (some ⟨R, 0, none⟩)] w (RB (.agg (D5 [115] 1).A) w) := by
 obtain ⟨Rt, hRte⟩ := nXe ((D5 [115] 1).A)
 have HRtS := lh (show (Tryz.prog.info? 27).map (·.size) = some Rt.size by rw [hRte]; exact H32.info _)
 have HRtN := lh (show 32 = Rt.size by rw [hRte, H32.size])
 have HRtO := lh (show Rt.all (·.oneCell') = true by rw [hRte]; exact H32.one _)
 have hrow := hR.row
 have hrl := AB hrow
 have Hc0 : ∀ (j : Nat) (u : Value), Rt.toList[j]? = some u → w.cell? ⟨R, 4 + j, none⟩ = some u := by intro j u hu; rw [AO hrow, sS_bl, Fu, ← hRte, ← hu]; simp
 obtain ⟨Z, hZ⟩ := nXe (CV.A)
 have HLIT : Hid (zq0 Z) := lh (by rw [hZ]; unfold zq0; kernel_rfl)
 have HZN : Hid (Z.size = 32) := lh (by rw [hZ]; kernel_rfl)
 rw [← hRte]
 obtain ⟨w1, hw1⟩ := nXe (w.alloc (.cells Z 27))
 have hb1 : Below w.heap.size w w1 := by rw [hw1]; exact (Below.refl _ w).alloc nR _
 have HZ1 := lh (show w1.heap[w.heap.size]? = some (.cells Z 27 (0, 0)) by rw [hw1]; exact AL _ _)
 have hr1 := (hb1.block _ hrl).trans hrow
 have Hcc := lh (show ∀ (j : Nat) (u : Value), Rt.toList[j]? = some u → w1.cell? ⟨R, 4 + j, none⟩ = some u by intro j u hu; rw [AO hr1, ← AO hrow]; exact Hc0 j u hu)
 obtain ⟨cr1, fr1⟩ := AJ hr1
 obtain ⟨HBL1, HW1⟩ := l2h hb1 hw1
 clear hw1 hb1 hr1 hrow Hc0 hRte hZ hR
 go_enter func16, ntmps16
 go_wp2_with (first | (rw [HLIT.out, ← HW1.out]; refine Af rfl _ _ rfl R 4 rfl Rt Hcc.out underlying27 rfl HRtS.out ?_) | (refine Af rfl _ _ rfl R 4 rfl Rt Hcc.out underlying27 rfl HRtS.out ?_) | (refine AC rfl _ _ _ rfl w.heap.size Rt rfl rfl _ _ HZ1.out HRtS.out (by rw [HZN.out]; exact HRtN.out) HRtO.out ?_) | fail)
 intro wf hwf
 go_wp2
 refine bodyPost_ret (v := .agg Rt) (results_cell_row rfl _ _ w.heap.size _ Rt (0, 0) _ rfl (by rw [hwf.out]; exact AR HZ1.out) underlying27 rfl HRtS.out) rfl ⟨rfl, by rw [hwf.out]; exact AQ HBL1.out nR _⟩
end HdL
namespace PfK
open OctetS IdentS ShaS KeyS EntS WireS WireT BookA BkC BkF PfS EntK EntL TreeA
open NSha (bN)
set_option maxRecDepth 100000
def e0 (s : List UInt8) : Ent := ⟨rm, 0, 5, z32, [120], s⟩
def h0 (s : List UInt8) : Hd := ⟨rm, 0, 5, z32, s⟩
def te : List UInt8 := EntS.text (e0 [])
def th : List UInt8 := HdS.text (h0 [])
def ge : List UInt8 := Di [115] 1 0 te
def gh : List UInt8 := Di [115] 1 1 th
theorem te_of (s : List UInt8) : EntS.text (e0 s) = te := rfl
theorem th_of (s : List UInt8) : HdS.text (h0 s) = th := rfl
theorem ge_len : ge.length = 1121 := EY (by decide) _
theorem gh_len : gh.length = 1121 := EY (by decide) _
theorem right_e {s : List UInt8} (h : s.length ≤ 8192) : EntS.Right (e0 s) := ⟨room0, by show (0 : Int) ≤ 0; omega, by show (0 : Int) ≤ 4096; omega, by show (0 : Int) ≤ 5; omega, by show (5 : Int) ≤ 4096; omega, by show 1 ≤ 8192; omega, h⟩
theorem right_h {s : List UInt8} (h : s.length ≤ 8192) : HdS.Right (h0 s) := ⟨room0, by show (0 : Int) ≤ 0; omega, by show (0 : Int) ≤ 4096; omega, by show (0 : Int) ≤ 5; omega, by show (5 : Int) ≤ 4096; omega, h⟩
theorem te_len : te.length ≤ 8192 := by decide +kernel
theorem th_len : th.length ≤ 8192 := by decide +kernel
theorem says_te : says te = some (ofE (e0 [])) := by
 unfold says
 rw [show WireS.read te = some (e0 []) from EntB.read_text (right_e (by decide)) rfl]
theorem says_th : says th = some (h0 []) := by
 unfold says
 rw [show WireS.read th = none by decide +kernel]
 exact HdS.read_text (right_h (by decide)) rfl
theorem says_x : says [120] = none := by decide +kernel
theorem says_nil : says [] = none := by decide +kernel
theorem sums : ShaS.sum te ≠ z32 := by
 intro h
 have h1 : bN (ShaS.sum te) = bN z32 := by rw [h]
 rw [← NSha.sum_eq] at h1
 exact absurd h1 (by decide +kernel)
theorem sums' : (ofE (e0 [])).sum ≠ (h0 []).sum := by
 show ShaS.sum (EntS.text (e0 [])) ≠ z32
 rw [te_of]
 exact sums
theorem book_gr : EE [gr] = true := by decide
theorem find_2 : [gr].find? (Bt · 2 5) = some gr := by rw [List.find?_cons, show Bt gr 2 5 = true from found_yes 5 (by decide) (by decide)]
theorem find_1 : [gr].find? (Bt · 1 5) = none := by rw [List.find?_cons, show Bt gr 1 5 = false from found_no 5]; rfl
theorem root_gr : gr.rt.l = rootOf [115] 1 := KeyK.rootK_l _ _
theorem ver_e : BF [gr] 2 5 te ge = 0 := by
 unfold BF
 rw [if_pos book_gr, find_2]
 show verify gr.rt.l 1 te ge = 0
 rw [root_gr]
 exact Gu (by decide) (by decide) _ _
theorem ver_h : BF [gr] 2 5 th gh = 0 := by
 unfold BF
 rw [if_pos book_gr, find_2]
 show verify gr.rt.l 1 th gh = 0
 rw [root_gr]
 exact Gu (by decide) (by decide) _ _
theorem ver_no (t s : List UInt8) : BF [gr] 1 5 t s = 3 := by
 unfold BF
 rw [if_pos book_gr, find_1]
def p0 (n : Int) : Pf := ⟨n, te, ge, th, gh⟩
theorem IK {n : Int} (h0 : 0 ≤ n) (h1 : n ≤ 63) : Ct (p0 n) = true := CX.2 ⟨h0, h1, te_len, by show ge.length ≤ 8192; rw [ge_len]; decide, th_len, by show gh.length ≤ 8192; rw [gh_len]; decide⟩
theorem place : (ofE (e0 [])).room = (h0 []).room ∧ (ofE (e0 [])).ep = (h0 []).ep ∧ (ofE (e0 [])).ix = (h0 []).ix := ⟨by show rm = rm; rfl, by show (0 : Int) = 0; rfl, by show (5 : Int) = 5; rfl⟩
theorem check_yes : Bg [gr] (p0 2) = 0 := by
 have a1 : says (p0 2).a = some (ofE (e0 [])) := says_te
 have a2 : says (p0 2).b = some (h0 []) := says_th
 have a3 : BF [gr] (p0 2).server (ofE (e0 [])).ix (p0 2).a (p0 2).sigA = 0 := ver_e
 have a4 : BF [gr] (p0 2).server (ofE (e0 [])).ix (p0 2).b (p0 2).sigB = 0 := ver_h
 have a5 := IK (n := 2) (by decide) (by decide)
 have a6 := place
 have a7 := sums'
 generalize p0 2 = p at a1 a2 a3 a4 a5 ⊢
 generalize ofE (e0 []) = x at a1 a3 a4 a6 a7
 generalize h0 [] = y at a2 a6 a7
 exact BV.2 ⟨a5, x, y, a1, a2, a6, a7, a3, a4⟩
theorem check_one : Bg [gr] (p0 1) = 3 := by
 unfold Bg
 rw [if_pos (IK (by decide) (by decide)), show says (p0 1).a = _ from says_te, show says (p0 1).b = _ from says_th]
 simp only [twoW]
 rw [if_pos place, if_neg sums', if_neg (by rw [show BF [gr] (p0 1).server (ofE (e0 [])).ix (p0 1).a (p0 1).sigA = 3 from ver_no _ _]; decide)]
 exact ver_no _ _
theorem check_same : Bg [gr] ⟨2, te, ge, te, ge⟩ = 4 := by
 unfold Bg
 rw [if_pos (CX.2 ⟨by decide, by decide, te_len, by show ge.length ≤ 8192; rw [ge_len]; decide, te_len, by show ge.length ≤ 8192; rw [ge_len]; decide⟩), show says (⟨2, te, ge, te, ge⟩ : Pf).a = _ from says_te]
 simp only [twoW]
 first | (rw [if_pos ⟨rfl, rfl, rfl⟩, if_pos rfl]) | simp
theorem check_nil : Bg [gr] ⟨0, [], [], [], []⟩ = 6 := by
 unfold Bg
 rw [if_pos (CX.2 ⟨by decide, by decide, by simp, by simp, by simp, by simp⟩), says_nil]
theorem parse_p : Cj (EB (p0 2)) = some (p0 2) := @parse_bytes (p0 2) (IK (by decide) (by decide))
end PfK
namespace WireP
open Go Go.RowKit Go.Shelf OctetS IdentS EntS WireS OctG OctP OctQ OctA IdentP IdentR EventP EventC EntP WireT Steps Wr WireA
theorem CG {w : World} {g k j : Nat} {cs : Array Value} (h : k ≠ g) : (w.setRow g cs).cell? ⟨k, j, none⟩ = w.cell? ⟨k, j, none⟩ := by
 simp only [World.cell?, CO cs h]
theorem p_Parse_bad (w : World) (s : ByteArray) (hs : s.size ≤ 140737488351232) {l : List (List UInt8)} {y : Int} (ha : all (bl s) = (l, y)) (hbad : y ≠ 0 ∨ (y = 0 ∧ l.length ≠ 5)) :
 Calls Tryz.prog 11 #[.string s] w (RB (pfV (Cj (bl s))) w) := by
 have hA := fun w => OctA.CJ w s (by unfold maxLen; omega)
 unfold BN at hA
 rw [ha] at hA
 have HALL := lh hA
 clear hA
 rw [parseP_bad ha (by omega)]
 show Calls _ _ _ w (RB (.tuple #[.agg pfZ, .int .i64 6]) w)
 obtain ⟨Z, hZ⟩ := nXe (pfZ)
 have HLIT : Hid ((#[.int .i64 0, .string ⟨#[]⟩, .string ⟨#[]⟩, .string ⟨#[]⟩, .string ⟨#[]⟩] : Array Value) = Z) := lh (by rw [hZ]; kernel_rfl)
 have HZN : Hid (Z.size = 5) := lh (by rw [hZ]; kernel_rfl)
 have HZS : Hid ((Tryz.prog.info? 24).map (·.size) = some Z.size) := lh (by rw [hZ]; kernel_rfl)
 have HZO : Hid (Z.all (·.oneCell') = true) := lh (by rw [hZ]; exact by simp [dlZ, pfZ, msZ, dlA, pfA, msA, byV, Cc, Value.oneCell'])
 rw [← hZ]
 obtain ⟨w0, hw0⟩ := nXe (w.alloc (.cells Z 24))
 have hb0 : Below w.heap.size w w0 := by rw [hw0]; exact bAx
 have HX0 : Hid (w0.heap[w.heap.size]? = some (.cells Z 24 (0, 0))) := lh (by rw [hw0]; exact AL _ _)
 have lX0 := AB HX0.out
 obtain ⟨HBL0, HW0⟩ := l2h hb0 hw0
 clear hw0 hb0 hZ
 have hcase : (y != 0) = true ∨ (y = 0 ∧ ((l.length : Int) != 5) = true) := by
  rcases hbad with h | ⟨h0, h⟩
  ·exact .inl (by simpa using h)
  ·exact .inr ⟨h0, by simp; omega⟩
 clear hbad ha
 rcases hcase with hy | ⟨rfl, hy⟩
 all_goals
  go_enter func11, ntmps11
  go_wp2_with fail
  rw [HLIT.out, ← HW0.out]
  refine (HALL.out w0).mono ?_
  rintro e w1 ⟨v, rfl, hl, hb⟩
  obtain ⟨av, cap, rfl, _, _⟩ := (Sl.ofOwn hl).form
  clear hl
  have HX1 := lh ((hb.block _ lX0).trans HX0.out)
  have lX1 := AB HX1.out
  have HBL1 := tbB HBL0 hb
  clear hb 
  clear lX0
  go_wp2_with (first | (refine AC rfl _ _ _ rfl w.heap.size Z rfl (by rw [← HLIT.out]; rfl) _ _ HX1.out HZS.out rfl HZO.out ?_) | fail)
  intro wf hwf
  go_wp2
  refine bodyPost_ret (v := .tuple #[.agg Z, .int .i64 6]) (AV rfl _ _ w.heap.size 24 Z (0, 0) _ rfl (by rw [hwf.out]; exact AR HX1.out) underlying24 rfl HZS.out rfl) rfl ⟨rfl, by rw [hwf.out]; exact AQ HBL1.out nR _⟩
theorem p_Parse_no (w : World) (s : ByteArray) (hs : s.size ≤ 140737488351232) {n a x b y : List UInt8} (ha : all (bl s) = ([n, a, x, b, y], 0)) (hno : small 63 n = none) :
 Calls Tryz.prog 11 #[.string s] w (RB (pfV (Cj (bl s))) w) := by
 have hA := fun w => OctA.CJ w s (by unfold maxLen; omega)
 unfold BN at hA
 rw [ha] at hA
 have HALL := lh hA
 clear hA
 obtain ⟨N, hN⟩ := nXe (bsOf n)
 have bN : bl N = n := by rw [hN, AU]
 have zN : N.size ≤ 8192 := by rw [hN]; exact AZ ha _ (by simp)
 have HN := lh hN
 obtain ⟨A, hA⟩ := nXe (bsOf a)
 have bA : bl A = a := by rw [hA, AU]
 have zA : A.size ≤ 8192 := by rw [hA]; exact AZ ha _ (by simp)
 have HA := lh hA
 obtain ⟨X, hX⟩ := nXe (bsOf x)
 have bX : bl X = x := by rw [hX, AU]
 have zX : X.size ≤ 8192 := by rw [hX]; exact AZ ha _ (by simp)
 have HX := lh hX
 obtain ⟨D, hD⟩ := nXe (bsOf b)
 have bD : bl D = b := by rw [hD, AU]
 have zD : D.size ≤ 8192 := by rw [hD]; exact AZ ha _ (by simp)
 have HD := lh hD
 obtain ⟨Y, hY⟩ := nXe (bsOf y)
 have bY : bl Y = y := by rw [hY, AU]
 have zY : Y.size ≤ 8192 := by rw [hY]; exact AZ ha _ (by simp)
 have HY := lh hY
 obtain ⟨m, u, q, hg⟩ : ∃ m u q, Aa (bl N) = (m, u, q) := ⟨_, _, _, rfl⟩
 have HG := lh (fun w => Bb w N (by unfold maxLen; omega) hg)
 have hmm := Ee hg
 unfold Av at hmm
 rw [bN] at hg
 have hcase : (q != 0) = true ∨ (q = 0 ∧ u < N.size) ∨ (q = 0 ∧ u = N.size ∧ 63 < m) := by
  rcases C8 63 hg with ⟨h, h'⟩ | ⟨h, h1, h'⟩ | ⟨h, h1, h2, h3, h'⟩ | ⟨h, h1, h2, h3, h'⟩
  ·exact .inl (by simpa using h)
  ·exact .inr (.inl ⟨h, by rw [hN, AY]; exact h1⟩)
  ·exact .inr (.inr ⟨h, by rw [hN, AY]; exact h1, h2⟩)
  ·rw [hno] at h'; cases h'
 rw [Et ha, hno]
 show Calls _ _ _ w (RB (.tuple #[.agg pfZ, .int .i64 6]) w)
 obtain ⟨Z, hZ⟩ := nXe (pfZ)
 have HLIT : Hid ((#[.int .i64 0, .string ⟨#[]⟩, .string ⟨#[]⟩, .string ⟨#[]⟩, .string ⟨#[]⟩] : Array Value) = Z) := lh (by rw [hZ]; kernel_rfl)
 have HZN : Hid (Z.size = 5) := lh (by rw [hZ]; kernel_rfl)
 have HZS : Hid ((Tryz.prog.info? 24).map (·.size) = some Z.size) := lh (by rw [hZ]; kernel_rfl)
 have HZO : Hid (Z.all (·.oneCell') = true) := lh (by rw [hZ]; exact by simp [dlZ, pfZ, msZ, dlA, pfA, msA, byV, Cc, Value.oneCell'])
 rw [← hZ]
 obtain ⟨w0, hw0⟩ := nXe (w.alloc (.cells Z 24))
 have hb0 : Below w.heap.size w w0 := by rw [hw0]; exact bAx
 have HX0 : Hid (w0.heap[w.heap.size]? = some (.cells Z 24 (0, 0))) := lh (by rw [hw0]; exact AL _ _)
 have lX0 := AB HX0.out
 obtain ⟨HBL0, HW0⟩ := l2h hb0 hw0
 clear hw0 hb0 hZ
 clear ha hg hno hN bN hA bA hX bX hD bD hY bY
 rcases hcase with hq | ⟨rfl, hq⟩ | ⟨rfl, rfl, hq⟩
 all_goals
  go_enter func11, ntmps11
  go_wp2_with fail
  rw [HLIT.out, ← HW0.out]
  refine (HALL.out w0).mono ?_
  rintro e w1 ⟨v, rfl, hl, hb⟩
  obtain ⟨B, cap, rfl, hB, hc⟩ := Cw 5 hl rfl (by omega)
  clear hl
  have hc0_1 : w1.cell? ⟨B, 0, none⟩ = some (.string N) := by rw [HN.out]; exact hc 0 _ rfl
  have hBX : ¬ w.heap.size = B := by omega
  clear hc hB
  have HX1 := lh ((hb.block _ lX0).trans HX0.out)
  have lX1 := AB HX1.out
  have HBL1 := tbB HBL0 hb
  clear hb 
  clear lX0
  have hc0x1 := hc0_1
  clear hc0_1
  go_wp2_with fail
  refine (HG.out w1).mono ?_
  rintro e wz ⟨rfl, rfl⟩
  go_wp2_with (first | (refine AC rfl _ _ _ rfl w.heap.size Z rfl (by rw [← HLIT.out]; rfl) _ _ HX1.out HZS.out rfl HZO.out ?_) | fail)
  intro wf hwf
  go_wp2
  refine bodyPost_ret (v := .tuple #[.agg Z, .int .i64 6]) (AV rfl _ _ w.heap.size 24 Z (0, 0) _ rfl (by rw [hwf.out]; exact AR HX1.out) underlying24 rfl HZS.out rfl) rfl ⟨rfl, by rw [hwf.out]; exact AQ HBL1.out nR _⟩
theorem p_Parse_yes (w : World) (s : ByteArray) (hs : s.size ≤ 140737488351232) {n a x b y : List UInt8} (ha : all (bl s) = ([n, a, x, b, y], 0)) {z : Nat} (hyes : small 63 n = some z) :
 Calls Tryz.prog 11 #[.string s] w (RB (pfV (Cj (bl s))) w) := by
 have hA := fun w => OctA.CJ w s (by unfold maxLen; omega)
 unfold BN at hA
 rw [ha] at hA
 have HALL := lh hA
 clear hA
 obtain ⟨N, hN⟩ := nXe (bsOf n)
 have bN : bl N = n := by rw [hN, AU]
 have zN : N.size ≤ 8192 := by rw [hN]; exact AZ ha _ (by simp)
 have HN := lh hN
 obtain ⟨A, hA⟩ := nXe (bsOf a)
 have bA : bl A = a := by rw [hA, AU]
 have zA : A.size ≤ 8192 := by rw [hA]; exact AZ ha _ (by simp)
 have HA := lh hA
 obtain ⟨X, hX⟩ := nXe (bsOf x)
 have bX : bl X = x := by rw [hX, AU]
 have zX : X.size ≤ 8192 := by rw [hX]; exact AZ ha _ (by simp)
 have HX := lh hX
 obtain ⟨D, hD⟩ := nXe (bsOf b)
 have bD : bl D = b := by rw [hD, AU]
 have zD : D.size ≤ 8192 := by rw [hD]; exact AZ ha _ (by simp)
 have HD := lh hD
 obtain ⟨Y, hY⟩ := nXe (bsOf y)
 have bY : bl Y = y := by rw [hY, AU]
 have zY : Y.size ≤ 8192 := by rw [hY]; exact AZ ha _ (by simp)
 have HY := lh hY
 obtain ⟨m, u, q, hg⟩ : ∃ m u q, Aa (bl N) = (m, u, q) := ⟨_, _, _, rfl⟩
 have HG := lh (fun w => Bb w N (by unfold maxLen; omega) hg)
 have hmm := Ee hg
 unfold Av at hmm
 rw [bN] at hg
 obtain ⟨rfl, rfl, rfl, h63⟩ : q = 0 ∧ u = N.size ∧ m = z ∧ m ≤ 63 := by
  rcases C8 63 hg with ⟨h, h'⟩ | ⟨h, h1, h'⟩ | ⟨h, h1, h2, h3, h'⟩ | ⟨h, h1, h2, h3, h'⟩
  ·rw [hyes] at h'; cases h'
  ·rw [hyes] at h'; cases h'
  ·rw [hyes] at h'; cases h'
  ·rw [hyes] at h'; cases h'; exact ⟨h, by rw [hN, AY]; exact h1, rfl, h2⟩
 rw [Et ha, hyes]
 show Calls _ _ _ w (RB (.tuple #[.agg (pfA m (bsOf a) (bsOf x) (bsOf b) (bsOf y)), .int .i64 0]) w)
 rw [← hA, ← hX, ← hD, ← hY]
 obtain ⟨Z, hZ⟩ := nXe (pfZ)
 have HLIT : Hid ((#[.int .i64 0, .string ⟨#[]⟩, .string ⟨#[]⟩, .string ⟨#[]⟩, .string ⟨#[]⟩] : Array Value) = Z) := lh (by rw [hZ]; kernel_rfl)
 have HZN : Hid (Z.size = 5) := lh (by rw [hZ]; kernel_rfl)
 have HZS : Hid ((Tryz.prog.info? 24).map (·.size) = some Z.size) := lh (by rw [hZ]; kernel_rfl)
 have HZO : Hid (Z.all (·.oneCell') = true) := lh (by rw [hZ]; exact by simp [dlZ, pfZ, msZ, dlA, pfA, msA, byV, Cc, Value.oneCell'])
 obtain ⟨w0, hw0⟩ := nXe (w.alloc (.cells Z 24))
 have hb0 : Below w.heap.size w w0 := by rw [hw0]; exact bAx
 have HX0 : Hid (w0.heap[w.heap.size]? = some (.cells Z 24 (0, 0))) := lh (by rw [hw0]; exact AL _ _)
 have lX0 := AB HX0.out
 obtain ⟨HBL0, HW0⟩ := l2h hb0 hw0
 clear hw0 hb0 hZ
 obtain ⟨E1, hE1⟩ := nXe (pfA m A X D Y)
 have hE1n : E1.size = 5 := by rw [hE1]; rfl
 have HE1S : Hid ((Tryz.prog.info? 24).map (·.size) = some E1.size) := lh (by rw [hE1n, ← HZN.out]; exact HZS.out)
 have HE1Z : Hid (Z.size = E1.size) := lh (by rw [hE1n, HZN.out])
 have HE1N : Hid (5 = E1.size) := lh hE1n.symm
 have HE1O : Hid (E1.all (·.oneCell') = true) := lh (by rw [hE1]; simp [pfA, Value.oneCell'])
 have HE1 := lh hE1
 clear hE1n
 rw [← hE1]
 clear ha hg hyes hE1 hN bN hA bA hX bX hD bD hY bY
 go_enter func11, ntmps11
 go_wp2_with fail
 rw [HLIT.out, ← HW0.out]
 refine (HALL.out w0).mono ?_
 rintro e w1 ⟨v, rfl, hl, hb⟩
 obtain ⟨B, cap, rfl, hB, hc⟩ := Cw 5 hl rfl (by omega)
 clear hl
 have hc0_1 : w1.cell? ⟨B, 0, none⟩ = some (.string N) := by rw [HN.out]; exact hc 0 _ rfl
 have hc1_1 : w1.cell? ⟨B, 1, none⟩ = some (.string A) := by rw [HA.out]; exact hc 1 _ rfl
 have hc2_1 : w1.cell? ⟨B, 2, none⟩ = some (.string X) := by rw [HX.out]; exact hc 2 _ rfl
 have hc3_1 : w1.cell? ⟨B, 3, none⟩ = some (.string D) := by rw [HD.out]; exact hc 3 _ rfl
 have hc4_1 : w1.cell? ⟨B, 4, none⟩ = some (.string Y) := by rw [HY.out]; exact hc 4 _ rfl
 have hBX : ¬ w.heap.size = B := by omega
 clear hc hB
 have HX1 := lh ((hb.block _ lX0).trans HX0.out)
 have lX1 := AB HX1.out
 have HBL1 := tbB HBL0 hb
 clear hb 
 clear lX0
 have hc0x1 := hc0_1
 clear hc0_1
 have hc1x1 := hc1_1
 clear hc1_1
 have hc2x1 := hc2_1
 clear hc2_1
 have hc3x1 := hc3_1
 clear hc3_1
 have hc4x1 := hc4_1
 clear hc4_1
 go_wp2_with fail
 refine (HG.out w1).mono ?_
 rintro e wz ⟨rfl, rfl⟩
 go_wp2_with fail
 refine wp_region_noPanic ?_
 refine Wr.BJ (S := (fun W => W.cell? ⟨B, 1, none⟩ = some (.string A) ∧ W.cell? ⟨B, 2, none⟩ = some (.string X) ∧ W.cell? ⟨B, 3, none⟩ = some (.string D) ∧ W.cell? ⟨B, 4, none⟩ = some (.string Y))) (K := []) (by kernel_rfl) ?_
 change Wr.Aq _ _ _ _ _ _ _ _ _ (World.drew w1)
 have hBL0 : Below w1.heap.size w1 (World.drew w1) := Bl.drew (Below.refl _ _)
 have hS0 : (World.drew w1).cell? ⟨B, 1, none⟩ = some (.string A) ∧ (World.drew w1).cell? ⟨B, 2, none⟩ = some (.string X) ∧ (World.drew w1).cell? ⟨B, 3, none⟩ = some (.string D) ∧ (World.drew w1).cell? ⟨B, 4, none⟩ = some (.string Y) := ⟨AA hBL0 hc1x1, AA hBL0 hc2x1, AA hBL0 hc3x1, AA hBL0 hc4x1⟩
 refine Wr.tkK (i := 0) (v := ?_) rfl (.inl ⟨by rfl, ?_⟩) hS0 ?_
 rotate_left
 ·intro wq hSw
  obtain ⟨q0, q1, q2, q3⟩ := hSw
  go_simp
  rfl
 simp only [Act.put, sxx]
 refine Wr.tkK (i := 1) (v := (.int .i64 m)) rfl (.inl ⟨by rfl, ?_⟩) hS0 ?_
 ·intro wq hSw
  obtain ⟨q0, q1, q2, q3⟩ := hSw
  have hwm : IntKind.i64.wrap (m : Int) = m := IntWalk.i64_in _ (by omega)
  (go_simp; first | done | rfl | rw [hwm])
 simp only [Act.put, sxx]
 refine Wr.tkK (i := 2) (v := ?_) rfl (.inl ⟨by rfl, ?_⟩) hS0 ?_
 rotate_left
 ·intro wq hSw
  obtain ⟨q0, q1, q2, q3⟩ := hSw
  go_simp
  rfl
 simp only [Act.put, sxx]
 refine Wr.tkK (i := 3) (v := ?_) rfl (.inl ⟨by rfl, ?_⟩) hS0 ?_
 rotate_left
 ·intro wq hSw
  obtain ⟨q0, q1, q2, q3⟩ := hSw
  go_simp
  rfl
 simp only [Act.put, sxx]
 refine Wr.tkK (i := 4) (v := ?_) rfl (.inl ⟨by rfl, ?_⟩) hS0 ?_
 rotate_left
 ·intro wq hSw
  obtain ⟨q0, q1, q2, q3⟩ := hSw
  go_simp
  rfl
 simp only [Act.put, sxx]
 refine Wr.tkK (i := 5) (v := ?_) rfl (.inl ⟨by rfl, ?_⟩) hS0 ?_
 rotate_left
 ·intro wq hSw
  obtain ⟨q0, q1, q2, q3⟩ := hSw
  go_simp
  rfl
 simp only [Act.put, sxx]
 refine Wr.tkK (i := 6) (v := ?_) rfl (.inl ⟨by rfl, ?_⟩) hS0 ?_
 rotate_left
 ·intro wq hSw
  obtain ⟨q0, q1, q2, q3⟩ := hSw
  go_simp
  rfl
 simp only [Act.put, sxx]
 refine Wr.tkK (i := 7) (v := ?_) rfl (.inl ⟨by rfl, ?_⟩) hS0 ?_
 rotate_left
 ·intro wq hSw
  obtain ⟨q0, q1, q2, q3⟩ := hSw
  go_simp
  rfl
 simp only [Act.put, sxx]
 refine Wr.tkK (i := 8) (v := ?_) rfl (.inl ⟨by rfl, ?_⟩) hS0 ?_
 rotate_left
 ·intro wq hSw
  obtain ⟨q0, q1, q2, q3⟩ := hSw
  go_simp
  rfl
 simp only [Act.put, sxx]
 refine Wr.tkK (i := 9) (v := ?_) rfl (.inl ⟨by rfl, ?_⟩) hS0 ?_
 rotate_left
 ·intro wq hSw
  obtain ⟨q0, q1, q2, q3⟩ := hSw
  go_simp
  rfl
 simp only [Act.put, sxx]
 refine Wr.tkK (i := 10) (v := ?_) rfl (.inl ⟨by rfl, ?_⟩) hS0 ?_
 rotate_left
 ·intro wq hSw
  obtain ⟨q0, q1, q2, q3⟩ := hSw
  go_simp
  rfl
 simp only [Act.put, sxx]
 refine Wr.tkK (i := 11) (v := ?_) rfl (.inl ⟨by rfl, ?_⟩) hS0 ?_
 rotate_left
 ·intro wq hSw
  obtain ⟨q0, q1, q2, q3⟩ := hSw
  go_simp
  rfl
 simp only [Act.put, sxx]
 refine Wr.tkK (i := 12) (v := ?_) rfl (.inl ⟨by rfl, ?_⟩) hS0 ?_
 rotate_left
 ·intro wq hSw
  obtain ⟨q0, q1, q2, q3⟩ := hSw
  go_simp
  rfl
 simp only [Act.put, sxx]
 refine Wr.tkK (i := 13) (v := ?_) rfl (.inl ⟨by rfl, ?_⟩) hS0 ?_
 rotate_left
 ·intro wq hSw
  obtain ⟨q0, q1, q2, q3⟩ := hSw
  go_simp
  rfl
 simp only [Act.put, sxx]
 refine Wr.Aw (i := 14) (v := .agg E1) rfl (by kernel_rfl) (fun _ _ _ h => h) (WrC.CR _ _ rfl (by rfl) E1 (by rw [HE1.out]; kernel_rfl)) hS0 ?_
 simp only [Act.put, sxx]
 refine Wr.Ac (i := 15) (by kernel_rfl) ?_
 refine WrC.BC rfl (by rfl) _ _ _ rfl w.heap.size E1 rfl rfl _ _ (show (World.drew w1).heap[w.heap.size]? = some (.cells Z 24 (0, 0)) from HX1.out) HE1S.out HE1Z.out HE1O.out ?_
 intro u1 hu1
 have hbX : Below w.heap.size w u1 := by rw [hu1.out]; exact AQ (HBL1.out.trans (hBL0.mono HBL1.out.size)) nR _
 have hyX : u1.heap[w.heap.size]? = some (.cells E1 24 (0, 0)) := by rw [hu1.out]; exact AR (show (World.drew w1).heap[w.heap.size]? = some (.cells Z 24 (0, 0)) from HX1.out)
 have hS1 : u1.cell? ⟨B, 1, none⟩ = some (.string A) ∧ u1.cell? ⟨B, 2, none⟩ = some (.string X) ∧ u1.cell? ⟨B, 3, none⟩ = some (.string D) ∧ u1.cell? ⟨B, 4, none⟩ = some (.string Y) := ⟨by rw [hu1.out]; exact (CG (by omega)).trans hS0.1, by rw [hu1.out]; exact (CG (by omega)).trans hS0.2.1, by rw [hu1.out]; exact (CG (by omega)).trans hS0.2.2.1, by rw [hu1.out]; exact (CG (by omega)).trans hS0.2.2.2⟩
 refine ⟨hS1, ?_⟩
 simp only [Act.put, sxx]
 refine Wr.tkK (i := 16) (v := ?_) rfl (.inl ⟨by rfl, ?_⟩) hS1 ?_
 rotate_left
 ·intro wq hSw
  obtain ⟨q0, q1, q2, q3⟩ := hSw
  go_simp
  rfl
 simp only [Act.put, sxx]
 refine Wr.Ai (by kernel_rfl) (NoPanic.normal ?_) _
 go_wp2
 refine bodyPost_ret (v := .tuple #[.agg E1, .int .i64 0]) (AV rfl _ _ w.heap.size 24 E1 (0, 0) _ rfl hyX underlying24 rfl HE1S.out rfl) rfl ⟨rfl, hbX⟩
theorem IU (w : World) (s : ByteArray) (hs : s.size ≤ 140737488351232) :
 Calls Tryz.prog 11 #[.string s] w (RB (pfV (Cj (bl s))) w) := by
 obtain ⟨l, y, ha⟩ : ∃ l y, all (bl s) = (l, y) := ⟨_, _, rfl⟩
 by_cases h0 : y = 0
 ·subst h0
  by_cases h2 : l.length = 5
  ·match l, h2, ha with
   | [n, a, x, b, y], _, ha =>
     cases h : small 63 n with
     | none => exact p_Parse_no w s hs ha h
     | some z => exact p_Parse_yes w s hs ha h
  ·exact p_Parse_bad w s hs ha (.inr ⟨rfl, h2⟩)
 ·exact p_Parse_bad w s hs ha (.inl h0)
end WireP
namespace PfL
open Go Go.RowKit Go.Shelf OctetS IdentS EntS OctG IdentP EntP EventC ShaA Steps KeyA KeyS KeyI KeyK TreeA WireS WireT BookA PfS PfA PfK EntK EntL
def teB : ByteArray := bsOf te
def thB : ByteArray := bsOf th
def geB : ByteArray := bsOf ge
def ghB : ByteArray := bsOf gh
def eA (s : ByteArray) : Array Value := entA rB 0 5 z32 xB s
def hA (s : ByteArray) : Array Value := hdA rB 0 5 z32 s
theorem eP (s : ByteArray) : EntP (eA s) rB 0 5 z32 xB s := ⟨rfl, rfl⟩
theorem hP (s : ByteArray) : HdP (hA s) rB 0 5 z32 s := ⟨rfl, rfl⟩
theorem of_e (s : List UInt8) : Bc rB 0 5 z32 xB (bsOf s) = e0 s := by
 unfold Bc rB xB
 rw [AU, AU, AU]
 rfl
theorem of_h (s : List UInt8) : hdOf rB 0 5 z32 (bsOf s) = h0 s := by
 unfold hdOf rB
 rw [AU, AU]
 rfl
theorem teB_z : teB.size ≤ 8192 := by unfold teB; rw [AY]; exact te_len
theorem thB_z : thB.size ≤ 8192 := by unfold thB; rw [AY]; exact th_len
theorem geB_z : geB.size = 1121 := by unfold geB; rw [AY]; exact ge_len
theorem ghB_z : ghB.size = 1121 := by unfold ghB; rw [AY]; exact gh_len
theorem m_ge : geB.size ≤ maxLen := by rw [geB_z]; decide
theorem m_gh : ghB.size ≤ maxLen := by rw [ghB_z]; decide
theorem chk_e {s : List UInt8} (h : s.length ≤ 8192) : EntS.A9 (Bc rB 0 5 z32 xB (bsOf s)) = true := by
 rw [of_e]
 exact EntS.BV.2 (right_e h)
theorem chk_h {s : List UInt8} (h : s.length ≤ 8192) : Ck (hdOf rB 0 5 z32 (bsOf s)) = true := by
 rw [of_h]
 exact HdS.BV.2 (right_h h)
theorem Sign_e (w0 w : World) (R : Nat) (v : Value) (h : RingAt w0 w R sS 1 0 v) (hk : Al w) (hv : Ag w) :
 Calls Tryz.prog 18 #[.pointer (some ⟨R, 0, none⟩), .agg (eA nB)] w fun e' w' => e' = .returned (.tuple #[.agg (eA geB), .int .i64 0]) ∧ RingAt w0 w' R sS 1 1 v ∧ Ext (fun k => k = R) w w' := by
 have h1 := EntW.Fb w R sS 1 0 v _ (by decide) (by decide) (by decide) h.row h.lv.sl (fun k hk => (h.lv.lt k hk).2) hk (eA nB) rB 0 5 z32 xB nB (eP nB) hv rB_z xB_z nB_z (chk_e (s := []) (by decide))
 rw [show nB = bsOf [] from rfl, of_e, te_of, sS_bl] at h1
 refine h1.mono ?_
 rintro e w' ⟨rfl, hr, hE⟩
 exact ⟨rfl, ⟨hr, h.lv.ext hE (fun k hk => by have := h.sep k hk; omega), h.ge, h.sep⟩, hE⟩
theorem Sign_h (w0 w : World) (R : Nat) (v : Value) (h : RingAt w0 w R sS 1 1 v) (hk : Al w) (hv : Ag w) :
 Calls Tryz.prog 19 #[.pointer (some ⟨R, 0, none⟩), .agg (hA nB)] w fun e' w' => e' = .returned (.tuple #[.agg (hA ghB), .int .i64 0]) ∧ RingAt w0 w' R sS 1 2 v ∧ Ext (fun k => k = R) w w' := by
 have h1 := HdT.P_Sign w R sS 1 1 v _ (by decide) (by decide) (by decide) h.row h.lv.sl (fun k hk => (h.lv.lt k hk).2) hk (hA nB) rB 0 5 z32 nB (hP nB) hv rB_z nB_z (chk_h (s := []) (by decide))
 rw [show nB = bsOf [] from rfl, of_h, th_of, sS_bl] at h1
 refine h1.mono ?_
 rintro e w' ⟨rfl, hr, hE⟩
 exact ⟨rfl, ⟨hr, h.lv.ext hE (fun k hk => by have := h.sep k hk; omega), h.ge, h.sep⟩, hE⟩
theorem Text_e (w : World) (hv : Ag w) : Calls Tryz.prog 20 #[.agg (eA geB)] w (RB (.tuple #[.string teB, .int .i64 0]) w) := by
 have h := EntP.Cs w (eA geB) rB 0 5 z32 xB geB (eP geB) hv rB_z xB_z m_ge
 unfold EntS.textOf at h
 rw [show geB = bsOf ge from rfl, chk_e (s := ge) (by rw [ge_len]; decide), if_pos rfl, of_e, te_of] at h
 exact h
theorem Text_h (w : World) (hv : Ag w) : Calls Tryz.prog 21 #[.agg (hA ghB)] w (RB (.tuple #[.string thB, .int .i64 0]) w) := by
 have h := HdT.P_Text w (hA ghB) rB 0 5 z32 ghB (hP ghB) hv rB_z m_gh
 unfold HdS.textOf at h
 rw [show ghB = bsOf gh from rfl, chk_h (s := gh) (by rw [gh_len]; decide), if_pos rfl, of_h, th_of] at h
 exact h
theorem Says_h (w : World) (hv : Ag w) (hk : Al w) : Calls Tryz.prog 7 #[.string thB] w (RB (.tuple #[.agg (hA nB), .int .i64 0]) w) := by
 have h := G8 w thB (by have := thB_z; omega) hv hk
 rw [show bl thB = th from AU _, says_th] at h
 exact h
theorem Says_x (w : World) (hv : Ag w) (hk : Al w) : Calls Tryz.prog 7 #[.string ⟨#[120]⟩] w (RB (.tuple #[.agg hdZ, .int .i64 6]) w) := by
 have h := G8 w ⟨#[120]⟩ (by decide) hv hk
 rw [show bl ⟨#[120]⟩ = [120] from rfl, says_x] at h
 exact h
def uB : ByteArray := bsOf (EB (p0 2))
theorem of_p (n : Int) : pfOf n teB geB thB ghB = p0 n := by
 unfold pfOf teB geB thB ghB p0
 rw [AU, AU, AU, AU]
theorem Bytes_p (w : World) : Calls Tryz.prog 9 #[.agg (pfA 2 teB geB thB ghB)] w (RB (.tuple #[.string uB, .int .i64 0]) w) := by
 have h := Ik w _ 2 teB geB thB ghB rfl (by have := teB_z; omega) m_ge (by have := thB_z; unfold maxLen; omega) m_gh
 rw [of_p, IK (by decide) (by decide), if_pos rfl, if_pos rfl] at h
 exact h
theorem uB_z : uB.size ≤ 140737488351232 := by
 unfold uB
 rw [AY]
 have h : ∀ (l : List (List UInt8)), (∀ t ∈ l, t.length ≤ 8192) → l.length ≤ 5 → (OctetS.list l).length ≤ 100000 := by
  intro l hl h5
  unfold OctetS.list
  have h1 := EntX.F6 l hl
  have h2 : (OctetS.num l.length).length ≤ 2 := OctetS.CF (by omega)
  have h3 : 8194 * l.length ≤ 8194 * 5 := Nat.mul_le_mul_left _ h5
  simp only [List.length_append]
  omega
 have h6 := h (Dp (p0 2)) ((Ca.1 (Ef (IK (by decide) (by decide)))).2) (by simp [Dp])
 exact Nat.le_trans h6 (by decide)
theorem Parse_u (w : World) : Calls Tryz.prog 11 #[.string uB] w (RB (.tuple #[.agg (pfA 2 teB geB thB ghB), .int .i64 0]) w) := by
 have h := WireP.IU w uB uB_z
 rw [show bl uB = EB (p0 2) from AU _, parse_p] at h
 exact h
theorem Check_n (w : World) (v : Value) (n : Int) (x : Int) (hx : Bg [gr] (p0 n) = x) (hv : Ag w) (hk : Al w) (hg : Sl w v 36 1 ([gr].flatMap Gr'.cs)) : Calls Tryz.prog 13 #[v, .agg (pfA n teB geB thB ghB)] w (RB (.int .i64 x) w) := by
 have h := PfC.Ew w _ n teB geB thB ghB rfl (by have := teB_z; omega) m_ge (by have := thB_z; unfold maxLen; omega) m_gh v [gr] hg hv hk
 rw [of_p, hx] at h
 exact h
theorem Check_s (w : World) (v : Value) (hv : Ag w) (hk : Al w) (hg : Sl w v 36 1 ([gr].flatMap Gr'.cs)) : Calls Tryz.prog 13 #[v, .agg (pfA 2 teB geB teB geB)] w (RB (.int .i64 4) w) := by
 have h := PfC.Ew w _ 2 teB geB teB geB rfl (by have := teB_z; omega) m_ge (by have := teB_z; unfold maxLen; omega) m_ge v [gr] hg hv hk
 rw [show pfOf 2 teB geB teB geB = ⟨2, te, ge, te, ge⟩ by unfold pfOf teB geB; rw [AU, AU], check_same] at h
 exact h
theorem Check_z (w : World) (v : Value) (hv : Ag w) (hk : Al w) (hg : Sl w v 36 1 ([gr].flatMap Gr'.cs)) : Calls Tryz.prog 13 #[v, .agg pfZ] w (RB (.int .i64 6) w) := by
 have h := PfC.Ew w _ 0 ⟨#[]⟩ ⟨#[]⟩ ⟨#[]⟩ ⟨#[]⟩ rfl (by decide) (by decide) (by decide) (by decide) v [gr] hg hv hk
 rw [show pfOf 0 ⟨#[]⟩ ⟨#[]⟩ ⟨#[]⟩ ⟨#[]⟩ = ⟨0, [], [], [], []⟩ from rfl, check_nil] at h
 exact h
end PfL
end Go.Proofs.YtadofbbpfgmclaaGreatDoor
