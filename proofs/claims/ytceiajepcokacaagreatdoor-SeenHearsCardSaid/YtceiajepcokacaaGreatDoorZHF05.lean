/-
  WHAT IS PROVED: contracts and plain laws. Condition: each names its own.
-/
import Derived.Test.YtceiajepcokacaaGreatDoorS0
import Derived.Test.YtceiajepcokacaaGreatDoorZHF02
import Derived.Test.YtceiajepcokacaaGreatDoorShelf
set_option linter.unusedVariables false
set_option linter.unusedSimpArgs false
set_option maxRecDepth 100000
set_option maxHeartbeats 4000000
namespace Go.Proofs.YtceiajepcokacaaGreatDoor
open Go.Proofs.Tryz
namespace IdentP
open Go Go.RowKit IdentS OctP
attribute [-go_sem] Builtin.append_
structure Am (w : World) : Prop where
 s1 : w.cell? ⟨2, 1, none⟩ = some (.string (bsOf [64]))
 s2 : w.cell? ⟨2, 2, none⟩ = some (.string (bsOf [33]))
 e1 : ∃ ev, w.cell? ⟨4, 0, none⟩ = some ev ∧ (ev = .nilIface ∨ ∃ te pe, ev = .iface te pe)
 e2 : ∃ ev, w.cell? ⟨5, 0, none⟩ = some ev ∧ (ev = .nilIface ∨ ∃ te pe, ev = .iface te pe)
theorem Am.below {w w' : World} (h : Am w) (hb : Below w.heap.size w w') : Am w' := by
 refine ⟨(hb.cell (World.block_lt_of_cell? w _ h.s1)).trans h.s1, (hb.cell (World.block_lt_of_cell? w _ h.s2)).trans h.s2, ?_, ?_⟩
 ·obtain ⟨ev, h1, h2⟩ := h.e1
  exact ⟨ev, (hb.cell (World.block_lt_of_cell? w _ h1)).trans h1, h2⟩
 ·obtain ⟨ev, h1, h2⟩ := h.e2
  exact ⟨ev, (hb.cell (World.block_lt_of_cell? w _ h1)).trans h1, h2⟩
theorem letter_ok (w : World) (c : UInt8) : Calls Tryz.prog 150 #[.int .u8 c.toNat] w fun e w' => e = .returned (.bool (Dh c)) ∧ w = w' := by
 have hc := c.toNat_lt
 go_enter func150, ntmps150
 go_wp2
 all_goals
  go_ret
  refine ⟨?_, rfl⟩
  congr 2
  simp [Dh] at *
  omega
theorem GL (w : World) (s : ByteArray) (hs : s.size ≤ maxLen) : Calls Tryz.prog 138 #[.string s] w fun e w' => e = .returned (.bool (DJ (bl s))) ∧ w = w' := by
 unfold maxLen at hs
 go_enter func138, ntmps138
 go_wp2
 go_loop [6] (fun i => ∃ k : Nat, i = .int .i64 k ∧ k ≤ s.size ∧ ((bl s).take k).all Dh = true) (fun i => s.size - (intOf i).toNat)
 case atStart => exact ⟨0, rfl, by omega, rfl⟩
 case round =>
  obtain ⟨k, rfl, hk, hall⟩ := hrel
  have Hall := lh hall
  clear hall
  by_cases hlt : k < s.size
  ·have hd := Dv s k hlt
   have Hd := lh hd
   clear hd
   go_wp2_with fail
   refine (letter_ok w s[k]).mono ?_
   rintro e w' ⟨rfl, rfl⟩
   cases hl : Dh s[k]
   ·have hno : DJ (bl s) = false := by
     unfold DJ
     rw [← List.take_append_drop k (bl s), Hd.out, List.all_append, List.all_cons, hl]
     simp
    obtain ⟨Hno, Hl⟩ := l2h hno hl
    clear hno hl
    go_wp2
    go_ret
    exact ⟨by rw [Hno.out]; rfl, rfl⟩
   ·have Hl := lh hl
    clear hl
    go_wp2
    go_round
    case rel =>
     refine ⟨k + 1, by go_num, by omega, ?_⟩
     have hk2 : k < (bl s).length := by rw [AP]; exact hlt
     have hg := bl_get s k hlt
     rw [List.getElem?_eq_getElem hk2] at hg
     rw [List.take_succ_eq_append_getElem hk2, List.all_append, Hall.out, Option.some.inj hg]
     simp [Hl.out]
    case measure => simp [intOf]; omega
  ·obtain rfl : k = s.size := by omega
   rw [List.take_of_length_le (by rw [AP]; omega)] at Hall
   by_cases h0 : s.size = 0
   ·have he : s = ByteArray.empty := by
     have hb : bl s = [] := List.eq_nil_of_length_eq_zero (by rw [AP]; exact h0)
     rw [← CG s, hb]
     rfl
    subst he
    go_wp2
    go_ret
    exact ⟨rfl, rfl⟩
   ·have hemp : s.toList.isEmpty = false := by
     rw [BV, List.isEmpty_eq_false_iff]
     intro e
     have := AP s
     rw [e] at this
     simp at this
     omega
    have hn0 : ¬ s.toList = [] := by
     intro e
     rw [e] at hemp
     cases hemp
    have hfin : DJ (bl s) = decide (s.size ≤ 16) := by
     unfold DJ
     rw [Hall.out, AP]
     rw [BV] at hemp
     rw [hemp]
     simp
    have Hfin := lh hfin
    clear hfin
    by_cases h16 : s.size ≤ 16
    all_goals
     go_wp2
     go_ret
     exact ⟨by rw [Hfin.out]; simp [h16]; omega, rfl⟩
def QY (s : ByteArray) (c : UInt8) : Bool := Go.Lib.hasPrefix s.data.toList (bsOf [c]).data.toList
theorem OT (c d : UInt8) (r : List UInt8) : Go.Lib.hasPrefix (d :: r) (bsOf [c]).data.toList = (c == d) := by
 simp [Go.Lib.hasPrefix, bsOf, List.isPrefixOf]
theorem O0 (s : ByteArray) : (QY s 64 = true ∧ kindOf (bl s) = 1) ∨ (QY s 64 = false ∧ QY s 33 = true ∧ kindOf (bl s) = 2) ∨ (QY s 64 = false ∧ QY s 33 = false ∧ kindOf (bl s) = 0) := by
 unfold QY bl
 cases s.data.toList with
 | nil => exact .inr (.inr ⟨rfl, rfl, rfl⟩)
 | cons d r =>
   rw [OT, OT]
   by_cases h1 : d = 64
   ·subst h1
    exact .inl ⟨rfl, rfl⟩
   ·by_cases h2 : d = 33
    ·subst h2
     exact .inr (.inl ⟨rfl, rfl, rfl⟩)
    ·refine .inr (.inr ⟨beq_eq_false_iff_ne.2 (Ne.symm h1), beq_eq_false_iff_ne.2 (Ne.symm h2), ?_⟩)
     unfold kindOf
     split
     ·rename_i e
      simp at e
      exact absurd e.1 h1
     ·rename_i e
      simp at e
      exact absurd e.1 h2
     ·rfl
theorem II (w : World) (s : ByteArray) (c : UInt8) {b : Bool} (h : QY s c = b) : Calls Tryz.prog 134 #[.string s, .string (bsOf [c])] w fun e w' => e = .returned (.bool b) ∧ w = w' :=
 (Tryz.strings_HasPrefix s (bsOf [c]) w).mono fun e w' ⟨he, hw⟩ => ⟨by rw [he, ← h]; rfl, hw.symm⟩
theorem U8 (w : World) (s : ByteArray) (hv : Am w) : Calls Tryz.prog 126 #[.string s] w fun e w' => e = .returned (.int .u8 (kindOf (bl s))) ∧ w = w' := by
 have h1 := hv.s1
 have h2 := hv.s2
 clear hv
 rcases O0 s with ⟨p1, hk⟩ | ⟨p1, p2, hk⟩ | ⟨p1, p2, hk⟩
 ·rw [hk]
  have P1 := lh p1
  clear p1 hk
  go_enter func126, ntmps126
  go_wp2
  refine wp_loop_rounds 1 ?_
  rw [rounds_succ]
  go_wp2_with fail
  refine (II w s 64 P1.out).mono ?_
  rintro e w' ⟨rfl, rfl⟩
  go_wp2
  go_ret
  exact ⟨rfl, rfl⟩
 ·rw [hk]
  obtain ⟨P1, P2⟩ := l2h p1 p2
  clear p1 p2 hk
  go_enter func126, ntmps126
  go_wp2
  refine wp_loop_rounds 2 ?_
  rw [rounds_succ]
  go_wp2_with fail
  refine (II w s 64 P1.out).mono ?_
  rintro e w' ⟨rfl, rfl⟩
  go_wp2
  rw [rounds_succ]
  go_wp2_with fail
  refine (II w s 33 P2.out).mono ?_
  rintro e w' ⟨rfl, rfl⟩
  go_wp2
  go_ret
  exact ⟨rfl, rfl⟩
 ·rw [hk]
  obtain ⟨P1, P2⟩ := l2h p1 p2
  clear p1 p2 hk
  go_enter func126, ntmps126
  go_wp2
  refine wp_loop_rounds 3 ?_
  rw [rounds_succ]
  go_wp2_with fail
  refine (II w s 64 P1.out).mono ?_
  rintro e w' ⟨rfl, rfl⟩
  go_wp2
  rw [rounds_succ]
  go_wp2_with fail
  refine (II w s 33 P2.out).mono ?_
  rintro e w' ⟨rfl, rfl⟩
  go_wp2
  rw [rounds_succ]
  go_wp2
  go_ret
  exact ⟨rfl, rfl⟩
/-! ### strings.Cut at one byte; strconv.AppendInt of a small number -/
def NB (c : UInt8) (s : List UInt8) : List UInt8 := s.takeWhile (fun d => decide (d ≠ c))
def M5 (c : UInt8) (s : List UInt8) : List UInt8 := (s.dropWhile (fun d => decide (d ≠ c))).drop 1
theorem index_spec (c : UInt8) : ∀ (l : List UInt8), (Go.Lib.indexByte l c = -1 ∧ NB c l = l ∧ M5 c l = []) ∨ ∃ k : Nat, Go.Lib.indexByte l c = k ∧ k < l.length ∧ NB c l = l.take k ∧ M5 c l = l.drop (k + 1)
 | [] => .inl ⟨rfl, rfl, rfl⟩
 | d :: l => by
   by_cases h : d = c
   ·refine .inr ⟨0, ?_, by simp, ?_, ?_⟩
    ·simp [Go.Lib.indexByte, h]
    ·simp [NB, h]
    ·simp [M5, h]
   ·rcases index_spec c l with ⟨h1, h2, h3⟩ | ⟨k, h1, h2, h3, h4⟩
    ·refine .inl ⟨?_, ?_, ?_⟩
     ·simp [Go.Lib.indexByte, h, h1]
     ·unfold NB at h2 ⊢
      rw [List.takeWhile_cons_of_pos (by simpa using h), h2]
     ·unfold M5 at h3 ⊢
      simp [h]
      simpa using h3
    ·refine .inr ⟨k + 1, ?_, by simp; omega, ?_, ?_⟩
     ·have : ¬ ((k : Int) = -1) := by omega
      simp [Go.Lib.indexByte, h, h1, this]
     ·unfold NB at h3 ⊢
      rw [List.takeWhile_cons_of_pos (by simpa using h), h3]
      rfl
     ·unfold M5 at h4 ⊢
      simp [h]
      simpa using h4
theorem IR (w : World) (s : ByteArray) (c : UInt8) : Calls Tryz.prog 143 #[.string s, .string (bsOf [c])] w fun e w' => e = .returned (.int .i64 (Go.Lib.indexByte (bl s) c)) ∧ w = w' :=
 (Tryz.stringslite_Index_one s c w).mono fun e w' ⟨he, hw⟩ => ⟨he, hw.symm⟩
def RZ (c : UInt8) (s : List UInt8) (w : World) (e : Ending) (w' : World) : Prop :=
 (∃ f : Bool, e = .returned (.tuple #[.string (bsOf (NB c s)), .string (bsOf (M5 c s)), .bool f])) ∧ ∃ n, w' = w.drewN n
theorem Xr (w : World) (s : ByteArray) (hs : s.size ≤ maxLen) (c : UInt8) : Calls Tryz.prog 135 #[.string s, .string (bsOf [c])] w (RZ c (bl s) w) := by
 unfold maxLen at hs
 have hz : (bsOf [c]).size = 1 := AY [c]
 rcases index_spec c (bl s) with ⟨h1, h2, h3⟩ | ⟨k, h1, h2, h3, h4⟩
 ·have hi := IR w s c
  rw [h1] at hi
  obtain ⟨Hi, Hz, H2, H3⟩ := l4h hi hz h2 h3
  clear hi hz h1 h2 h3
  go_enter func135, ntmps135
  go_wp2_with fail
  refine Hi.out.mono ?_
  rintro e w' ⟨rfl, rfl⟩
  go_wp2
  go_ret3
  refine ⟨⟨false, ?_⟩, 0, rfl⟩
  rw [H2.out, H3.out, CG]
  rfl
 ·have hi := IR w s c
  rw [h1] at hi
  rw [AP] at h2
  have e1 : bl (s.extract 0 k) = (bl s).take k := by rw [Aj]; simp
  have e2 : bl (s.extract (k + 1) s.size) = (bl s).drop (k + 1) := by rw [Aj, List.take_of_length_le (by rw [List.length_drop, AP]; omega)]
  obtain ⟨Hi, H3, H4, E1, E2⟩ := l5h hi h3 h4 e1 e2
  clear hi h1 h3 h4 e1 e2
  go_enter func135, ntmps135
  go_wp2_with fail
  refine Hi.out.mono ?_
  rintro e w' ⟨rfl, rfl⟩
  go_wp2
  go_quiet (fail)
  go_wp2
  go_ret3
  refine ⟨⟨true, ?_⟩, _, rfl⟩
  rw [H3.out, H4.out, ← E1.out, ← E2.out, CG, CG]
  rfl
theorem F4 (w : World) (s : ByteArray) (hs : s.size ≤ maxLen) (c : UInt8) : Calls Tryz.prog 127 #[.string s, .string (bsOf [c])] w (RZ c (bl s) w) := by
 go_enter func127, ntmps127
 go_wp2_with fail
 refine (Xr w s hs c).mono ?_
 rintro e w' ⟨⟨f, rfl⟩, n, rfl⟩
 go_wp2
 go_ret3
 exact ⟨⟨f, rfl⟩, n, rfl⟩
theorem NY (n : Fin 64) : Go.Lib.decDigits n.val = digits n.val := by
 have hn := n.isLt
 rw [Go.Lib.decDigits, digits]
 by_cases h : n.val < 10
 ·simp [h]
 ·rw [dif_neg h, if_neg h, Go.Lib.decDigits, dif_pos (by omega)]
  rfl
theorem TA (w : World) (n : Nat) (hn : n < 64) : Calls Tryz.prog 164 #[.int .i64 n] w fun e w' => e = .returned (.string (bsOf (digits n))) ∧ w = w' :=
 (Tryz.internal_strconv_small n (by omega) w).mono fun e w' ⟨he, hw⟩ => ⟨by rw [he, NY ⟨n, hn⟩]; rfl, hw.symm⟩
def PG (base : Nat) (w : World) (v : Value) (l : List UInt8) (e : Ending) (w' : World) : Prop := ∃ v', e = .returned v' ∧ aI base w v w' v' l
theorem Vb (w : World) (base : Nat) (v : Value) (l : List UInt8) (n : Nat) (h : OwB w base v l) (hn : n < 64) (hl : l.length ≤ 70000000000000) (hb : base ≤ w.heap.size) :
 Calls Tryz.prog 160 #[v, .int .u64 n, .int .i64 10] w (PG base w v (l ++ digits n)) := by
 obtain ⟨a, cap, rfl, hcap, hm⟩ := h.form
 obtain ⟨L, hL⟩ := nXe (l ++ digits n)
 have hd : (digits n).length ≤ 2 := by unfold digits; split <;> simp
 have hlen : L.length = l.length + (digits n).length := by rw [hL, List.length_append]
 have hL2 : L.length ≤ l.length + 2 := by omega
 obtain ⟨H, HL, Hlen⟩ := l3h h hL hlen
 rw [← hL]
 clear h hL hlen
 go_enter func160, ntmps160
 go_wp2_with fail
 refine (TA w n hn).mono ?_
 rintro e w' ⟨rfl, rfl⟩
 go_wp2_with (at_builtin; go_must (refine DT rfl _ _ _ _ rfl A8 (Gr.refl H.out) rfl (.string (bsOf (digits n))) (digits n).length (byV (digits n)) rfl (Ext.refl _ _) ?src L.length ?hN (byV L) ?hz ?h63 ?hby hb ?go))
 case src =>
  have := Src.ofString (P := Tryz.prog) w underlying9 (bsOf (digits n))
  rw [AY, O8] at this
  exact this
 case hN => exact Hlen.out.symm
 case hz => rw [HL.out, Ao]
 case h63 => unfold maxLen; omega
 case hby => omega
 case go =>
  intro a' c' w1 hG _
  have HG := lh hG
  clear hG
  go_wp2
  go_ret
  exact ⟨_, rfl, HG.out⟩
theorem Vd (w : World) (base : Nat) (v : Value) (l : List UInt8) (n : Nat) (h : OwB w base v l) (hn : n < 64) (hl : l.length ≤ 70000000000000) (hb : base ≤ w.heap.size) :
 Calls Tryz.prog 151 #[v, .int .i64 n, .int .i64 10] w (PG base w v (l ++ digits n)) := by
 obtain ⟨a, cap, rfl, hcap, hm⟩ := h.form
 have H := lh h
 clear h
 go_enter func151, ntmps151
 go_wp2_with fail
 refine (Vb w base _ l n H.out hn hl hb).mono ?_
 rintro e w' ⟨v', rfl, hG⟩
 go_wp2
 go_ret
 exact ⟨v', rfl, hG⟩
theorem UN (w : World) (base : Nat) (v : Value) (l : List UInt8) (n : Nat) (h : OwB w base v l) (hn : n < 64) (hl : l.length ≤ 70000000000000) (hb : base ≤ w.heap.size) :
 Calls Tryz.prog 139 #[v, .int .i64 n, .int .i64 10] w (PG base w v (l ++ digits n)) := by
 obtain ⟨a, cap, rfl, hcap, hm⟩ := h.form
 have H := lh h
 clear h
 go_enter func139, ntmps139
 go_wp2_with fail
 refine (Vd w base _ l n H.out hn hl hb).mono ?_
 rintro e w' ⟨v', rfl, hG⟩
 go_wp2
 go_ret
 exact ⟨v', rfl, hG⟩
def idOf (k : Int) (nm : ByteArray) (sv : Int) : Idn := ⟨k, bl nm, sv⟩
def TextNo (w : World) (e : Ending) (w' : World) : Prop := e = .returned (.tuple #[.string ByteArray.empty, .int .i64 2]) ∧ Below w.heap.size w w'
theorem GN (w : World) (k : Int) (nm : ByteArray) (sv : Int) (hn : nm.size ≤ maxLen) (h : okB (idOf k nm sv) = false) : Calls Tryz.prog 129 #[.agg #[.int .u8 k, .string nm, .int .i64 sv]] w (TextNo w) := by
 have hc : ((k != 1) = true ∧ (k != 2) = true) ∨ ((k = 1 ∨ k = 2) ∧ DJ (bl nm) = false) ∨ ((k = 1 ∨ k = 2) ∧ DJ (bl nm) = true ∧ sv < 0) ∨ ((k = 1 ∨ k = 2) ∧ DJ (bl nm) = true ∧ 0 ≤ sv ∧ 63 < sv) := by
  simp only [bne_iff_ne]
  unfold okB idOf at h
  simp only at h
  by_cases h1 : k = 1 ∨ k = 2
  ·cases hb : DJ (bl nm)
   ·exact .inr (.inl ⟨h1, rfl⟩)
   ·by_cases h0 : sv < 0
    ·exact .inr (.inr (.inl ⟨h1, rfl, h0⟩))
    ·by_cases h3 : 63 < sv
     ·exact .inr (.inr (.inr ⟨h1, rfl, by omega, h3⟩))
     ·exfalso
      rw [hb] at h
      have a1 : decide (0 ≤ sv) = true := by simp; omega
      have a2 : decide (sv ≤ 63) = true := by simp; omega
      rw [a1, a2] at h
      rcases h1 with h1 | h1 <;> simp [h1] at h
  ·exact .inl (by omega)
 rcases hc with ⟨h1, h2⟩ | ⟨h1, hb⟩ | ⟨h1, hb, h3⟩ | ⟨h1, hb, h3, h4⟩
 ·go_enter func129, ntmps129
  go_wp2
  go_ret2
  exact ⟨rfl, bAx⟩
 all_goals
  have hnm := fun w => GL w nm hn
  rw [hb] at hnm
  have Hnm := lh hnm
  clear hnm hb h
  rcases h1 with rfl | rfl
 all_goals
  go_enter func129, ntmps129
  go_wp2_with fail
  refine (Hnm.out _).mono ?_
  rintro e w' ⟨rfl, rfl⟩
  go_wp2
  go_ret2
  exact ⟨rfl, bAx⟩
theorem SG (w : World) (nm : ByteArray) (sv : Nat) (hv : Am w) (hn : nm.size ≤ 16) (hb : DJ (bl nm) = true) (hs : sv < 64) :
 Calls Tryz.prog 129 #[.agg #[.int .u8 1, .string nm, .int .i64 sv]] w fun e w' => e = .returned (.tuple #[.string (bsOf (64 :: (bl nm ++ 58 :: digits sv))), .int .i64 0]) ∧ Below w.heap.size w w' := by
 have hnm := fun w => GL w nm (by unfold maxLen; omega)
 rw [hb] at hnm
 have Hnm := lh hnm
 have hsg := hv.s1
 have hg0 : 2 < w.heap.size := World.block_lt_of_cell? w _ hsg
 clear hnm hb hv
 obtain ⟨W1, hW1⟩ := nXe (w.alloc (.cells #[.int .u8 1, .string nm, .int .i64 sv] 173))
 have hsz : W1.heap.size = w.heap.size + 1 := by rw [hW1]; simp
 have hbx : W1.heap[w.heap.size]? = some (.cells #[.int .u8 1, .string nm, .int .i64 sv] 173 (0, 0)) := by rw [hW1]; exact AL _ _
 have hc0 : W1.cell? ⟨w.heap.size, 0, none⟩ = some (.int .u8 1) := AO hbx
 have hc1 : W1.cell? ⟨w.heap.size, 1, none⟩ = some (.string nm) := AO hbx
 have hc2 : W1.cell? ⟨w.heap.size, 2, none⟩ = some (.int .i64 sv) := AO hbx
 have hB1 : Below w.heap.size w W1 := by rw [hW1]; exact bAx
 have XO : W1.cell? ⟨2, 1, none⟩ = some (.string (bsOf [64])) := (hB1.cell (p := ⟨2, 1, none⟩) hg0).trans hsg
 have hcv := Go.Lib.run_convert_string_bytes (P := Tryz.prog) W1.drew 9 100 5 (bsOf [64]) (u := .string) underlying9 underlying100 underlying5
 have ho := Ex W1.drew (base := w.heap.size) 5 (bsOf [64]) (by rw [AY]; decide) (by simp; omega)
 have hbel := Dn W1.drew 5 (bsOf [64])
 rw [AY, show (bsOf [64]).data.toList = [64] from AV [64]] at ho
 rw [AY] at hcv
 obtain ⟨W2, hW2⟩ := nXe (Go.Lib.bytesWorld W1.drew 5 (bsOf [64]))
 obtain ⟨cp, hcp⟩ := nXe (grownCap W1.drew [(64 : UInt8)].length 0 5)
 rw [← hW2] at hcv ho hbel
 rw [← hcp] at hcv ho
 rw [show W1.drew.heap.size = W1.heap.size from rfl] at hcv ho hbel
 simp only [List.length_cons, List.length_nil, Nat.zero_add] at hcv ho
 clear hW2 hcp
 have hB2 : Below w.heap.size w W2 := hB1.drew.trans (hbel.mono (by omega))
 have M4 : W2.heap[w.heap.size]? = some (.cells #[.int .u8 1, .string nm, .int .i64 sv] 173 (0, 0)) := (hbel.block _ (by omega)).trans hbx
 have hd0 : W2.cell? ⟨w.heap.size, 0, none⟩ = some (.int .u8 1) := AO M4
 have hd1 : W2.cell? ⟨w.heap.size, 1, none⟩ = some (.string nm) := AO M4
 have XN : W2.cell? ⟨2, 1, none⟩ = some (.string (bsOf [64])) := (hB2.cell (p := ⟨2, 1, none⟩) hg0).trans hsg
 obtain ⟨v3, W3, hrun, hown3, Qh, Tx⟩ := Fj (P := Tryz.prog) W2 100 9 A8 w.heap.size _ 1 _ ho (.string nm) nm.size _ (Src.ofString W2 underlying9 nm) (by unfold maxLen; omega) (by omega) hB2.size
 obtain ⟨a3, c3, rfl, _, _⟩ := hown3.form
 have hB3 : Below w.heap.size w W3 := hB2.grown Qh hB2.size (fun k hk => (ho.lt k hk).1)
 have Mw : W3.heap[w.heap.size]? = some (.cells #[.int .u8 1, .string nm, .int .i64 sv] 173 (0, 0)) := (Qh.block _ (AJ M4) (by simp [Value.ownBlock]; omega)).trans M4
 have he0 : W3.cell? ⟨w.heap.size, 0, none⟩ = some (.int .u8 1) := AO Mw
 have he1 : W3.cell? ⟨w.heap.size, 1, none⟩ = some (.string nm) := AO Mw
 have he2 : W3.cell? ⟨w.heap.size, 2, none⟩ = some (.int .i64 sv) := AO Mw
 have Tp : W3.cell? ⟨2, 1, none⟩ = some (.string (bsOf [64])) := (hB3.cell (p := ⟨2, 1, none⟩) hg0).trans hsg
 have hlt3 := AJ Mw
 have Qe : ∀ k, (Value.slice a3 (1 + nm.size) c3).ownBlock = some k → k ≠ w.heap.size := by
  intro k hk e
  subst e
  rcases Tx with h | h
  ·rw [hk] at h
   simp [Value.ownBlock] at h
   omega
  ·rw [hk] at h
   simp at h
   have := AJ M4
   omega
 obtain ⟨L3, hL3⟩ := nXe (64 :: bl nm)
 have hn3 : 1 + nm.size = L3.length := by rw [hL3]; simp [AP]; omega
 have hown3' : OwB W3 w.heap.size (.slice a3 (1 + nm.size) c3) L3 := by
  have := hown3
  rw [show byV [64] ++ byteCells nm = byV L3 by rw [hL3]; rfl] at this
  exact this.bytes
 have hE4 : Ext (fun _ => False) W3 ((W3.alloc (.cells #[.int .u8 58] 5)).drew) := ((Ext.refl _ _).alloc _).drew
 obtain ⟨v4, W4, Yk, NA, Qg, Nn⟩ := Fj (P := Tryz.prog) ((W3.alloc (.cells #[.int .u8 58] 5)).drew) 100 100 A8 w.heap.size (.slice a3 (1 + nm.size) c3) (1 + nm.size) (byV L3) (by rw [hn3]; rw [hn3] at hown3'; exact hown3'.ext hE4 (fun _ _ h => h)) (.slice (some ⟨W3.heap.size, 0, none⟩) 1 1) 1 [.int .u8 58]
  (Src.ofSlice _ underlying100 _ _ _ _ rfl (by simpa using cell_one_new W3 (.int .u8 58) 5) (by simp [Value.oneCell'])) (by unfold maxLen; omega) (by omega) (by simp; omega)
 obtain ⟨a4, c4, rfl, _, _⟩ := NA.form
 have Qi : W4.heap[w.heap.size]? = some (.cells #[.int .u8 1, .string nm, .int .i64 sv] 173 (0, 0)) := by
  rw [Qg.block _ (by simp; omega) (fun e => Qe _ e.symm rfl)]
  exact (Below.heap_alloc W3 _ _ hlt3).trans Mw
 have hf2 : W4.cell? ⟨w.heap.size, 2, none⟩ = some (.int .i64 sv) := AO Qi
 have hlt4 := AJ Qi
 have hB4 : Below w.heap.size w W4 := ((hB3.alloc hB3.size _).drew).grown Qg (by simp; omega) (fun k hk => (hown3'.lt k hk).1)
 have Tq : ∀ k, (Value.slice a4 (1 + nm.size + 1) c4).ownBlock = some k → k ≠ w.heap.size := by
  intro k hk e
  subst e
  rcases Nn with h | h
  ·exact Qe _ (h.symm.trans hk) rfl
  ·rw [hk] at h
   simp at h
   omega
 have hown4' : OwB W4 w.heap.size (.slice a4 (1 + nm.size + 1) c4) (L3 ++ [58]) := by
  have := NA
  rw [show byV L3 ++ [Value.int .u8 58] = byV (L3 ++ [58]) by rw [Ao]; rfl] at this
  exact this.bytes
 obtain ⟨HO, HN4, HL3⟩ := l3h hown4' Tq hL3
 have aW : L3.length ≤ 17 := by omega
 clear hown4' Tq hL3 Tx Nn Qh Qg hown3 NA hown3' Qe hn3 ho hE4 Qi Mw M4 hbx
 have n0 : ¬ w.heap.size = W1.heap.size := by omega
 have n00 : w.heap.size < W1.heap.size := by omega
 clear hsz
 have n3 : ¬ w.heap.size = W3.heap.size := by omega
 go_enter func129, ntmps129
 go_wp2_with fail
 rw [← hW1]
 refine (Hnm.out _).mono ?_
 rintro e w' ⟨rfl, rfl⟩
 clear hW1
 go_wp2
 refine wp_region_noPanic ?_
 refine wp_region_held (S := (fun W => W.cell? ⟨w.heap.size, 0, none⟩ = some (.int .u8 1) ∧ W.cell? ⟨w.heap.size, 1, none⟩ = some (.string nm) ∧ W.cell? ⟨2, 1, none⟩ = some (.string (bsOf [64])))) (by kernel_rfl) ?_
 change wpAnyH _ _ _ _ _ _ _ _ (World.drew W1)
 have hS0 : W1.drew.cell? ⟨w.heap.size, 0, none⟩ = some (.int .u8 1) ∧ W1.drew.cell? ⟨w.heap.size, 1, none⟩ = some (.string nm) ∧ W1.drew.cell? ⟨2, 1, none⟩ = some (.string (bsOf [64])) := ⟨hc0, hc1, XO⟩
 refine tkJ 0 ?_ ?_ hS0 ?_
 rotate_left
 ·intro w hSw
  go_simp
  rfl
 simp only [Act.put, List.getElem_toArray, List.getElem_cons_zero, List.setIfInBounds_toArray, List.set_cons_zero, List.set_cons_succ]
 refine tkJ 1 ?_ ?_ hS0 ?_
 rotate_left
 ·intro w hSw
  go_simp
  rfl
 simp only [sq]
 refine tkJ 2 ?_ ?_ hS0 ?_
 rotate_left
 ·intro w hSw
  go_simp
  rfl
 simp only [sq]
 refine tkJ 3 ?_ ?_ hS0 ?_
 rotate_left
 ·intro w hSw
  go_simp
  rfl
 simp only [sq]
 refine tkJ 5 ?_ ?_ hS0 ?_
 rotate_left
 ·intro w hSw
  go_simp
  rfl
 simp only [sq]
 refine tkJ 6 ?_ ?_ hS0 ?_
 rotate_left
 ·intro w hSw
  go_simp
  rfl
 simp only [sq]
 refine aOne (r := 4) ?_
 refine Ap rfl (by rfl) (by go_simp; first | rfl | exact ⟨rfl, rfl⟩) ⟨?_, ?_⟩
 ·exact ⟨hd0, hd1, XN⟩
 simp only [sq]
 refine aOne (r := 7) ?_
 refine Ap rfl (by rfl) (by go_simp; first | rfl | exact ⟨rfl, rfl⟩) ⟨?_, ?_⟩
 ·exact ⟨he0, he1, Tp⟩
 simp only [sq]
 have hS1 : W3.cell? ⟨w.heap.size, 0, none⟩ = some (.int .u8 1) ∧ W3.cell? ⟨w.heap.size, 1, none⟩ = some (.string nm) ∧ W3.cell? ⟨2, 1, none⟩ = some (.string (bsOf [64])) := ⟨he0, he1, Tp⟩
 refine tkJ 8 ?_ ?_ hS1 ?_
 rotate_left
 ·intro w hSw
  go_simp
  rfl
 simp only [sq]
 refine wpAnyH_done (by kernel_rfl) (NoPanic.normal ?_) _
 go_wp2
 refine wp_region_noPanic ?_
 refine wp_region_held (S := (fun W => W.cell? ⟨w.heap.size, 2, none⟩ = some (.int .i64 sv))) (by kernel_rfl) ?_
 change wpAnyH _ _ _ _ _ _ _ _ (World.drew W3)
 have hT0 : W3.drew.cell? ⟨w.heap.size, 2, none⟩ = some (.int .i64 sv) := he2
 refine tkJ 0 ?_ ?_ hT0 ?_
 rotate_left
 ·intro w hSw
  go_simp
  rfl
 simp only [Act.put, List.getElem_toArray, List.getElem_cons_zero, List.setIfInBounds_toArray, List.set_cons_zero, List.set_cons_succ]
 refine tkJ 3 ?_ ?_ hT0 ?_
 rotate_left
 ·intro w hSw
  go_simp
  rfl
 simp only [sq]
 refine tkJ 4 ?_ ?_ hT0 ?_
 rotate_left
 ·intro w hSw
  go_simp
  rfl
 simp only [sq]
 refine aOne (r := 1) ?_
 refine Ap rfl (by rfl) (by go_simp; first | rfl | exact ⟨rfl, rfl⟩) ⟨?_, ?_⟩
 ·exact (by go_simp)
 simp only [sq]
 refine aOne (r := 2) ?_
 refine Ap rfl (by rfl) (by go_simp; first | rfl | exact ⟨rfl, rfl⟩) ⟨?_, ?_⟩
 ·exact hf2
 simp only [sq]
 refine aOne (r := 5) ?_
 refine BR rfl (by rfl) (by go_simp; first | rfl | exact ⟨⟨rfl, rfl⟩, rfl⟩ | exact ⟨rfl, rfl⟩) ?_
 refine (UN W4 w.heap.size _ (L3 ++ [58]) sv HO.out hs (by simp; omega) hB4.size).mono ?_
 rintro e W5 ⟨v5, rfl, hG5⟩
 obtain ⟨n5, hn5⟩ := nXe (((L3 ++ [58]) ++ digits sv).length)
 obtain ⟨a5, c5, hv5, _, _⟩ := hG5.own.form
 rw [← hn5] at hv5
 subst hv5
 clear hn5
 have hg2 : W5.cell? ⟨w.heap.size, 2, none⟩ = some (.int .i64 sv) := hG5.ext.cellOf hf2 (fun hk => HN4.out _ hk rfl)
 have XZ := BX W5 100 9 5 underlying100 underlying5 underlying9 _ _ hG5.own.sl
 have hB5 : Below w.heap.size w W5 := Bl.ext hB4 hG5.ext (fun k hk e => by have := (HO.out.lt k e).1; omega)
 obtain ⟨s5, hs5⟩ := nXe (bsOf ((L3 ++ [58]) ++ digits sv))
 rw [← hs5] at XZ
 have HS5 := lh hs5
 clear hs5 hG5
 refine ⟨_, rfl, ?_, ?_⟩
 ·exact hg2
 simp only [sq]
 refine aOne (r := 6) ?_
 refine Ap rfl (by rfl) (by go_simp; first | rfl | exact ⟨rfl, rfl⟩) ⟨?_, ?_⟩
 ·exact hg2
 simp only [sq]
 refine tkJ 7 ?_ ?_ hg2 ?_
 rotate_left
 ·intro w hSw
  go_simp
  rfl
 simp only [sq]
 refine tkJ 8 ?_ ?_ hg2 ?_
 rotate_left
 ·intro w hSw
  go_simp
  rfl
 simp only [sq]
 refine wpAnyH_done (by kernel_rfl) (NoPanic.normal ?_) _
 go_wp2
 go_ret2
 refine ⟨?_, hB5⟩
 rw [HS5.out, HL3.out]
 simp
theorem SH (w : World) (nm : ByteArray) (sv : Nat) (hv : Am w) (hn : nm.size ≤ 16) (hb : DJ (bl nm) = true) (hs : sv < 64) :
 Calls Tryz.prog 129 #[.agg #[.int .u8 2, .string nm, .int .i64 sv]] w fun e w' => e = .returned (.tuple #[.string (bsOf (33 :: (bl nm ++ 58 :: digits sv))), .int .i64 0]) ∧ Below w.heap.size w w' := by
 have hnm := fun w => GL w nm (by unfold maxLen; omega)
 rw [hb] at hnm
 have Hnm := lh hnm
 have hsg := hv.s2
 have hg0 : 2 < w.heap.size := World.block_lt_of_cell? w _ hsg
 clear hnm hb hv
 obtain ⟨W1, hW1⟩ := nXe (w.alloc (.cells #[.int .u8 2, .string nm, .int .i64 sv] 173))
 have hsz : W1.heap.size = w.heap.size + 1 := by rw [hW1]; simp
 have hbx : W1.heap[w.heap.size]? = some (.cells #[.int .u8 2, .string nm, .int .i64 sv] 173 (0, 0)) := by rw [hW1]; exact AL _ _
 have hc0 : W1.cell? ⟨w.heap.size, 0, none⟩ = some (.int .u8 2) := AO hbx
 have hc1 : W1.cell? ⟨w.heap.size, 1, none⟩ = some (.string nm) := AO hbx
 have hc2 : W1.cell? ⟨w.heap.size, 2, none⟩ = some (.int .i64 sv) := AO hbx
 have hB1 : Below w.heap.size w W1 := by rw [hW1]; exact bAx
 have XO : W1.cell? ⟨2, 2, none⟩ = some (.string (bsOf [33])) := (hB1.cell (p := ⟨2, 2, none⟩) hg0).trans hsg
 have hcv := Go.Lib.run_convert_string_bytes (P := Tryz.prog) W1.drew 9 100 5 (bsOf [33]) (u := .string) underlying9 underlying100 underlying5
 have ho := Ex W1.drew (base := w.heap.size) 5 (bsOf [33]) (by rw [AY]; decide) (by simp; omega)
 have hbel := Dn W1.drew 5 (bsOf [33])
 rw [AY, show (bsOf [33]).data.toList = [33] from AV [33]] at ho
 rw [AY] at hcv
 obtain ⟨W2, hW2⟩ := nXe (Go.Lib.bytesWorld W1.drew 5 (bsOf [33]))
 obtain ⟨cp, hcp⟩ := nXe (grownCap W1.drew [(33 : UInt8)].length 0 5)
 rw [← hW2] at hcv ho hbel
 rw [← hcp] at hcv ho
 rw [show W1.drew.heap.size = W1.heap.size from rfl] at hcv ho hbel
 simp only [List.length_cons, List.length_nil, Nat.zero_add] at hcv ho
 clear hW2 hcp
 have hB2 : Below w.heap.size w W2 := hB1.drew.trans (hbel.mono (by omega))
 have M4 : W2.heap[w.heap.size]? = some (.cells #[.int .u8 2, .string nm, .int .i64 sv] 173 (0, 0)) := (hbel.block _ (by omega)).trans hbx
 have hd0 : W2.cell? ⟨w.heap.size, 0, none⟩ = some (.int .u8 2) := AO M4
 have hd1 : W2.cell? ⟨w.heap.size, 1, none⟩ = some (.string nm) := AO M4
 have XN : W2.cell? ⟨2, 2, none⟩ = some (.string (bsOf [33])) := (hB2.cell (p := ⟨2, 2, none⟩) hg0).trans hsg
 obtain ⟨v3, W3, hrun, hown3, Qh, Tx⟩ := Fj (P := Tryz.prog) W2 100 9 A8 w.heap.size _ 1 _ ho (.string nm) nm.size _ (Src.ofString W2 underlying9 nm) (by unfold maxLen; omega) (by omega) hB2.size
 obtain ⟨a3, c3, rfl, _, _⟩ := hown3.form
 have hB3 : Below w.heap.size w W3 := hB2.grown Qh hB2.size (fun k hk => (ho.lt k hk).1)
 have Mw : W3.heap[w.heap.size]? = some (.cells #[.int .u8 2, .string nm, .int .i64 sv] 173 (0, 0)) := (Qh.block _ (AJ M4) (by simp [Value.ownBlock]; omega)).trans M4
 have he0 : W3.cell? ⟨w.heap.size, 0, none⟩ = some (.int .u8 2) := AO Mw
 have he1 : W3.cell? ⟨w.heap.size, 1, none⟩ = some (.string nm) := AO Mw
 have he2 : W3.cell? ⟨w.heap.size, 2, none⟩ = some (.int .i64 sv) := AO Mw
 have Tp : W3.cell? ⟨2, 2, none⟩ = some (.string (bsOf [33])) := (hB3.cell (p := ⟨2, 2, none⟩) hg0).trans hsg
 have hlt3 := AJ Mw
 have Qe : ∀ k, (Value.slice a3 (1 + nm.size) c3).ownBlock = some k → k ≠ w.heap.size := by
  intro k hk e
  subst e
  rcases Tx with h | h
  ·rw [hk] at h
   simp [Value.ownBlock] at h
   omega
  ·rw [hk] at h
   simp at h
   have := AJ M4
   omega
 obtain ⟨L3, hL3⟩ := nXe (33 :: bl nm)
 have hn3 : 1 + nm.size = L3.length := by rw [hL3]; simp [AP]; omega
 have hown3' : OwB W3 w.heap.size (.slice a3 (1 + nm.size) c3) L3 := by
  have := hown3
  rw [show byV [33] ++ byteCells nm = byV L3 by rw [hL3]; rfl] at this
  exact this.bytes
 have hE4 : Ext (fun _ => False) W3 ((W3.alloc (.cells #[.int .u8 58] 5)).drew) := ((Ext.refl _ _).alloc _).drew
 obtain ⟨v4, W4, Yk, NA, Qg, Nn⟩ := Fj (P := Tryz.prog) ((W3.alloc (.cells #[.int .u8 58] 5)).drew) 100 100 A8 w.heap.size (.slice a3 (1 + nm.size) c3) (1 + nm.size) (byV L3) (by rw [hn3]; rw [hn3] at hown3'; exact hown3'.ext hE4 (fun _ _ h => h)) (.slice (some ⟨W3.heap.size, 0, none⟩) 1 1) 1 [.int .u8 58]
  (Src.ofSlice _ underlying100 _ _ _ _ rfl (by simpa using cell_one_new W3 (.int .u8 58) 5) (by simp [Value.oneCell'])) (by unfold maxLen; omega) (by omega) (by simp; omega)
 obtain ⟨a4, c4, rfl, _, _⟩ := NA.form
 have Qi : W4.heap[w.heap.size]? = some (.cells #[.int .u8 2, .string nm, .int .i64 sv] 173 (0, 0)) := by
  rw [Qg.block _ (by simp; omega) (fun e => Qe _ e.symm rfl)]
  exact (Below.heap_alloc W3 _ _ hlt3).trans Mw
 have hf2 : W4.cell? ⟨w.heap.size, 2, none⟩ = some (.int .i64 sv) := AO Qi
 have hlt4 := AJ Qi
 have hB4 : Below w.heap.size w W4 := ((hB3.alloc hB3.size _).drew).grown Qg (by simp; omega) (fun k hk => (hown3'.lt k hk).1)
 have Tq : ∀ k, (Value.slice a4 (1 + nm.size + 1) c4).ownBlock = some k → k ≠ w.heap.size := by
  intro k hk e
  subst e
  rcases Nn with h | h
  ·exact Qe _ (h.symm.trans hk) rfl
  ·rw [hk] at h
   simp at h
   omega
 have hown4' : OwB W4 w.heap.size (.slice a4 (1 + nm.size + 1) c4) (L3 ++ [58]) := by
  have := NA
  rw [show byV L3 ++ [Value.int .u8 58] = byV (L3 ++ [58]) by rw [Ao]; rfl] at this
  exact this.bytes
 obtain ⟨HO, HN4, HL3⟩ := l3h hown4' Tq hL3
 have aW : L3.length ≤ 17 := by omega
 clear hown4' Tq hL3 Tx Nn Qh Qg hown3 NA hown3' Qe hn3 ho hE4 Qi Mw M4 hbx
 have n0 : ¬ w.heap.size = W1.heap.size := by omega
 have n00 : w.heap.size < W1.heap.size := by omega
 clear hsz
 have n3 : ¬ w.heap.size = W3.heap.size := by omega
 go_enter func129, ntmps129
 go_wp2_with fail
 rw [← hW1]
 refine (Hnm.out _).mono ?_
 rintro e w' ⟨rfl, rfl⟩
 clear hW1
 go_wp2
 refine wp_region_noPanic ?_
 refine wp_region_held (S := (fun W => W.cell? ⟨w.heap.size, 0, none⟩ = some (.int .u8 2) ∧ W.cell? ⟨w.heap.size, 1, none⟩ = some (.string nm) ∧ W.cell? ⟨2, 2, none⟩ = some (.string (bsOf [33])))) (by kernel_rfl) ?_
 change wpAnyH _ _ _ _ _ _ _ _ (World.drew W1)
 have hS0 : W1.drew.cell? ⟨w.heap.size, 0, none⟩ = some (.int .u8 2) ∧ W1.drew.cell? ⟨w.heap.size, 1, none⟩ = some (.string nm) ∧ W1.drew.cell? ⟨2, 2, none⟩ = some (.string (bsOf [33])) := ⟨hc0, hc1, XO⟩
 refine tkJ 0 ?_ ?_ hS0 ?_
 rotate_left
 ·intro w hSw
  go_simp
  rfl
 simp only [Act.put, List.getElem_toArray, List.getElem_cons_zero, List.setIfInBounds_toArray, List.set_cons_zero, List.set_cons_succ]
 refine tkJ 1 ?_ ?_ hS0 ?_
 rotate_left
 ·intro w hSw
  go_simp
  rfl
 simp only [sq]
 refine tkJ 2 ?_ ?_ hS0 ?_
 rotate_left
 ·intro w hSw
  go_simp
  rfl
 simp only [sq]
 refine tkJ 3 ?_ ?_ hS0 ?_
 rotate_left
 ·intro w hSw
  go_simp
  rfl
 simp only [sq]
 refine tkJ 5 ?_ ?_ hS0 ?_
 rotate_left
 ·intro w hSw
  go_simp
  rfl
 simp only [sq]
 refine tkJ 6 ?_ ?_ hS0 ?_
 rotate_left
 ·intro w hSw
  go_simp
  rfl
 simp only [sq]
 refine aOne (r := 4) ?_
 refine Ap rfl (by rfl) (by go_simp; first | rfl | exact ⟨rfl, rfl⟩) ⟨?_, ?_⟩
 ·exact ⟨hd0, hd1, XN⟩
 simp only [sq]
 refine aOne (r := 7) ?_
 refine Ap rfl (by rfl) (by go_simp; first | rfl | exact ⟨rfl, rfl⟩) ⟨?_, ?_⟩
 ·exact ⟨he0, he1, Tp⟩
 simp only [sq]
 have hS1 : W3.cell? ⟨w.heap.size, 0, none⟩ = some (.int .u8 2) ∧ W3.cell? ⟨w.heap.size, 1, none⟩ = some (.string nm) ∧ W3.cell? ⟨2, 2, none⟩ = some (.string (bsOf [33])) := ⟨he0, he1, Tp⟩
 refine tkJ 8 ?_ ?_ hS1 ?_
 rotate_left
 ·intro w hSw
  go_simp
  rfl
 simp only [sq]
 refine wpAnyH_done (by kernel_rfl) (NoPanic.normal ?_) _
 go_wp2
 refine wp_region_noPanic ?_
 refine wp_region_held (S := (fun W => W.cell? ⟨w.heap.size, 2, none⟩ = some (.int .i64 sv))) (by kernel_rfl) ?_
 change wpAnyH _ _ _ _ _ _ _ _ (World.drew W3)
 have hT0 : W3.drew.cell? ⟨w.heap.size, 2, none⟩ = some (.int .i64 sv) := he2
 refine tkJ 0 ?_ ?_ hT0 ?_
 rotate_left
 ·intro w hSw
  go_simp
  rfl
 simp only [Act.put, List.getElem_toArray, List.getElem_cons_zero, List.setIfInBounds_toArray, List.set_cons_zero, List.set_cons_succ]
 refine tkJ 3 ?_ ?_ hT0 ?_
 rotate_left
 ·intro w hSw
  go_simp
  rfl
 simp only [sq]
 refine tkJ 4 ?_ ?_ hT0 ?_
 rotate_left
 ·intro w hSw
  go_simp
  rfl
 simp only [sq]
 refine aOne (r := 1) ?_
 refine Ap rfl (by rfl) (by go_simp; first | rfl | exact ⟨rfl, rfl⟩) ⟨?_, ?_⟩
 ·exact (by go_simp)
 simp only [sq]
 refine aOne (r := 2) ?_
 refine Ap rfl (by rfl) (by go_simp; first | rfl | exact ⟨rfl, rfl⟩) ⟨?_, ?_⟩
 ·exact hf2
 simp only [sq]
 refine aOne (r := 5) ?_
 refine BR rfl (by rfl) (by go_simp; first | rfl | exact ⟨⟨rfl, rfl⟩, rfl⟩ | exact ⟨rfl, rfl⟩) ?_
 refine (UN W4 w.heap.size _ (L3 ++ [58]) sv HO.out hs (by simp; omega) hB4.size).mono ?_
 rintro e W5 ⟨v5, rfl, hG5⟩
 obtain ⟨n5, hn5⟩ := nXe (((L3 ++ [58]) ++ digits sv).length)
 obtain ⟨a5, c5, hv5, _, _⟩ := hG5.own.form
 rw [← hn5] at hv5
 subst hv5
 clear hn5
 have hg2 : W5.cell? ⟨w.heap.size, 2, none⟩ = some (.int .i64 sv) := hG5.ext.cellOf hf2 (fun hk => HN4.out _ hk rfl)
 have XZ := BX W5 100 9 5 underlying100 underlying5 underlying9 _ _ hG5.own.sl
 have hB5 : Below w.heap.size w W5 := Bl.ext hB4 hG5.ext (fun k hk e => by have := (HO.out.lt k e).1; omega)
 obtain ⟨s5, hs5⟩ := nXe (bsOf ((L3 ++ [58]) ++ digits sv))
 rw [← hs5] at XZ
 have HS5 := lh hs5
 clear hs5 hG5
 refine ⟨_, rfl, ?_, ?_⟩
 ·exact hg2
 simp only [sq]
 refine aOne (r := 6) ?_
 refine Ap rfl (by rfl) (by go_simp; first | rfl | exact ⟨rfl, rfl⟩) ⟨?_, ?_⟩
 ·exact hg2
 simp only [sq]
 refine tkJ 7 ?_ ?_ hg2 ?_
 rotate_left
 ·intro w hSw
  go_simp
  rfl
 simp only [sq]
 refine tkJ 8 ?_ ?_ hg2 ?_
 rotate_left
 ·intro w hSw
  go_simp
  rfl
 simp only [sq]
 refine wpAnyH_done (by kernel_rfl) (NoPanic.normal ?_) _
 go_wp2
 go_ret2
 refine ⟨?_, hB5⟩
 rw [HS5.out, HL3.out]
 simp
theorem DR (w : World) (k : Int) (nm : ByteArray) (sv : Int) (hv : Am w) (h : okB (idOf k nm sv) = true) :
 Calls Tryz.prog 129 #[.agg #[.int .u8 k, .string nm, .int .i64 sv]] w fun e w' => e = .returned (.tuple #[.string (bsOf (textOf (idOf k nm sv))), .int .i64 0]) ∧ Below w.heap.size w w' := by
 obtain ⟨hk, hb, h0, h1⟩ := FM h
 have hn := (ES hb).2.2
 simp only [idOf] at hk hb h0 h1 hn
 rw [AP] at hn
 obtain ⟨n, rfl⟩ : ∃ n : Nat, sv = n := ⟨sv.toNat, by omega⟩
 rcases hk with rfl | rfl
 ·exact SG w nm n hv hn hb (by omega)
 ·exact SH w nm n hv hn hb (by omega)
end IdentP
namespace IdentQ
open Go Go.RowKit IdentS OctP IdentP
def pu (acc : Nat) : List UInt8 → Option Nat
 | [] => some acc
 | c :: r => if 48 ≤ c.toNat ∧ c.toNat ≤ 57 then (if 63 < acc * 10 + (c.toNat - 48) then none else pu (acc * 10 + (c.toNat - 48)) r) else none
def Dg (l : List UInt8) : Option Nat := if l = [] then none else pu 0 l
theorem Vz : ∀ (l : List UInt8) (acc n : Nat), acc ≤ 63 → pu acc l = some n → n ≤ 63
 | [], acc, n, h, e => by simp [pu] at e; omega
 | c :: r, acc, n, h, e => by
   rw [pu] at e
   split at e
   ·split at e
    ·cases e
    ·exact Vz r _ n (by omega) e
   ·cases e
theorem Eu {l : List UInt8} {n : Nat} (h : Dg l = some n) : n ≤ 63 := by
 unfold Dg at h
 split at h
 ·cases h
 ·exact Vz l 0 n (by omega) h
theorem IG : ∀ n : Fin 64, Dg (digits n.val) = some n.val := by decide
def EC (l : List UInt8) (w : World) (e : Ending) (w' : World) : Prop :=
 (match Dg l with
    | some n => e = .returned (.tuple #[.int .u64 n, .nilIface])
    | none => ∃ (m k : Int), (k = 1 ∨ k = 2) ∧ e = .returned (.tuple #[.int .u64 m, .iface 199 (.int .i64 k)])) ∧ Below w.heap.size w w'
theorem EC.ok {l : List UInt8} {w w' : World} {n : Nat} (h : Dg l = some n) (hb : Below w.heap.size w w') : EC l w (.returned (.tuple #[.int .u64 n, .nilIface])) w' := by
 unfold EC
 rw [h]
 exact ⟨rfl, hb⟩
theorem EC.no {l : List UInt8} {w w' : World} {m k : Int} (h : Dg l = none) (hk : k = 1 ∨ k = 2) (hb : Below w.heap.size w w') : EC l w (.returned (.tuple #[.int .u64 m, .iface 199 (.int .i64 k)])) w' := by
 unfold EC
 rw [h]
 exact ⟨⟨m, k, hk, rfl⟩, hb⟩
theorem YQ (w : World) (t : ByteArray) (ht : t.size ≤ 9223372036854775806) : Calls Tryz.prog 136 #[.string t, .int .i64 10, .int .i64 6] w (EC (bl t) w) := by
 by_cases hne : t.size = 0
 ·have hb : bl t = [] := List.eq_nil_of_length_eq_zero (by rw [AP]; exact hne)
  obtain rfl : t = ByteArray.empty := by
   rw [← CG t, hb]
   rfl
  have hp : Dg (bl ByteArray.empty) = none := rfl
  have Hp := lh hp
  clear hp hb hne
  go_enter func136, ntmps136
  go_wp2
  go_ret2
  exact EC.no Hp.out (.inr rfl) (Below.refl _ _)
 have hnil : bl t ≠ [] := fun e => hne (by rw [← AP, e]; rfl)
 have hall : Dg (bl t) = pu 0 (bl t) := if_neg hnil
 have hemp : t.toList.isEmpty = false := by
  rw [BV, List.isEmpty_eq_false_iff]
  exact hnil
 have hcv := Go.Lib.run_convert_string_bytes (P := Tryz.prog) w 9 100 5 t (u := .string) underlying9 underlying100 underlying5
 have hcell := (Ex w (base := w.heap.size) 5 t (by unfold maxLen; omega) nR).sl
 have hbel := Dn w 5 t
 obtain ⟨W1, hW1⟩ := nXe (Go.Lib.bytesWorld w 5 t)
 rw [← hW1] at hcv hcell hbel
 clear hW1
 have hB : ∀ j (hj : j < t.size), W1.cell? ⟨w.heap.size, j, none⟩ = some (.int .u8 (t[j]).toNat) := by
  intro j hj
  rcases hcell.2 with ⟨h0, _⟩ | ⟨a, cap, h0, _, _, hc⟩
  ·cases h0
  ·cases h0
   have := hc j (.int .u8 (t[j]).toNat) (by
        have := bl_get t j hj
        unfold bl at this
        simp [byV, this])
   rwa [Addr.add_mid, Nat.zero_add] at this
 have hmv : IntKind.u64.wrap (IntKind.u64.wrap 64 - 1) = 63 := by
  rw [IntKind.wrap_u64, IntKind.wrap_u64]
  decide
 obtain ⟨HB, Hall⟩ := l2h hB hall
 clear hB hall hnil hcell
 go_enter func136, ntmps136
 go_wp2
 go_loop [12, 13, 101] (fun vu vn vi => ∃ (k acc : Nat) (a : Int), vu = .bool false ∧ vn = .int .u64 a ∧ vi = .int .i64 k ∧ k ≤ t.size ∧ 0 ≤ a ∧ a ≤ 63 ∧ Hid (a = acc ∧ pu 0 (bl t) = pu acc ((bl t).drop k))) (fun _ _ vi => t.size - (intOf vi).toNat)
 case atStart => exact ⟨0, 0, 0, rfl, rfl, rfl, by omega, by omega, by omega, lh ⟨rfl, rfl⟩⟩
 case round =>
  obtain ⟨k, acc, a, rfl, rfl, rfl, hk, ha0, ha1, hh⟩ := hrel
  obtain ⟨ha, hpu⟩ := hh.out
  have Ha := lh ha
  clear hh
  by_cases hlt : k < t.size
  ·have hc := HB.out k hlt
   rw [Dv t k hlt, pu] at hpu
   generalize t[k] = c at hc hpu
   have hc8 := c.toNat_lt
   by_cases hdig : 48 ≤ c.toNat ∧ c.toNat ≤ 57
   ·obtain ⟨hd0, hd1⟩ := hdig
    rw [if_pos ⟨hd0, hd1⟩] at hpu
    by_cases hov : 63 < acc * 10 + (c.toNat - 48)
    ·rw [if_pos hov] at hpu
     have Hpu := lh (Hall.out.trans hpu)
     clear hpu
     have iov : 63 < a * 10 + ((c.toNat : Int) - 48) := by omega
     clear hov ha
     go_wp2
     go_ret2
     exact EC.no Hpu.out (.inl rfl) hbel
    ·rw [if_neg hov] at hpu
     have Hpu := lh hpu
     clear hpu
     have iov : a * 10 + ((c.toNat : Int) - 48) ≤ 63 := by omega
     have Hx : Hid (a * 10 + ((c.toNat : Int) - 48) = ((acc * 10 + (c.toNat - 48) : Nat) : Int) ∧ pu 0 (bl t) = pu (acc * 10 + (c.toNat - 48)) ((bl t).drop (k + 1))) := lh ⟨by omega, Hpu.out⟩
     clear hov ha
     go_wp2
     go_round
     case rel => exact ⟨k + 1, acc * 10 + (c.toNat - 48), a * 10 + ((c.toNat : Int) - 48), rfl, by (first | rfl | (congr 1; omega)), by go_num, by omega, by omega, by omega, Hx⟩
     case measure => simp [intOf]; omega
   ·rw [if_neg hdig] at hpu
    have Hpu := lh (Hall.out.trans hpu)
    clear hpu
    clear ha
    have hv0 := bits_lo_u8 .or (c.toNat : Int) 32
    have hv1 := bits_hi_u8 .or (c.toNat : Int) 32
    have hu0 := bits_lo_u8 .or 95 32
    have hu1 := bits_hi_u8 .or 95 32
    go_wp2_with (go_at_call 144; refine (Tryz.internal_strconv_lower _ _).mono ?_; rintro e w' ⟨rfl, rfl⟩)
    all_goals
     go_ret2
     exact EC.no Hpu.out (.inr rfl) hbel
  ·obtain rfl : k = t.size := by omega
   rw [List.drop_of_length_le (by rw [AP]; omega), pu] at hpu
   have Hpu := lh (Hall.out.trans hpu)
   clear hpu ha
   go_wp2
   go_ret2
   have e := Ha.out
   subst e
   exact EC.ok Hpu.out hbel
def Di (l : List UInt8) (w : World) (e : Ending) (w' : World) : Prop :=
 (match Dg l with
    | some n => e = .returned (.tuple #[.int .u64 n, .nilIface])
    | none => ∃ (m : Int) (T : TypeId) (v : Value), e = .returned (.tuple #[.int .u64 m, .iface T v])) ∧ Below w.heap.size w w'
theorem Fq (w : World) (t : ByteArray) (hv : Am w) (ht : t.size ≤ 281474976710656) : Calls Tryz.prog 128 #[.string t, .int .i64 10, .int .i64 6] w (Di (bl t) w) := by
 have hin := YQ w t (by omega)
 cases hp : Dg (bl t) with
 | some n =>
   have Hin : Hid (Calls Tryz.prog 136 #[.string t, .int .i64 10, .int .i64 6] w fun e w' => e = .returned (.tuple #[.int .u64 n, .nilIface]) ∧ Below w.heap.size w w') := lh (hin.mono fun e w' h => by
    unfold EC at h
    rw [hp] at h
    exact h)
   have Hp := lh hp
   clear hp hin hv
   go_enter func128, ntmps128
   go_wp2_with fail
   refine Hin.out.mono ?_
   rintro e w' ⟨rfl, hb⟩
   have HB := lh hb
   clear hb
   go_wp2
   go_ret2
   unfold Di
   rw [Hp.out]
   exact ⟨rfl, HB.out⟩
 | none =>
   have Hin : Hid (Calls Tryz.prog 136 #[.string t, .int .i64 10, .int .i64 6] w fun e w' => (∃ (m k : Int), (k = 1 ∨ k = 2) ∧ e = .returned (.tuple #[.int .u64 m, .iface 199 (.int .i64 k)])) ∧ Below w.heap.size w w') := lh (hin.mono fun e w' h => by
    unfold EC at h
    rw [hp] at h
    exact h)
   obtain ⟨Hp, HV⟩ := l2h hp hv
   clear hp hin hv
   go_enter func128, ntmps128
   go_wp2_with fail
   refine Hin.out.mono ?_
   rintro e w1 ⟨⟨m, k, hk, rfl⟩, hb⟩
   have hv1 := HV.out.below hb
   rcases hk with rfl | rfl
   ·obtain ⟨ev, he1, he2⟩ := hv1.e2
    obtain ⟨HB, He1, He2⟩ := l3h hb he1 he2
    clear hb hv1 he1 he2
    go_wp2_with fail
    refine (Tryz.strconv_toError_range _ t 10 6 ev w1 ht He1.out He2.out).mono ?_
    rintro e w2 ⟨N, rfl, _, _, hb2⟩
    have HB2 := lh (Bl.call HB.out hb2)
    clear hb2
    go_wp2
    go_ret2
    unfold Di
    rw [Hp.out]
    exact ⟨⟨_, _, _, rfl⟩, HB2.out⟩
   ·obtain ⟨ev, he1, he2⟩ := hv1.e1
    obtain ⟨HB, He1, He2⟩ := l3h hb he1 he2
    clear hb hv1 he1 he2
    go_wp2_with fail
    refine (Tryz.strconv_toError_syntax _ t 10 6 ev w1 ht He1.out He2.out).mono ?_
    rintro e w2 ⟨N, rfl, _, _, hb2⟩
    have HB2 := lh (Bl.call HB.out hb2)
    clear hb2
    go_wp2
    go_ret2
    unfold Di
    rw [Hp.out]
    exact ⟨⟨_, _, _, rfl⟩, HB2.out⟩
/-! ### Parse -/
def EX : Option Idn → Value
 | some x => .tuple #[.agg #[.int .u8 x.kind, .string (bsOf x.name), .int .i64 x.server], .int .i64 0]
 | none => .tuple #[.agg #[.int .u8 0, .string ByteArray.empty, .int .i64 0], .int .i64 6]
def CY (l : List UInt8) (w : World) (e : Ending) (w' : World) : Prop := e = .returned (EX (IdentS.parse l)) ∧ Below w.heap.size w w'
theorem Pe {s : List UInt8} (h : kindOf s = 0) : IdentS.parse s = none := by
 cases hp : IdentS.parse s with
 | none => rfl
 | some x =>
   obtain ⟨ho, hs⟩ := Da.1 hp
   have hg := Np ⟨ho, hs⟩
   have hk : x.kind = 0 := by rw [← hg]; exact h
   have := (FM ho).1
   omega
def Mx (s : List UInt8) (n : Nat) : Idn := ⟨kindOf s, NB 58 (s.drop 1), n⟩
theorem Nq {s : List UInt8} {x : Idn} (h : IdentS.parse s = some x) : x.kind = kindOf s ∧ x.name = NB 58 (s.drop 1) ∧ M5 58 (s.drop 1) = digits x.server.toNat ∧ 0 ≤ x.server ∧ x.server ≤ 63 := by
 obtain ⟨ho, hs⟩ := Da.1 h
 have hg := Np ⟨ho, hs⟩
 obtain ⟨_, nx, s0, s1⟩ := FM ho
 refine ⟨by rw [← hg]; rfl, by rw [← hg]; rfl, ?_, s0, s1⟩
 have hne : ∀ c ∈ x.name, (fun c : UInt8 => decide (c ≠ 58)) c = true := fun c hc => by simpa using letter_ne ((ES nx).1 c hc)
 rw [hs, textOf, List.drop_succ_cons, List.drop_zero]
 unfold M5
 rw [List.dropWhile_append_of_pos hne]
 simp
theorem Fb {s : List UInt8} (h : Dg (M5 58 (s.drop 1)) = none) : IdentS.parse s = none := by
 cases hp : IdentS.parse s with
 | none => rfl
 | some x =>
   obtain ⟨_, _, h3, h4, h5⟩ := Nq hp
   rw [h3] at h
   have := IG ⟨x.server.toNat, by omega⟩
   simp only at this
   rw [this] at h
   cases h
theorem D6 {s : List UInt8} {n : Nat} (h : Dg (M5 58 (s.drop 1)) = some n) : IdentS.parse s = if okB (Mx s n) = true ∧ textOf (Mx s n) = s then some (Mx s n) else none := by
 split
 ·rename_i hc
  exact Da.2 ⟨hc.1, hc.2.symm⟩
 ·rename_i hc
  cases hp : IdentS.parse s with
  | none => rfl
  | some x =>
    exfalso
    obtain ⟨h1, h2, h3, h4, h5⟩ := Nq hp
    rw [h3] at h
    have := IG ⟨x.server.toNat, by omega⟩
    simp only at this
    rw [this] at h
    simp only [Option.some.injEq] at h
    have hx : x = Mx s n := by
        cases x
        simp only [Mx, Idn.mk.injEq] at *
        exact ⟨h1, h2, by omega⟩
    obtain ⟨ho, hs⟩ := Da.1 hp
    rw [hx] at ho hs
    exact hc ⟨ho, hs.symm⟩
end IdentQ
namespace IdentR
open Go Go.RowKit IdentS OctP IdentP IdentQ
theorem Cu (c : UInt8) (l : List UInt8) : (NB c l).length ≤ l.length := by
 unfold NB
 exact (List.takeWhile_sublist _).length_le
theorem Ct (c : UInt8) (l : List UInt8) : (M5 c l).length ≤ l.length := by
 unfold M5
 rw [List.length_drop]
 have := (List.dropWhile_sublist (fun d => decide (d ≠ c)) (l := l)).length_le
 omega
def AnyText (w : World) (e : Ending) (w' : World) : Prop := (∃ (s : ByteArray) (y : Int), e = .returned (.tuple #[.string s, .int .i64 y])) ∧ Below w.heap.size w w'
theorem Ib (w : World) (k : Int) (nm : ByteArray) (sv : Int) (hv : Am w) (hn : nm.size ≤ maxLen) : Calls Tryz.prog 129 #[.agg #[.int .u8 k, .string nm, .int .i64 sv]] w (AnyText w) := by
 cases h : okB (idOf k nm sv)
 ·exact (GN w k nm sv hn h).mono fun e w' ⟨h1, h2⟩ => ⟨⟨_, _, h1⟩, h2⟩
 ·exact (DR w k nm sv hv h).mono fun e w' ⟨h1, h2⟩ => ⟨⟨_, _, h1⟩, h2⟩
theorem EP (w : World) (s : ByteArray) (hv : Am w) {k : Int} (hk : kindOf (bl s) = k) : Calls Tryz.prog 126 #[.string s] w fun e w' => e = .returned (.int .u8 k) ∧ w = w' := by
 rw [← hk]
 exact U8 w s hv
theorem Vg (w : World) (s : ByteArray) (hv : Am w) (hs : s.size ≤ 140737488351232) (hk : kindOf (bl s) = 0) : Calls Tryz.prog 112 #[.string s] w (CY (bl s) w) := by
 have hfin := Pe hk
 obtain ⟨Hfin, Hk, HV⟩ := l3h hfin hk (hv.below ((Below.refl _ w).alloc nR (.cells #[.int .u8 0, .string ByteArray.empty, .int .i64 0] 173)))
 clear hfin hk hv
 go_enter func112, ntmps112
 go_wp2_with fail
 refine (EP _ s HV.out Hk.out).mono ?_
 rintro e w' ⟨rfl, rfl⟩
 go_wp2
 refine bodyPost_ret (v := .tuple #[.agg #[.int .u8 0, .string ByteArray.empty, .int .i64 0], .int .i64 6]) (by simp [results, Tryz.results112, go_sem]; try rfl) rfl ?_
 exact ⟨by rw [Hfin.out]; rfl, by go_grown⟩
theorem Qp (w : World) (s : ByteArray) (hv : Am w) (hs : s.size ≤ 140737488351232) (hs0 : 1 ≤ s.size) (hk : kindOf (bl s) = 1) (hp : Dg (M5 58 ((bl s).drop 1)) = none) : Calls Tryz.prog 112 #[.string s] w (CY (bl s) w) := by
 have hfin := Fb hp
 have hx : bl (s.extract 1 s.size) = (bl s).drop 1 := by
  rw [Aj, List.take_of_length_le (by rw [List.length_drop, AP]; omega)]
 obtain ⟨A1, hA1⟩ := nXe (bsOf (NB 58 ((bl s).drop 1)))
 obtain ⟨B1, hB1⟩ := nXe (bsOf (M5 58 ((bl s).drop 1)))
 have hAs : A1.size ≤ maxLen := by
  have := Cu 58 ((bl s).drop 1)
  rw [List.length_drop, AP] at this
  rw [hA1, AY]
  unfold maxLen
  omega
 have hBs : B1.size ≤ 281474976710656 := by
  have := Ct 58 ((bl s).drop 1)
  rw [List.length_drop, AP] at this
  rw [hB1, AY]
  omega
 have hcut : ∀ w, Calls Tryz.prog 127 #[.string (s.extract 1 s.size), .string (bsOf [58])] w fun e w' => (∃ f : Bool, e = .returned (.tuple #[.string A1, .string B1, .bool f])) ∧ ∃ n, w' = w.drewN n := fun w => by
  have := F4 w (s.extract 1 s.size) (by rw [ByteArray.size_extract]; unfold maxLen; omega) 58
  rw [hx] at this
  rw [hA1, hB1]
  exact this
 have hpu : ∀ w, Am w → Calls Tryz.prog 128 #[.string B1, .int .i64 10, .int .i64 6] w fun e w' => (∃ (m : Int) (T : TypeId) (v : Value), e = .returned (.tuple #[.int .u64 m, .iface T v])) ∧ Below w.heap.size w w' := fun w hv => (Fq w B1 hv hBs).mono fun e w' h => by
  unfold Di at h
  rw [hB1, AV, hp] at h
  exact h
 have htx : ∀ w (sv : Int), Am w → Calls Tryz.prog 129 #[.agg #[.int .u8 1, .string A1, .int .i64 sv]] w fun e w' => AnyText w e w' := fun w sv hv => Ib w 1 A1 sv hv hAs
 obtain ⟨W0, hW0⟩ := nXe (w.alloc (.cells #[.int .u8 0, .string ByteArray.empty, .int .i64 0] 173))
 have hb0 : Below w.heap.size w W0 := by rw [hW0]; exact (Below.refl _ w).alloc nR _
 have hbx : W0.heap[w.heap.size]? = some (.cells #[.int .u8 0, .string ByteArray.empty, .int .i64 0] 173 (0, 0)) := by rw [hW0]; exact AL _ _
 obtain ⟨HV, Hfin, Hk, Hcut, Hpu, HW0, Htx⟩ := l7h (hv.below hb0) hfin hk hcut hpu hW0 htx
 clear hfin hk hv hA1 hB1 hx hp hcut hpu hW0 htx
 go_enter func112, ntmps112
 go_wp2_with fail
 rw [show (w.alloc (.cells #[.int .u8 0, .string ⟨#[]⟩, .int .i64 0] 173)) = W0 from HW0.out.symm]
 refine (EP W0 s HV.out Hk.out).mono ?_
 rintro e w' ⟨rfl, rfl⟩
 go_wp2_with fail
 refine (Hcut.out W0).mono ?_
 rintro e w' ⟨⟨f, rfl⟩, nd, rfl⟩
 go_wp2_with fail
 have HV1 := lh (HV.out.below (Bl.drewN (Below.refl _ W0) nd))
 refine (Hpu.out (W0.drewN nd) HV1.out).mono ?_
 rintro e w2 ⟨⟨m, T, v, rfl⟩, hb2⟩
 have hl2 : w.heap.size < W0.heap.size := AJ hbx
 have hl3 : w.heap.size < w2.heap.size := Nat.lt_of_lt_of_le hl2 hb2.size
 have M4 : w2.heap[w.heap.size]? = some (.cells #[.int .u8 0, .string ByteArray.empty, .int .i64 0] 173 (0, 0)) := (hb2.block _ hl2).trans hbx
 obtain ⟨HB2, HV2⟩ := l2h (hb0.trans ((Bl.call (Bl.drewN (Below.refl _ W0) nd) hb2).mono hb0.size)) (HV1.out.below hb2)
 clear hb2 hbx
 go_wp2_with fail
 have HV3 := lh (HV2.out.below ((Below.refl _ w2).alloc nR (.cells #[.int .u8 1, .string A1, .int .i64 (wrap64 m)] 173)))
 refine (Htx.out _ _ HV3.out).mono ?_
 rintro e w3 ⟨⟨t3, y3, rfl⟩, hb3⟩
 have Mw : w3.heap[w.heap.size]? = some (.cells #[.int .u8 0, .string ByteArray.empty, .int .i64 0] 173 (0, 0)) := (hb3.block _ (by simp; omega)).trans ((Below.heap_alloc _ _ _ hl3).trans M4)
 have NF : w3.heap[w2.heap.size]? = some (.cells #[.int .u8 1, .string A1, .int .i64 (wrap64 m)] 173 (0, 0)) := (hb3.block _ (by simp)).trans (AL _ _)
 have HB3 := lh (HB2.out.trans (((Below.refl w2.heap.size w2).alloc nR (.cells #[.int .u8 1, .string A1, .int .i64 (wrap64 m)] 173)).trans (hb3.mono (by simp)) |>.mono HB2.out.size))
 obtain ⟨hcell, M8⟩ := AA Mw
 obtain ⟨hcell2, M0⟩ := AA NF
 have hl4 := AJ Mw
 clear hb3
 go_wp2
 obtain ⟨W4, hW4⟩ := nXe ((((w3.setCell ⟨w.heap.size, 0, none⟩ (.int .u8 0)).setCell ⟨w.heap.size, 1, none⟩ (.string ByteArray.empty)).setCell ⟨w.heap.size, 2, none⟩ (.int .i64 0)))
 have hb4 : W4.heap[w.heap.size]? = some (.cells #[.int .u8 0, .string ByteArray.empty, .int .i64 0] 173 (0, 0)) := by
  rw [hW4]
  exact heap_setCell_same (heap_setCell_same (heap_setCell_same Mw _) _) _
 have k0 : W4.cell? ⟨w.heap.size, 0, none⟩ = some (.int .u8 0) := AO hb4
 have k1 : W4.cell? ⟨w.heap.size, 1, none⟩ = some (.string ByteArray.empty) := AO hb4
 have k2 : W4.cell? ⟨w.heap.size, 2, none⟩ = some (.int .i64 0) := AO hb4
 have HB4 : Below w.heap.size w W4 := by
  rw [hW4]
  exact ((HB3.out.setCell (p := ⟨w.heap.size, 0, none⟩) (by simp) _).setCell (p := ⟨w.heap.size, 1, none⟩) (by simp) _).setCell (p := ⟨w.heap.size, 2, none⟩) (by simp) _
 first | rw [← hW4] | (change bodyPost _ _ _ _ _ (((w3.setCell ⟨w.heap.size, 0, none⟩ (.int .u8 0)).setCell ⟨w.heap.size, 1, none⟩ (.string ByteArray.empty)).setCell ⟨w.heap.size, 2, none⟩ (.int .i64 0)); rw [← hW4])
 clear hW4 hcell hcell2 M8 M0
 refine bodyPost_ret (v := .tuple #[.agg #[.int .u8 0, .string ByteArray.empty, .int .i64 0], .int .i64 6]) (by simp [results, Tryz.results112, go_sem, k0, k1, k2]) rfl ?_
 exact ⟨by rw [Hfin.out]; rfl, HB4⟩
theorem Qr (w : World) (s : ByteArray) (hv : Am w) (hs : s.size ≤ 140737488351232) (hs0 : 1 ≤ s.size) (hk : kindOf (bl s) = 1) (n : Nat) (hp : Dg (M5 58 ((bl s).drop 1)) = some n) (hok : okB (Mx (bl s) n) = false) : Calls Tryz.prog 112 #[.string s] w (CY (bl s) w) := by
 have hfin := (D6 hp).trans (if_neg (fun h => by rw [hok] at h; cases h.1))
 have hx : bl (s.extract 1 s.size) = (bl s).drop 1 := by
  rw [Aj, List.take_of_length_le (by rw [List.length_drop, AP]; omega)]
 obtain ⟨A1, hA1⟩ := nXe (bsOf (NB 58 ((bl s).drop 1)))
 obtain ⟨B1, hB1⟩ := nXe (bsOf (M5 58 ((bl s).drop 1)))
 have hAs : A1.size ≤ maxLen := by
  have := Cu 58 ((bl s).drop 1)
  rw [List.length_drop, AP] at this
  rw [hA1, AY]
  unfold maxLen
  omega
 have hBs : B1.size ≤ 281474976710656 := by
  have := Ct 58 ((bl s).drop 1)
  rw [List.length_drop, AP] at this
  rw [hB1, AY]
  omega
 have hcut : ∀ w, Calls Tryz.prog 127 #[.string (s.extract 1 s.size), .string (bsOf [58])] w fun e w' => (∃ f : Bool, e = .returned (.tuple #[.string A1, .string B1, .bool f])) ∧ ∃ n, w' = w.drewN n := fun w => by
  have := F4 w (s.extract 1 s.size) (by rw [ByteArray.size_extract]; unfold maxLen; omega) 58
  rw [hx] at this
  rw [hA1, hB1]
  exact this
 have hpu : ∀ w, Am w → Calls Tryz.prog 128 #[.string B1, .int .i64 10, .int .i64 6] w fun e w' => e = .returned (.tuple #[.int .u64 n, .nilIface]) ∧ Below w.heap.size w w' := fun w hv => (Fq w B1 hv hBs).mono fun e w' h => by
  unfold Di at h
  rw [hB1, AV, hp] at h
  exact h
 have hn63 := Eu hp
 have hid : idOf 1 A1 n = Mx (bl s) n := by
  unfold idOf Mx
  rw [hA1, AV, hk]
 have htx : ∀ w , Am w → Calls Tryz.prog 129 #[.agg #[.int .u8 1, .string A1, .int .i64 n]] w fun e w' => e = .returned (.tuple #[.string ByteArray.empty, .int .i64 2]) ∧ Below w.heap.size w w' := fun w  hv => GN w 1 A1 n hAs (by rw [hid]; exact hok)
 obtain ⟨W0, hW0⟩ := nXe (w.alloc (.cells #[.int .u8 0, .string ByteArray.empty, .int .i64 0] 173))
 have hb0 : Below w.heap.size w W0 := by rw [hW0]; exact (Below.refl _ w).alloc nR _
 have hbx : W0.heap[w.heap.size]? = some (.cells #[.int .u8 0, .string ByteArray.empty, .int .i64 0] 173 (0, 0)) := by rw [hW0]; exact AL _ _
 obtain ⟨HV, Hfin, Hk, Hcut, Hpu, HW0, Htx⟩ := l7h (hv.below hb0) hfin hk hcut hpu hW0 htx
 clear hfin hk hv hA1 hB1 hx hp hcut hpu hW0 htx hok hid
 go_enter func112, ntmps112
 go_wp2_with fail
 rw [show (w.alloc (.cells #[.int .u8 0, .string ⟨#[]⟩, .int .i64 0] 173)) = W0 from HW0.out.symm]
 refine (EP W0 s HV.out Hk.out).mono ?_
 rintro e w' ⟨rfl, rfl⟩
 go_wp2_with fail
 refine (Hcut.out W0).mono ?_
 rintro e w' ⟨⟨f, rfl⟩, nd, rfl⟩
 go_wp2_with fail
 have HV1 := lh (HV.out.below (Bl.drewN (Below.refl _ W0) nd))
 refine (Hpu.out (W0.drewN nd) HV1.out).mono ?_
 rintro e w2 ⟨rfl, hb2⟩
 have hl2 : w.heap.size < W0.heap.size := AJ hbx
 have hl3 : w.heap.size < w2.heap.size := Nat.lt_of_lt_of_le hl2 hb2.size
 have M4 : w2.heap[w.heap.size]? = some (.cells #[.int .u8 0, .string ByteArray.empty, .int .i64 0] 173 (0, 0)) := (hb2.block _ hl2).trans hbx
 obtain ⟨HB2, HV2⟩ := l2h (hb0.trans ((Bl.call (Bl.drewN (Below.refl _ W0) nd) hb2).mono hb0.size)) (HV1.out.below hb2)
 clear hb2 hbx
 go_wp2_with fail
 have HV3 := lh (HV2.out.below ((Below.refl _ w2).alloc nR (.cells #[.int .u8 1, .string A1, .int .i64 n] 173)))
 refine (Htx.out _  HV3.out).mono ?_
 rintro e w3 ⟨rfl, hb3⟩
 have Mw : w3.heap[w.heap.size]? = some (.cells #[.int .u8 0, .string ByteArray.empty, .int .i64 0] 173 (0, 0)) := (hb3.block _ (by simp; omega)).trans ((Below.heap_alloc _ _ _ hl3).trans M4)
 have NF : w3.heap[w2.heap.size]? = some (.cells #[.int .u8 1, .string A1, .int .i64 n] 173 (0, 0)) := (hb3.block _ (by simp)).trans (AL _ _)
 have HB3 := lh (HB2.out.trans (((Below.refl w2.heap.size w2).alloc nR (.cells #[.int .u8 1, .string A1, .int .i64 n] 173)).trans (hb3.mono (by simp)) |>.mono HB2.out.size))
 obtain ⟨hcell, M8⟩ := AA Mw
 obtain ⟨hcell2, M0⟩ := AA NF
 have hl4 := AJ Mw
 clear hb3
 go_wp2
 obtain ⟨W4, hW4⟩ := nXe ((((w3.setCell ⟨w.heap.size, 0, none⟩ (.int .u8 0)).setCell ⟨w.heap.size, 1, none⟩ (.string ByteArray.empty)).setCell ⟨w.heap.size, 2, none⟩ (.int .i64 0)))
 have hb4 : W4.heap[w.heap.size]? = some (.cells #[.int .u8 0, .string ByteArray.empty, .int .i64 0] 173 (0, 0)) := by
  rw [hW4]
  exact heap_setCell_same (heap_setCell_same (heap_setCell_same Mw _) _) _
 have k0 : W4.cell? ⟨w.heap.size, 0, none⟩ = some (.int .u8 0) := AO hb4
 have k1 : W4.cell? ⟨w.heap.size, 1, none⟩ = some (.string ByteArray.empty) := AO hb4
 have k2 : W4.cell? ⟨w.heap.size, 2, none⟩ = some (.int .i64 0) := AO hb4
 have HB4 : Below w.heap.size w W4 := by
  rw [hW4]
  exact ((HB3.out.setCell (p := ⟨w.heap.size, 0, none⟩) (by simp) _).setCell (p := ⟨w.heap.size, 1, none⟩) (by simp) _).setCell (p := ⟨w.heap.size, 2, none⟩) (by simp) _
 first | rw [← hW4] | (change bodyPost _ _ _ _ _ (((w3.setCell ⟨w.heap.size, 0, none⟩ (.int .u8 0)).setCell ⟨w.heap.size, 1, none⟩ (.string ByteArray.empty)).setCell ⟨w.heap.size, 2, none⟩ (.int .i64 0)); rw [← hW4])
 clear hW4 hcell hcell2 M8 M0
 refine bodyPost_ret (v := .tuple #[.agg #[.int .u8 0, .string ByteArray.empty, .int .i64 0], .int .i64 6]) (by simp [results, Tryz.results112, go_sem, k0, k1, k2]) rfl ?_
 exact ⟨by rw [Hfin.out]; rfl, HB4⟩
theorem QF (w : World) (s : ByteArray) (hv : Am w) (hs : s.size ≤ 140737488351232) (hs0 : 1 ≤ s.size) (hk : kindOf (bl s) = 1) (n : Nat) (hp : Dg (M5 58 ((bl s).drop 1)) = some n) (hok : okB (Mx (bl s) n) = true) (hne : textOf (Mx (bl s) n) ≠ bl s) : Calls Tryz.prog 112 #[.string s] w (CY (bl s) w) := by
 have hfin := (D6 hp).trans (if_neg (fun h => hne h.2))
 have hx : bl (s.extract 1 s.size) = (bl s).drop 1 := by
  rw [Aj, List.take_of_length_le (by rw [List.length_drop, AP]; omega)]
 obtain ⟨A1, hA1⟩ := nXe (bsOf (NB 58 ((bl s).drop 1)))
 obtain ⟨B1, hB1⟩ := nXe (bsOf (M5 58 ((bl s).drop 1)))
 have hAs : A1.size ≤ maxLen := by
  have := Cu 58 ((bl s).drop 1)
  rw [List.length_drop, AP] at this
  rw [hA1, AY]
  unfold maxLen
  omega
 have hBs : B1.size ≤ 281474976710656 := by
  have := Ct 58 ((bl s).drop 1)
  rw [List.length_drop, AP] at this
  rw [hB1, AY]
  omega
 have hcut : ∀ w, Calls Tryz.prog 127 #[.string (s.extract 1 s.size), .string (bsOf [58])] w fun e w' => (∃ f : Bool, e = .returned (.tuple #[.string A1, .string B1, .bool f])) ∧ ∃ n, w' = w.drewN n := fun w => by
  have := F4 w (s.extract 1 s.size) (by rw [ByteArray.size_extract]; unfold maxLen; omega) 58
  rw [hx] at this
  rw [hA1, hB1]
  exact this
 have hpu : ∀ w, Am w → Calls Tryz.prog 128 #[.string B1, .int .i64 10, .int .i64 6] w fun e w' => e = .returned (.tuple #[.int .u64 n, .nilIface]) ∧ Below w.heap.size w w' := fun w hv => (Fq w B1 hv hBs).mono fun e w' h => by
  unfold Di at h
  rw [hB1, AV, hp] at h
  exact h
 have hn63 := Eu hp
 have hid : idOf 1 A1 n = Mx (bl s) n := by
  unfold idOf Mx
  rw [hA1, AV, hk]
 obtain ⟨T1, hT1⟩ := nXe (bsOf (textOf (Mx (bl s) n)))
 have hTs : (T1.toList == s.toList) = false := ET (fun e => hne (by have h2 := congrArg bl e; rw [hT1, AV] at h2; exact h2))
 have htx : ∀ w , Am w → Calls Tryz.prog 129 #[.agg #[.int .u8 1, .string A1, .int .i64 n]] w fun e w' => e = .returned (.tuple #[.string T1, .int .i64 0]) ∧ Below w.heap.size w w' := fun w  hv => (by have := DR w 1 A1 n hv (by rw [hid]; exact hok); rw [hid, ← hT1] at this; exact this)
 obtain ⟨W0, hW0⟩ := nXe (w.alloc (.cells #[.int .u8 0, .string ByteArray.empty, .int .i64 0] 173))
 have hb0 : Below w.heap.size w W0 := by rw [hW0]; exact (Below.refl _ w).alloc nR _
 have hbx : W0.heap[w.heap.size]? = some (.cells #[.int .u8 0, .string ByteArray.empty, .int .i64 0] 173 (0, 0)) := by rw [hW0]; exact AL _ _
 obtain ⟨HV, Hfin, Hk, Hcut, Hpu, HW0, Htx⟩ := l7h (hv.below hb0) hfin hk hcut hpu hW0 htx
 clear hfin hk hv hA1 hB1 hx hp hcut hpu hW0 htx hok hid hT1 hne
 go_enter func112, ntmps112
 go_wp2_with fail
 rw [show (w.alloc (.cells #[.int .u8 0, .string ⟨#[]⟩, .int .i64 0] 173)) = W0 from HW0.out.symm]
 refine (EP W0 s HV.out Hk.out).mono ?_
 rintro e w' ⟨rfl, rfl⟩
 go_wp2_with fail
 refine (Hcut.out W0).mono ?_
 rintro e w' ⟨⟨f, rfl⟩, nd, rfl⟩
 go_wp2_with fail
 have HV1 := lh (HV.out.below (Bl.drewN (Below.refl _ W0) nd))
 refine (Hpu.out (W0.drewN nd) HV1.out).mono ?_
 rintro e w2 ⟨rfl, hb2⟩
 have hl2 : w.heap.size < W0.heap.size := AJ hbx
 have hl3 : w.heap.size < w2.heap.size := Nat.lt_of_lt_of_le hl2 hb2.size
 have M4 : w2.heap[w.heap.size]? = some (.cells #[.int .u8 0, .string ByteArray.empty, .int .i64 0] 173 (0, 0)) := (hb2.block _ hl2).trans hbx
 obtain ⟨HB2, HV2⟩ := l2h (hb0.trans ((Bl.call (Bl.drewN (Below.refl _ W0) nd) hb2).mono hb0.size)) (HV1.out.below hb2)
 clear hb2 hbx
 go_wp2_with fail
 have HV3 := lh (HV2.out.below ((Below.refl _ w2).alloc nR (.cells #[.int .u8 1, .string A1, .int .i64 n] 173)))
 refine (Htx.out _  HV3.out).mono ?_
 rintro e w3 ⟨rfl, hb3⟩
 have Mw : w3.heap[w.heap.size]? = some (.cells #[.int .u8 0, .string ByteArray.empty, .int .i64 0] 173 (0, 0)) := (hb3.block _ (by simp; omega)).trans ((Below.heap_alloc _ _ _ hl3).trans M4)
 have NF : w3.heap[w2.heap.size]? = some (.cells #[.int .u8 1, .string A1, .int .i64 n] 173 (0, 0)) := (hb3.block _ (by simp)).trans (AL _ _)
 have HB3 := lh (HB2.out.trans (((Below.refl w2.heap.size w2).alloc nR (.cells #[.int .u8 1, .string A1, .int .i64 n] 173)).trans (hb3.mono (by simp)) |>.mono HB2.out.size))
 obtain ⟨hcell, M8⟩ := AA Mw
 obtain ⟨hcell2, M0⟩ := AA NF
 have hl4 := AJ Mw
 clear hb3
 go_wp2
 obtain ⟨W4, hW4⟩ := nXe ((((w3.setCell ⟨w.heap.size, 0, none⟩ (.int .u8 0)).setCell ⟨w.heap.size, 1, none⟩ (.string ByteArray.empty)).setCell ⟨w.heap.size, 2, none⟩ (.int .i64 0)))
 have hb4 : W4.heap[w.heap.size]? = some (.cells #[.int .u8 0, .string ByteArray.empty, .int .i64 0] 173 (0, 0)) := by
  rw [hW4]
  exact heap_setCell_same (heap_setCell_same (heap_setCell_same Mw _) _) _
 have k0 : W4.cell? ⟨w.heap.size, 0, none⟩ = some (.int .u8 0) := AO hb4
 have k1 : W4.cell? ⟨w.heap.size, 1, none⟩ = some (.string ByteArray.empty) := AO hb4
 have k2 : W4.cell? ⟨w.heap.size, 2, none⟩ = some (.int .i64 0) := AO hb4
 have HB4 : Below w.heap.size w W4 := by
  rw [hW4]
  exact ((HB3.out.setCell (p := ⟨w.heap.size, 0, none⟩) (by simp) _).setCell (p := ⟨w.heap.size, 1, none⟩) (by simp) _).setCell (p := ⟨w.heap.size, 2, none⟩) (by simp) _
 first | rw [← hW4] | (change bodyPost _ _ _ _ _ (((w3.setCell ⟨w.heap.size, 0, none⟩ (.int .u8 0)).setCell ⟨w.heap.size, 1, none⟩ (.string ByteArray.empty)).setCell ⟨w.heap.size, 2, none⟩ (.int .i64 0)); rw [← hW4])
 clear hW4 hcell hcell2 M8 M0
 refine bodyPost_ret (v := .tuple #[.agg #[.int .u8 0, .string ByteArray.empty, .int .i64 0], .int .i64 6]) (by simp [results, Tryz.results112, go_sem, k0, k1, k2]) rfl ?_
 exact ⟨by rw [Hfin.out]; rfl, HB4⟩
theorem QD (w : World) (s : ByteArray) (hv : Am w) (hs : s.size ≤ 140737488351232) (hs0 : 1 ≤ s.size) (hk : kindOf (bl s) = 1) (n : Nat) (hp : Dg (M5 58 ((bl s).drop 1)) = some n) (hok : okB (Mx (bl s) n) = true) (heq : textOf (Mx (bl s) n) = bl s) : Calls Tryz.prog 112 #[.string s] w (CY (bl s) w) := by
 have hfin := (D6 hp).trans (if_pos ⟨hok, heq⟩)
 have hx : bl (s.extract 1 s.size) = (bl s).drop 1 := by
  rw [Aj, List.take_of_length_le (by rw [List.length_drop, AP]; omega)]
 obtain ⟨A1, hA1⟩ := nXe (bsOf (NB 58 ((bl s).drop 1)))
 obtain ⟨B1, hB1⟩ := nXe (bsOf (M5 58 ((bl s).drop 1)))
 have hAs : A1.size ≤ maxLen := by
  have := Cu 58 ((bl s).drop 1)
  rw [List.length_drop, AP] at this
  rw [hA1, AY]
  unfold maxLen
  omega
 have hBs : B1.size ≤ 281474976710656 := by
  have := Ct 58 ((bl s).drop 1)
  rw [List.length_drop, AP] at this
  rw [hB1, AY]
  omega
 have hcut : ∀ w, Calls Tryz.prog 127 #[.string (s.extract 1 s.size), .string (bsOf [58])] w fun e w' => (∃ f : Bool, e = .returned (.tuple #[.string A1, .string B1, .bool f])) ∧ ∃ n, w' = w.drewN n := fun w => by
  have := F4 w (s.extract 1 s.size) (by rw [ByteArray.size_extract]; unfold maxLen; omega) 58
  rw [hx] at this
  rw [hA1, hB1]
  exact this
 have hpu : ∀ w, Am w → Calls Tryz.prog 128 #[.string B1, .int .i64 10, .int .i64 6] w fun e w' => e = .returned (.tuple #[.int .u64 n, .nilIface]) ∧ Below w.heap.size w w' := fun w hv => (Fq w B1 hv hBs).mono fun e w' h => by
  unfold Di at h
  rw [hB1, AV, hp] at h
  exact h
 have hn63 := Eu hp
 have hid : idOf 1 A1 n = Mx (bl s) n := by
  unfold idOf Mx
  rw [hA1, AV, hk]
 have htx : ∀ w , Am w → Calls Tryz.prog 129 #[.agg #[.int .u8 1, .string A1, .int .i64 n]] w fun e w' => e = .returned (.tuple #[.string s, .int .i64 0]) ∧ Below w.heap.size w w' := fun w  hv => (by have := DR w 1 A1 n hv (by rw [hid]; exact hok); rw [hid, heq, CG] at this; exact this)
 have hres : EX (some (Mx (bl s) n)) = .tuple #[.agg #[.int .u8 1, .string A1, .int .i64 n], .int .i64 0] := by
  unfold EX
  simp only [Mx]
  rw [hA1, hk]
 have Hres := lh hres
 clear hres
 obtain ⟨W0, hW0⟩ := nXe (w.alloc (.cells #[.int .u8 0, .string ByteArray.empty, .int .i64 0] 173))
 have hb0 : Below w.heap.size w W0 := by rw [hW0]; exact (Below.refl _ w).alloc nR _
 have hbx : W0.heap[w.heap.size]? = some (.cells #[.int .u8 0, .string ByteArray.empty, .int .i64 0] 173 (0, 0)) := by rw [hW0]; exact AL _ _
 obtain ⟨HV, Hfin, Hk, Hcut, Hpu, HW0, Htx⟩ := l7h (hv.below hb0) hfin hk hcut hpu hW0 htx
 clear hfin hk hv hA1 hB1 hx hp hcut hpu hW0 htx hok hid heq
 go_enter func112, ntmps112
 go_wp2_with fail
 rw [show (w.alloc (.cells #[.int .u8 0, .string ⟨#[]⟩, .int .i64 0] 173)) = W0 from HW0.out.symm]
 refine (EP W0 s HV.out Hk.out).mono ?_
 rintro e w' ⟨rfl, rfl⟩
 go_wp2_with fail
 refine (Hcut.out W0).mono ?_
 rintro e w' ⟨⟨f, rfl⟩, nd, rfl⟩
 go_wp2_with fail
 have HV1 := lh (HV.out.below (Bl.drewN (Below.refl _ W0) nd))
 refine (Hpu.out (W0.drewN nd) HV1.out).mono ?_
 rintro e w2 ⟨rfl, hb2⟩
 have hl2 : w.heap.size < W0.heap.size := AJ hbx
 have hl3 : w.heap.size < w2.heap.size := Nat.lt_of_lt_of_le hl2 hb2.size
 have M4 : w2.heap[w.heap.size]? = some (.cells #[.int .u8 0, .string ByteArray.empty, .int .i64 0] 173 (0, 0)) := (hb2.block _ hl2).trans hbx
 obtain ⟨HB2, HV2⟩ := l2h (hb0.trans ((Bl.call (Bl.drewN (Below.refl _ W0) nd) hb2).mono hb0.size)) (HV1.out.below hb2)
 clear hb2 hbx
 go_wp2_with fail
 have HV3 := lh (HV2.out.below ((Below.refl _ w2).alloc nR (.cells #[.int .u8 1, .string A1, .int .i64 n] 173)))
 refine (Htx.out _  HV3.out).mono ?_
 rintro e w3 ⟨rfl, hb3⟩
 have Mw : w3.heap[w.heap.size]? = some (.cells #[.int .u8 0, .string ByteArray.empty, .int .i64 0] 173 (0, 0)) := (hb3.block _ (by simp; omega)).trans ((Below.heap_alloc _ _ _ hl3).trans M4)
 have NF : w3.heap[w2.heap.size]? = some (.cells #[.int .u8 1, .string A1, .int .i64 n] 173 (0, 0)) := (hb3.block _ (by simp)).trans (AL _ _)
 have HB3 := lh (HB2.out.trans (((Below.refl w2.heap.size w2).alloc nR (.cells #[.int .u8 1, .string A1, .int .i64 n] 173)).trans (hb3.mono (by simp)) |>.mono HB2.out.size))
 obtain ⟨hcell, M8⟩ := AA Mw
 obtain ⟨hcell2, M0⟩ := AA NF
 have hl4 := AJ Mw
 clear hb3
 go_wp2
 obtain ⟨W4, hW4⟩ := nXe ((((w3.setCell ⟨w.heap.size, 0, none⟩ (.int .u8 1)).setCell ⟨w.heap.size, 1, none⟩ (.string A1)).setCell ⟨w.heap.size, 2, none⟩ (.int .i64 n)))
 have hb4 : W4.heap[w.heap.size]? = some (.cells #[.int .u8 1, .string A1, .int .i64 n] 173 (0, 0)) := by
  rw [hW4]
  exact heap_setCell_same (heap_setCell_same (heap_setCell_same Mw _) _) _
 have k0 : W4.cell? ⟨w.heap.size, 0, none⟩ = some (.int .u8 1) := AO hb4
 have k1 : W4.cell? ⟨w.heap.size, 1, none⟩ = some (.string A1) := AO hb4
 have k2 : W4.cell? ⟨w.heap.size, 2, none⟩ = some (.int .i64 n) := AO hb4
 have HB4 : Below w.heap.size w W4 := by
  rw [hW4]
  exact ((HB3.out.setCell (p := ⟨w.heap.size, 0, none⟩) (by simp) _).setCell (p := ⟨w.heap.size, 1, none⟩) (by simp) _).setCell (p := ⟨w.heap.size, 2, none⟩) (by simp) _
 first | rw [← hW4] | (change bodyPost _ _ _ _ _ (((w3.setCell ⟨w.heap.size, 0, none⟩ (.int .u8 1)).setCell ⟨w.heap.size, 1, none⟩ (.string A1)).setCell ⟨w.heap.size, 2, none⟩ (.int .i64 n)); rw [← hW4])
 clear hW4 hcell hcell2 M8 M0
 refine bodyPost_ret (v := .tuple #[.agg #[.int .u8 1, .string A1, .int .i64 n], .int .i64 0]) (by simp [results, Tryz.results112, go_sem, k0, k1, k2]) rfl ?_
 exact ⟨by rw [Hfin.out]; rw [Hres.out], HB4⟩
theorem Qo (w : World) (s : ByteArray) (hv : Am w) (hs : s.size ≤ 140737488351232) (hs0 : 1 ≤ s.size) (hk : kindOf (bl s) = 2) (hp : Dg (M5 58 ((bl s).drop 1)) = none) : Calls Tryz.prog 112 #[.string s] w (CY (bl s) w) := by
 have hfin := Fb hp
 have hx : bl (s.extract 1 s.size) = (bl s).drop 1 := by
  rw [Aj, List.take_of_length_le (by rw [List.length_drop, AP]; omega)]
 obtain ⟨A1, hA1⟩ := nXe (bsOf (NB 58 ((bl s).drop 1)))
 obtain ⟨B1, hB1⟩ := nXe (bsOf (M5 58 ((bl s).drop 1)))
 have hAs : A1.size ≤ maxLen := by
  have := Cu 58 ((bl s).drop 1)
  rw [List.length_drop, AP] at this
  rw [hA1, AY]
  unfold maxLen
  omega
 have hBs : B1.size ≤ 281474976710656 := by
  have := Ct 58 ((bl s).drop 1)
  rw [List.length_drop, AP] at this
  rw [hB1, AY]
  omega
 have hcut : ∀ w, Calls Tryz.prog 127 #[.string (s.extract 1 s.size), .string (bsOf [58])] w fun e w' => (∃ f : Bool, e = .returned (.tuple #[.string A1, .string B1, .bool f])) ∧ ∃ n, w' = w.drewN n := fun w => by
  have := F4 w (s.extract 1 s.size) (by rw [ByteArray.size_extract]; unfold maxLen; omega) 58
  rw [hx] at this
  rw [hA1, hB1]
  exact this
 have hpu : ∀ w, Am w → Calls Tryz.prog 128 #[.string B1, .int .i64 10, .int .i64 6] w fun e w' => (∃ (m : Int) (T : TypeId) (v : Value), e = .returned (.tuple #[.int .u64 m, .iface T v])) ∧ Below w.heap.size w w' := fun w hv => (Fq w B1 hv hBs).mono fun e w' h => by
  unfold Di at h
  rw [hB1, AV, hp] at h
  exact h
 have htx : ∀ w (sv : Int), Am w → Calls Tryz.prog 129 #[.agg #[.int .u8 2, .string A1, .int .i64 sv]] w fun e w' => AnyText w e w' := fun w sv hv => Ib w 2 A1 sv hv hAs
 obtain ⟨W0, hW0⟩ := nXe (w.alloc (.cells #[.int .u8 0, .string ByteArray.empty, .int .i64 0] 173))
 have hb0 : Below w.heap.size w W0 := by rw [hW0]; exact (Below.refl _ w).alloc nR _
 have hbx : W0.heap[w.heap.size]? = some (.cells #[.int .u8 0, .string ByteArray.empty, .int .i64 0] 173 (0, 0)) := by rw [hW0]; exact AL _ _
 obtain ⟨HV, Hfin, Hk, Hcut, Hpu, HW0, Htx⟩ := l7h (hv.below hb0) hfin hk hcut hpu hW0 htx
 clear hfin hk hv hA1 hB1 hx hp hcut hpu hW0 htx
 go_enter func112, ntmps112
 go_wp2_with fail
 rw [show (w.alloc (.cells #[.int .u8 0, .string ⟨#[]⟩, .int .i64 0] 173)) = W0 from HW0.out.symm]
 refine (EP W0 s HV.out Hk.out).mono ?_
 rintro e w' ⟨rfl, rfl⟩
 go_wp2_with fail
 refine (Hcut.out W0).mono ?_
 rintro e w' ⟨⟨f, rfl⟩, nd, rfl⟩
 go_wp2_with fail
 have HV1 := lh (HV.out.below (Bl.drewN (Below.refl _ W0) nd))
 refine (Hpu.out (W0.drewN nd) HV1.out).mono ?_
 rintro e w2 ⟨⟨m, T, v, rfl⟩, hb2⟩
 have hl2 : w.heap.size < W0.heap.size := AJ hbx
 have hl3 : w.heap.size < w2.heap.size := Nat.lt_of_lt_of_le hl2 hb2.size
 have M4 : w2.heap[w.heap.size]? = some (.cells #[.int .u8 0, .string ByteArray.empty, .int .i64 0] 173 (0, 0)) := (hb2.block _ hl2).trans hbx
 obtain ⟨HB2, HV2⟩ := l2h (hb0.trans ((Bl.call (Bl.drewN (Below.refl _ W0) nd) hb2).mono hb0.size)) (HV1.out.below hb2)
 clear hb2 hbx
 go_wp2_with fail
 have HV3 := lh (HV2.out.below ((Below.refl _ w2).alloc nR (.cells #[.int .u8 2, .string A1, .int .i64 (wrap64 m)] 173)))
 refine (Htx.out _ _ HV3.out).mono ?_
 rintro e w3 ⟨⟨t3, y3, rfl⟩, hb3⟩
 have Mw : w3.heap[w.heap.size]? = some (.cells #[.int .u8 0, .string ByteArray.empty, .int .i64 0] 173 (0, 0)) := (hb3.block _ (by simp; omega)).trans ((Below.heap_alloc _ _ _ hl3).trans M4)
 have NF : w3.heap[w2.heap.size]? = some (.cells #[.int .u8 2, .string A1, .int .i64 (wrap64 m)] 173 (0, 0)) := (hb3.block _ (by simp)).trans (AL _ _)
 have HB3 := lh (HB2.out.trans (((Below.refl w2.heap.size w2).alloc nR (.cells #[.int .u8 2, .string A1, .int .i64 (wrap64 m)] 173)).trans (hb3.mono (by simp)) |>.mono HB2.out.size))
 obtain ⟨hcell, M8⟩ := AA Mw
 obtain ⟨hcell2, M0⟩ := AA NF
 have hl4 := AJ Mw
 clear hb3
 go_wp2
 obtain ⟨W4, hW4⟩ := nXe ((((w3.setCell ⟨w.heap.size, 0, none⟩ (.int .u8 0)).setCell ⟨w.heap.size, 1, none⟩ (.string ByteArray.empty)).setCell ⟨w.heap.size, 2, none⟩ (.int .i64 0)))
 have hb4 : W4.heap[w.heap.size]? = some (.cells #[.int .u8 0, .string ByteArray.empty, .int .i64 0] 173 (0, 0)) := by
  rw [hW4]
  exact heap_setCell_same (heap_setCell_same (heap_setCell_same Mw _) _) _
 have k0 : W4.cell? ⟨w.heap.size, 0, none⟩ = some (.int .u8 0) := AO hb4
 have k1 : W4.cell? ⟨w.heap.size, 1, none⟩ = some (.string ByteArray.empty) := AO hb4
 have k2 : W4.cell? ⟨w.heap.size, 2, none⟩ = some (.int .i64 0) := AO hb4
 have HB4 : Below w.heap.size w W4 := by
  rw [hW4]
  exact ((HB3.out.setCell (p := ⟨w.heap.size, 0, none⟩) (by simp) _).setCell (p := ⟨w.heap.size, 1, none⟩) (by simp) _).setCell (p := ⟨w.heap.size, 2, none⟩) (by simp) _
 first | rw [← hW4] | (change bodyPost _ _ _ _ _ (((w3.setCell ⟨w.heap.size, 0, none⟩ (.int .u8 0)).setCell ⟨w.heap.size, 1, none⟩ (.string ByteArray.empty)).setCell ⟨w.heap.size, 2, none⟩ (.int .i64 0)); rw [← hW4])
 clear hW4 hcell hcell2 M8 M0
 refine bodyPost_ret (v := .tuple #[.agg #[.int .u8 0, .string ByteArray.empty, .int .i64 0], .int .i64 6]) (by simp [results, Tryz.results112, go_sem, k0, k1, k2]) rfl ?_
 exact ⟨by rw [Hfin.out]; rfl, HB4⟩
theorem Qq (w : World) (s : ByteArray) (hv : Am w) (hs : s.size ≤ 140737488351232) (hs0 : 1 ≤ s.size) (hk : kindOf (bl s) = 2) (n : Nat) (hp : Dg (M5 58 ((bl s).drop 1)) = some n) (hok : okB (Mx (bl s) n) = false) : Calls Tryz.prog 112 #[.string s] w (CY (bl s) w) := by
 have hfin := (D6 hp).trans (if_neg (fun h => by rw [hok] at h; cases h.1))
 have hx : bl (s.extract 1 s.size) = (bl s).drop 1 := by
  rw [Aj, List.take_of_length_le (by rw [List.length_drop, AP]; omega)]
 obtain ⟨A1, hA1⟩ := nXe (bsOf (NB 58 ((bl s).drop 1)))
 obtain ⟨B1, hB1⟩ := nXe (bsOf (M5 58 ((bl s).drop 1)))
 have hAs : A1.size ≤ maxLen := by
  have := Cu 58 ((bl s).drop 1)
  rw [List.length_drop, AP] at this
  rw [hA1, AY]
  unfold maxLen
  omega
 have hBs : B1.size ≤ 281474976710656 := by
  have := Ct 58 ((bl s).drop 1)
  rw [List.length_drop, AP] at this
  rw [hB1, AY]
  omega
 have hcut : ∀ w, Calls Tryz.prog 127 #[.string (s.extract 1 s.size), .string (bsOf [58])] w fun e w' => (∃ f : Bool, e = .returned (.tuple #[.string A1, .string B1, .bool f])) ∧ ∃ n, w' = w.drewN n := fun w => by
  have := F4 w (s.extract 1 s.size) (by rw [ByteArray.size_extract]; unfold maxLen; omega) 58
  rw [hx] at this
  rw [hA1, hB1]
  exact this
 have hpu : ∀ w, Am w → Calls Tryz.prog 128 #[.string B1, .int .i64 10, .int .i64 6] w fun e w' => e = .returned (.tuple #[.int .u64 n, .nilIface]) ∧ Below w.heap.size w w' := fun w hv => (Fq w B1 hv hBs).mono fun e w' h => by
  unfold Di at h
  rw [hB1, AV, hp] at h
  exact h
 have hn63 := Eu hp
 have hid : idOf 2 A1 n = Mx (bl s) n := by
  unfold idOf Mx
  rw [hA1, AV, hk]
 have htx : ∀ w , Am w → Calls Tryz.prog 129 #[.agg #[.int .u8 2, .string A1, .int .i64 n]] w fun e w' => e = .returned (.tuple #[.string ByteArray.empty, .int .i64 2]) ∧ Below w.heap.size w w' := fun w  hv => GN w 2 A1 n hAs (by rw [hid]; exact hok)
 obtain ⟨W0, hW0⟩ := nXe (w.alloc (.cells #[.int .u8 0, .string ByteArray.empty, .int .i64 0] 173))
 have hb0 : Below w.heap.size w W0 := by rw [hW0]; exact (Below.refl _ w).alloc nR _
 have hbx : W0.heap[w.heap.size]? = some (.cells #[.int .u8 0, .string ByteArray.empty, .int .i64 0] 173 (0, 0)) := by rw [hW0]; exact AL _ _
 obtain ⟨HV, Hfin, Hk, Hcut, Hpu, HW0, Htx⟩ := l7h (hv.below hb0) hfin hk hcut hpu hW0 htx
 clear hfin hk hv hA1 hB1 hx hp hcut hpu hW0 htx hok hid
 go_enter func112, ntmps112
 go_wp2_with fail
 rw [show (w.alloc (.cells #[.int .u8 0, .string ⟨#[]⟩, .int .i64 0] 173)) = W0 from HW0.out.symm]
 refine (EP W0 s HV.out Hk.out).mono ?_
 rintro e w' ⟨rfl, rfl⟩
 go_wp2_with fail
 refine (Hcut.out W0).mono ?_
 rintro e w' ⟨⟨f, rfl⟩, nd, rfl⟩
 go_wp2_with fail
 have HV1 := lh (HV.out.below (Bl.drewN (Below.refl _ W0) nd))
 refine (Hpu.out (W0.drewN nd) HV1.out).mono ?_
 rintro e w2 ⟨rfl, hb2⟩
 have hl2 : w.heap.size < W0.heap.size := AJ hbx
 have hl3 : w.heap.size < w2.heap.size := Nat.lt_of_lt_of_le hl2 hb2.size
 have M4 : w2.heap[w.heap.size]? = some (.cells #[.int .u8 0, .string ByteArray.empty, .int .i64 0] 173 (0, 0)) := (hb2.block _ hl2).trans hbx
 obtain ⟨HB2, HV2⟩ := l2h (hb0.trans ((Bl.call (Bl.drewN (Below.refl _ W0) nd) hb2).mono hb0.size)) (HV1.out.below hb2)
 clear hb2 hbx
 go_wp2_with fail
 have HV3 := lh (HV2.out.below ((Below.refl _ w2).alloc nR (.cells #[.int .u8 2, .string A1, .int .i64 n] 173)))
 refine (Htx.out _  HV3.out).mono ?_
 rintro e w3 ⟨rfl, hb3⟩
 have Mw : w3.heap[w.heap.size]? = some (.cells #[.int .u8 0, .string ByteArray.empty, .int .i64 0] 173 (0, 0)) := (hb3.block _ (by simp; omega)).trans ((Below.heap_alloc _ _ _ hl3).trans M4)
 have NF : w3.heap[w2.heap.size]? = some (.cells #[.int .u8 2, .string A1, .int .i64 n] 173 (0, 0)) := (hb3.block _ (by simp)).trans (AL _ _)
 have HB3 := lh (HB2.out.trans (((Below.refl w2.heap.size w2).alloc nR (.cells #[.int .u8 2, .string A1, .int .i64 n] 173)).trans (hb3.mono (by simp)) |>.mono HB2.out.size))
 obtain ⟨hcell, M8⟩ := AA Mw
 obtain ⟨hcell2, M0⟩ := AA NF
 have hl4 := AJ Mw
 clear hb3
 go_wp2
 obtain ⟨W4, hW4⟩ := nXe ((((w3.setCell ⟨w.heap.size, 0, none⟩ (.int .u8 0)).setCell ⟨w.heap.size, 1, none⟩ (.string ByteArray.empty)).setCell ⟨w.heap.size, 2, none⟩ (.int .i64 0)))
 have hb4 : W4.heap[w.heap.size]? = some (.cells #[.int .u8 0, .string ByteArray.empty, .int .i64 0] 173 (0, 0)) := by
  rw [hW4]
  exact heap_setCell_same (heap_setCell_same (heap_setCell_same Mw _) _) _
 have k0 : W4.cell? ⟨w.heap.size, 0, none⟩ = some (.int .u8 0) := AO hb4
 have k1 : W4.cell? ⟨w.heap.size, 1, none⟩ = some (.string ByteArray.empty) := AO hb4
 have k2 : W4.cell? ⟨w.heap.size, 2, none⟩ = some (.int .i64 0) := AO hb4
 have HB4 : Below w.heap.size w W4 := by
  rw [hW4]
  exact ((HB3.out.setCell (p := ⟨w.heap.size, 0, none⟩) (by simp) _).setCell (p := ⟨w.heap.size, 1, none⟩) (by simp) _).setCell (p := ⟨w.heap.size, 2, none⟩) (by simp) _
 first | rw [← hW4] | (change bodyPost _ _ _ _ _ (((w3.setCell ⟨w.heap.size, 0, none⟩ (.int .u8 0)).setCell ⟨w.heap.size, 1, none⟩ (.string ByteArray.empty)).setCell ⟨w.heap.size, 2, none⟩ (.int .i64 0)); rw [← hW4])
 clear hW4 hcell hcell2 M8 M0
 refine bodyPost_ret (v := .tuple #[.agg #[.int .u8 0, .string ByteArray.empty, .int .i64 0], .int .i64 6]) (by simp [results, Tryz.results112, go_sem, k0, k1, k2]) rfl ?_
 exact ⟨by rw [Hfin.out]; rfl, HB4⟩
theorem QE (w : World) (s : ByteArray) (hv : Am w) (hs : s.size ≤ 140737488351232) (hs0 : 1 ≤ s.size) (hk : kindOf (bl s) = 2) (n : Nat) (hp : Dg (M5 58 ((bl s).drop 1)) = some n) (hok : okB (Mx (bl s) n) = true) (hne : textOf (Mx (bl s) n) ≠ bl s) : Calls Tryz.prog 112 #[.string s] w (CY (bl s) w) := by
 have hfin := (D6 hp).trans (if_neg (fun h => hne h.2))
 have hx : bl (s.extract 1 s.size) = (bl s).drop 1 := by
  rw [Aj, List.take_of_length_le (by rw [List.length_drop, AP]; omega)]
 obtain ⟨A1, hA1⟩ := nXe (bsOf (NB 58 ((bl s).drop 1)))
 obtain ⟨B1, hB1⟩ := nXe (bsOf (M5 58 ((bl s).drop 1)))
 have hAs : A1.size ≤ maxLen := by
  have := Cu 58 ((bl s).drop 1)
  rw [List.length_drop, AP] at this
  rw [hA1, AY]
  unfold maxLen
  omega
 have hBs : B1.size ≤ 281474976710656 := by
  have := Ct 58 ((bl s).drop 1)
  rw [List.length_drop, AP] at this
  rw [hB1, AY]
  omega
 have hcut : ∀ w, Calls Tryz.prog 127 #[.string (s.extract 1 s.size), .string (bsOf [58])] w fun e w' => (∃ f : Bool, e = .returned (.tuple #[.string A1, .string B1, .bool f])) ∧ ∃ n, w' = w.drewN n := fun w => by
  have := F4 w (s.extract 1 s.size) (by rw [ByteArray.size_extract]; unfold maxLen; omega) 58
  rw [hx] at this
  rw [hA1, hB1]
  exact this
 have hpu : ∀ w, Am w → Calls Tryz.prog 128 #[.string B1, .int .i64 10, .int .i64 6] w fun e w' => e = .returned (.tuple #[.int .u64 n, .nilIface]) ∧ Below w.heap.size w w' := fun w hv => (Fq w B1 hv hBs).mono fun e w' h => by
  unfold Di at h
  rw [hB1, AV, hp] at h
  exact h
 have hn63 := Eu hp
 have hid : idOf 2 A1 n = Mx (bl s) n := by
  unfold idOf Mx
  rw [hA1, AV, hk]
 obtain ⟨T1, hT1⟩ := nXe (bsOf (textOf (Mx (bl s) n)))
 have hTs : (T1.toList == s.toList) = false := ET (fun e => hne (by have h2 := congrArg bl e; rw [hT1, AV] at h2; exact h2))
 have htx : ∀ w , Am w → Calls Tryz.prog 129 #[.agg #[.int .u8 2, .string A1, .int .i64 n]] w fun e w' => e = .returned (.tuple #[.string T1, .int .i64 0]) ∧ Below w.heap.size w w' := fun w  hv => (by have := DR w 2 A1 n hv (by rw [hid]; exact hok); rw [hid, ← hT1] at this; exact this)
 obtain ⟨W0, hW0⟩ := nXe (w.alloc (.cells #[.int .u8 0, .string ByteArray.empty, .int .i64 0] 173))
 have hb0 : Below w.heap.size w W0 := by rw [hW0]; exact (Below.refl _ w).alloc nR _
 have hbx : W0.heap[w.heap.size]? = some (.cells #[.int .u8 0, .string ByteArray.empty, .int .i64 0] 173 (0, 0)) := by rw [hW0]; exact AL _ _
 obtain ⟨HV, Hfin, Hk, Hcut, Hpu, HW0, Htx⟩ := l7h (hv.below hb0) hfin hk hcut hpu hW0 htx
 clear hfin hk hv hA1 hB1 hx hp hcut hpu hW0 htx hok hid hT1 hne
 go_enter func112, ntmps112
 go_wp2_with fail
 rw [show (w.alloc (.cells #[.int .u8 0, .string ⟨#[]⟩, .int .i64 0] 173)) = W0 from HW0.out.symm]
 refine (EP W0 s HV.out Hk.out).mono ?_
 rintro e w' ⟨rfl, rfl⟩
 go_wp2_with fail
 refine (Hcut.out W0).mono ?_
 rintro e w' ⟨⟨f, rfl⟩, nd, rfl⟩
 go_wp2_with fail
 have HV1 := lh (HV.out.below (Bl.drewN (Below.refl _ W0) nd))
 refine (Hpu.out (W0.drewN nd) HV1.out).mono ?_
 rintro e w2 ⟨rfl, hb2⟩
 have hl2 : w.heap.size < W0.heap.size := AJ hbx
 have hl3 : w.heap.size < w2.heap.size := Nat.lt_of_lt_of_le hl2 hb2.size
 have M4 : w2.heap[w.heap.size]? = some (.cells #[.int .u8 0, .string ByteArray.empty, .int .i64 0] 173 (0, 0)) := (hb2.block _ hl2).trans hbx
 obtain ⟨HB2, HV2⟩ := l2h (hb0.trans ((Bl.call (Bl.drewN (Below.refl _ W0) nd) hb2).mono hb0.size)) (HV1.out.below hb2)
 clear hb2 hbx
 go_wp2_with fail
 have HV3 := lh (HV2.out.below ((Below.refl _ w2).alloc nR (.cells #[.int .u8 2, .string A1, .int .i64 n] 173)))
 refine (Htx.out _  HV3.out).mono ?_
 rintro e w3 ⟨rfl, hb3⟩
 have Mw : w3.heap[w.heap.size]? = some (.cells #[.int .u8 0, .string ByteArray.empty, .int .i64 0] 173 (0, 0)) := (hb3.block _ (by simp; omega)).trans ((Below.heap_alloc _ _ _ hl3).trans M4)
 have NF : w3.heap[w2.heap.size]? = some (.cells #[.int .u8 2, .string A1, .int .i64 n] 173 (0, 0)) := (hb3.block _ (by simp)).trans (AL _ _)
 have HB3 := lh (HB2.out.trans (((Below.refl w2.heap.size w2).alloc nR (.cells #[.int .u8 2, .string A1, .int .i64 n] 173)).trans (hb3.mono (by simp)) |>.mono HB2.out.size))
 obtain ⟨hcell, M8⟩ := AA Mw
 obtain ⟨hcell2, M0⟩ := AA NF
 have hl4 := AJ Mw
 clear hb3
 go_wp2
 obtain ⟨W4, hW4⟩ := nXe ((((w3.setCell ⟨w.heap.size, 0, none⟩ (.int .u8 0)).setCell ⟨w.heap.size, 1, none⟩ (.string ByteArray.empty)).setCell ⟨w.heap.size, 2, none⟩ (.int .i64 0)))
 have hb4 : W4.heap[w.heap.size]? = some (.cells #[.int .u8 0, .string ByteArray.empty, .int .i64 0] 173 (0, 0)) := by
  rw [hW4]
  exact heap_setCell_same (heap_setCell_same (heap_setCell_same Mw _) _) _
 have k0 : W4.cell? ⟨w.heap.size, 0, none⟩ = some (.int .u8 0) := AO hb4
 have k1 : W4.cell? ⟨w.heap.size, 1, none⟩ = some (.string ByteArray.empty) := AO hb4
 have k2 : W4.cell? ⟨w.heap.size, 2, none⟩ = some (.int .i64 0) := AO hb4
 have HB4 : Below w.heap.size w W4 := by
  rw [hW4]
  exact ((HB3.out.setCell (p := ⟨w.heap.size, 0, none⟩) (by simp) _).setCell (p := ⟨w.heap.size, 1, none⟩) (by simp) _).setCell (p := ⟨w.heap.size, 2, none⟩) (by simp) _
 first | rw [← hW4] | (change bodyPost _ _ _ _ _ (((w3.setCell ⟨w.heap.size, 0, none⟩ (.int .u8 0)).setCell ⟨w.heap.size, 1, none⟩ (.string ByteArray.empty)).setCell ⟨w.heap.size, 2, none⟩ (.int .i64 0)); rw [← hW4])
 clear hW4 hcell hcell2 M8 M0
 refine bodyPost_ret (v := .tuple #[.agg #[.int .u8 0, .string ByteArray.empty, .int .i64 0], .int .i64 6]) (by simp [results, Tryz.results112, go_sem, k0, k1, k2]) rfl ?_
 exact ⟨by rw [Hfin.out]; rfl, HB4⟩
theorem QC (w : World) (s : ByteArray) (hv : Am w) (hs : s.size ≤ 140737488351232) (hs0 : 1 ≤ s.size) (hk : kindOf (bl s) = 2) (n : Nat) (hp : Dg (M5 58 ((bl s).drop 1)) = some n) (hok : okB (Mx (bl s) n) = true) (heq : textOf (Mx (bl s) n) = bl s) : Calls Tryz.prog 112 #[.string s] w (CY (bl s) w) := by
 have hfin := (D6 hp).trans (if_pos ⟨hok, heq⟩)
 have hx : bl (s.extract 1 s.size) = (bl s).drop 1 := by
  rw [Aj, List.take_of_length_le (by rw [List.length_drop, AP]; omega)]
 obtain ⟨A1, hA1⟩ := nXe (bsOf (NB 58 ((bl s).drop 1)))
 obtain ⟨B1, hB1⟩ := nXe (bsOf (M5 58 ((bl s).drop 1)))
 have hAs : A1.size ≤ maxLen := by
  have := Cu 58 ((bl s).drop 1)
  rw [List.length_drop, AP] at this
  rw [hA1, AY]
  unfold maxLen
  omega
 have hBs : B1.size ≤ 281474976710656 := by
  have := Ct 58 ((bl s).drop 1)
  rw [List.length_drop, AP] at this
  rw [hB1, AY]
  omega
 have hcut : ∀ w, Calls Tryz.prog 127 #[.string (s.extract 1 s.size), .string (bsOf [58])] w fun e w' => (∃ f : Bool, e = .returned (.tuple #[.string A1, .string B1, .bool f])) ∧ ∃ n, w' = w.drewN n := fun w => by
  have := F4 w (s.extract 1 s.size) (by rw [ByteArray.size_extract]; unfold maxLen; omega) 58
  rw [hx] at this
  rw [hA1, hB1]
  exact this
 have hpu : ∀ w, Am w → Calls Tryz.prog 128 #[.string B1, .int .i64 10, .int .i64 6] w fun e w' => e = .returned (.tuple #[.int .u64 n, .nilIface]) ∧ Below w.heap.size w w' := fun w hv => (Fq w B1 hv hBs).mono fun e w' h => by
  unfold Di at h
  rw [hB1, AV, hp] at h
  exact h
 have hn63 := Eu hp
 have hid : idOf 2 A1 n = Mx (bl s) n := by
  unfold idOf Mx
  rw [hA1, AV, hk]
 have htx : ∀ w , Am w → Calls Tryz.prog 129 #[.agg #[.int .u8 2, .string A1, .int .i64 n]] w fun e w' => e = .returned (.tuple #[.string s, .int .i64 0]) ∧ Below w.heap.size w w' := fun w  hv => (by have := DR w 2 A1 n hv (by rw [hid]; exact hok); rw [hid, heq, CG] at this; exact this)
 have hres : EX (some (Mx (bl s) n)) = .tuple #[.agg #[.int .u8 2, .string A1, .int .i64 n], .int .i64 0] := by
  unfold EX
  simp only [Mx]
  rw [hA1, hk]
 have Hres := lh hres
 clear hres
 obtain ⟨W0, hW0⟩ := nXe (w.alloc (.cells #[.int .u8 0, .string ByteArray.empty, .int .i64 0] 173))
 have hb0 : Below w.heap.size w W0 := by rw [hW0]; exact (Below.refl _ w).alloc nR _
 have hbx : W0.heap[w.heap.size]? = some (.cells #[.int .u8 0, .string ByteArray.empty, .int .i64 0] 173 (0, 0)) := by rw [hW0]; exact AL _ _
 obtain ⟨HV, Hfin, Hk, Hcut, Hpu, HW0, Htx⟩ := l7h (hv.below hb0) hfin hk hcut hpu hW0 htx
 clear hfin hk hv hA1 hB1 hx hp hcut hpu hW0 htx hok hid heq
 go_enter func112, ntmps112
 go_wp2_with fail
 rw [show (w.alloc (.cells #[.int .u8 0, .string ⟨#[]⟩, .int .i64 0] 173)) = W0 from HW0.out.symm]
 refine (EP W0 s HV.out Hk.out).mono ?_
 rintro e w' ⟨rfl, rfl⟩
 go_wp2_with fail
 refine (Hcut.out W0).mono ?_
 rintro e w' ⟨⟨f, rfl⟩, nd, rfl⟩
 go_wp2_with fail
 have HV1 := lh (HV.out.below (Bl.drewN (Below.refl _ W0) nd))
 refine (Hpu.out (W0.drewN nd) HV1.out).mono ?_
 rintro e w2 ⟨rfl, hb2⟩
 have hl2 : w.heap.size < W0.heap.size := AJ hbx
 have hl3 : w.heap.size < w2.heap.size := Nat.lt_of_lt_of_le hl2 hb2.size
 have M4 : w2.heap[w.heap.size]? = some (.cells #[.int .u8 0, .string ByteArray.empty, .int .i64 0] 173 (0, 0)) := (hb2.block _ hl2).trans hbx
 obtain ⟨HB2, HV2⟩ := l2h (hb0.trans ((Bl.call (Bl.drewN (Below.refl _ W0) nd) hb2).mono hb0.size)) (HV1.out.below hb2)
 clear hb2 hbx
 go_wp2_with fail
 have HV3 := lh (HV2.out.below ((Below.refl _ w2).alloc nR (.cells #[.int .u8 2, .string A1, .int .i64 n] 173)))
 refine (Htx.out _  HV3.out).mono ?_
 rintro e w3 ⟨rfl, hb3⟩
 have Mw : w3.heap[w.heap.size]? = some (.cells #[.int .u8 0, .string ByteArray.empty, .int .i64 0] 173 (0, 0)) := (hb3.block _ (by simp; omega)).trans ((Below.heap_alloc _ _ _ hl3).trans M4)
 have NF : w3.heap[w2.heap.size]? = some (.cells #[.int .u8 2, .string A1, .int .i64 n] 173 (0, 0)) := (hb3.block _ (by simp)).trans (AL _ _)
 have HB3 := lh (HB2.out.trans (((Below.refl w2.heap.size w2).alloc nR (.cells #[.int .u8 2, .string A1, .int .i64 n] 173)).trans (hb3.mono (by simp)) |>.mono HB2.out.size))
 obtain ⟨hcell, M8⟩ := AA Mw
 obtain ⟨hcell2, M0⟩ := AA NF
 have hl4 := AJ Mw
 clear hb3
 go_wp2
 obtain ⟨W4, hW4⟩ := nXe ((((w3.setCell ⟨w.heap.size, 0, none⟩ (.int .u8 2)).setCell ⟨w.heap.size, 1, none⟩ (.string A1)).setCell ⟨w.heap.size, 2, none⟩ (.int .i64 n)))
 have hb4 : W4.heap[w.heap.size]? = some (.cells #[.int .u8 2, .string A1, .int .i64 n] 173 (0, 0)) := by
  rw [hW4]
  exact heap_setCell_same (heap_setCell_same (heap_setCell_same Mw _) _) _
 have k0 : W4.cell? ⟨w.heap.size, 0, none⟩ = some (.int .u8 2) := AO hb4
 have k1 : W4.cell? ⟨w.heap.size, 1, none⟩ = some (.string A1) := AO hb4
 have k2 : W4.cell? ⟨w.heap.size, 2, none⟩ = some (.int .i64 n) := AO hb4
 have HB4 : Below w.heap.size w W4 := by
  rw [hW4]
  exact ((HB3.out.setCell (p := ⟨w.heap.size, 0, none⟩) (by simp) _).setCell (p := ⟨w.heap.size, 1, none⟩) (by simp) _).setCell (p := ⟨w.heap.size, 2, none⟩) (by simp) _
 first | rw [← hW4] | (change bodyPost _ _ _ _ _ (((w3.setCell ⟨w.heap.size, 0, none⟩ (.int .u8 2)).setCell ⟨w.heap.size, 1, none⟩ (.string A1)).setCell ⟨w.heap.size, 2, none⟩ (.int .i64 n)); rw [← hW4])
 clear hW4 hcell hcell2 M8 M0
 refine bodyPost_ret (v := .tuple #[.agg #[.int .u8 2, .string A1, .int .i64 n], .int .i64 0]) (by simp [results, Tryz.results112, go_sem, k0, k1, k2]) rfl ?_
 exact ⟨by rw [Hfin.out]; rw [Hres.out], HB4⟩
theorem Parse_ok (w : World) (s : ByteArray) (hv : Am w) (hs : s.size ≤ 140737488351232) : Calls Tryz.prog 112 #[.string s] w (CY (bl s) w) := by
 have hk : kindOf (bl s) = 0 ∨ kindOf (bl s) = 1 ∨ kindOf (bl s) = 2 := by
  unfold kindOf
  split <;> simp
 have h0 : kindOf (bl s) ≠ 0 → 1 ≤ s.size := fun h => by
  rw [← AP]
  cases hb : bl s with
  | nil => rw [hb] at h; exact absurd rfl h
  | cons c r => simp
 rcases hk with hk | hk | hk
 ·exact Vg w s hv hs hk
 all_goals
  have hs0 := h0 (by omega)
  cases hp : Dg (M5 58 ((bl s).drop 1)) with
  | none => first | exact Qp w s hv hs hs0 hk hp | exact Qo w s hv hs hs0 hk hp
  | some n =>
    cases hok : okB (Mx (bl s) n)
    ·first | exact Qr w s hv hs hs0 hk n hp hok | exact Qq w s hv hs hs0 hk n hp hok
    ·by_cases he : textOf (Mx (bl s) n) = bl s
     ·first | exact QD w s hv hs hs0 hk n hp hok he | exact QC w s hv hs hs0 hk n hp hok he
     ·first | exact QF w s hv hs hs0 hk n hp hok he | exact QE w s hv hs hs0 hk n hp hok he
def Vy (o : Option Int) : Value := match o with
 | some n => .tuple #[.int .i64 n, .bool true]
 | none => .tuple #[.int .i64 0, .bool false]
def Ef (o : Option Int) (w : World) (e : Ending) (w' : World) : Prop := e = .returned (Vy o) ∧ Below w.heap.size w w'
theorem YV (w : World) (s : ByteArray) (hv : Am w) (hs : s.size ≤ 140737488351232) (k : Int) : Calls Tryz.prog 93 #[.string s, .int .u8 k] w (Ef (BZ k (bl s)) w) := by
 have hp := Parse_ok w s hv hs
 cases he : IdentS.parse (bl s) with
 | none =>
   have hfin : BZ k (bl s) = none := by unfold BZ; rw [he]; rfl
   unfold CY at hp
   rw [he] at hp
   rw [hfin]
   have Hp := lh hp
   clear hp he hfin hv
   go_enter func93, ntmps93
   go_wp2_with fail
   refine Hp.out.mono ?_
   rintro e w' ⟨rfl, hb⟩
   have HB := lh hb
   clear hb
   unfold EX
   go_wp2
   go_ret2
   exact ⟨rfl, HB.out.alloc HB.out.size _⟩
 | some x =>
   unfold CY at hp
   rw [he] at hp
   by_cases hk : x.kind = k
   ·have hfin : BZ k (bl s) = some x.server := by unfold BZ; rw [he]; exact if_pos hk
    have hkb : (x.kind != k) = false := by simp [hk]
    rw [hfin]
    have Hp := lh hp
    clear hp he hfin hv hk
    go_enter func93, ntmps93
    go_wp2_with fail
    refine Hp.out.mono ?_
    rintro e w' ⟨rfl, hb⟩
    have HB := lh hb
    clear hb
    unfold EX
    go_wp2
    go_ret2
    exact ⟨rfl, HB.out.alloc HB.out.size _⟩
   ·have hfin : BZ k (bl s) = none := by unfold BZ; rw [he]; exact if_neg hk
    have hkb : (x.kind != k) = true := by simp [hk]
    rw [hfin]
    have Hp := lh hp
    clear hp he hfin hv hk
    go_enter func93, ntmps93
    go_wp2_with fail
    refine Hp.out.mono ?_
    rintro e w' ⟨rfl, hb⟩
    have HB := lh hb
    clear hb
    unfold EX
    go_wp2
    go_ret2
    exact ⟨rfl, HB.out.alloc HB.out.size _⟩
theorem Ic (w : World) (s : ByteArray) (hv : Am w) (hs : s.size ≤ 140737488351232) : Calls Tryz.prog 63 #[.string s] w (Ef (BZ 2 (bl s)) w) := by
 have hp := YV w s hv hs 2
 have Hp := lh hp
 clear hp hv
 cases he : BZ 2 (bl s)
 all_goals
  rw [he] at Hp
  go_enter func63, ntmps63
  go_wp2_with fail
  refine Hp.out.mono ?_
  rintro e w' ⟨rfl, hb⟩
  have HB := lh hb
  clear hb he
  unfold Vy
  go_wp2
  go_ret2
  exact ⟨rfl, HB.out⟩
end IdentR
end Go.Proofs.YtceiajepcokacaaGreatDoor
