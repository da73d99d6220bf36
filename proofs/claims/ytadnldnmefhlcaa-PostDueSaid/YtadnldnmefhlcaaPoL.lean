/-
  WHAT IS PROVED: the statements' own check of the boxes answers true. No condition.
-/
import Derived.Test.YtadnldnmefhlcaaPoD
namespace Go.Proofs.Ytadnldnmefhlcaa.PoL
open Go Go.RowKit Go.Shelf Go.Conc Go.Proofs.Ytadnldnmefhlcaa Go.Proofs.Ytadnldnmefhlcaa.PostA Go.Proofs.Ytadnldnmefhlcaa.PostF Go.Proofs.Ytadnldnmefhlcaa.PostN Go.Proofs.Ytadnldnmefhlcaa.PostNe Go.Proofs.Ytadnldnmefhlcaa.PostP Go.Proofs.Ytadnldnmefhlcaa.PostQ Go.Proofs.Ytadnldnmefhlcaa.PostR Go.Proofs.Ytadnldnmefhlcaa.RowsX Go.Proofs.Ytadnldnmefhlcaa.Lift Go.Proofs.Ytadnldnmefhlcaa.Steps Go.Proofs.Ytadnldnmefhlcaa.PoA
set_option linter.unusedVariables false
set_option linter.unusedSimpArgs false

def sx : ByteArray := ⟨#[120]⟩
def sy : ByteArray := ⟨#[121]⟩
def y1 (a : Int) (b : Bool) : Lt := ⟨1, 1, sx, a, b⟩
def y2 (a : Int) (b : Bool) : Lt := ⟨2, 2, sy, a, b⟩

section
variable (w : World) (p c : Nat)
theorem P1 (h : PostAt w p c 2 5 [] 0 0) : Calls Try.prog 9 #[.pointer (some ⟨p, 0, none⟩), .int .i64 1, .string sx] w fun e w' => e = .returned (.tuple #[.int .i64 1, .int .i64 0]) ∧ PostAt w' p c 2 5 [y1 0 false] 1 0 ∧ Ext (fun k => k = c ∨ k = p) w w' :=
  (Put_room w p c 2 5 [] 0 0 1 sx h (by omega) (by omega) (by omega) (by omega) (by decide)).mono fun e w' h => h
theorem P2 (h : PostAt w p c 2 5 [y1 0 false] 1 0) : Calls Try.prog 9 #[.pointer (some ⟨p, 0, none⟩), .int .i64 2, .string sy] w fun e w' => e = .returned (.tuple #[.int .i64 2, .int .i64 0]) ∧ PostAt w' p c 2 5 [y1 0 false, y2 0 false] 2 0 ∧ Ext (fun k => k = c ∨ k = p) w w' :=
  (Put_room w p c 2 5 [y1 0 false] 1 0 2 sy h (by omega) (by omega) (by omega) (by omega) (by show 1 < 2; omega)).mono fun e w' h => h
theorem P3 (s : ByteArray) (h : PostAt w p c 2 5 [y1 0 false, y2 0 false] 2 0) : Calls Try.prog 9 #[.pointer (some ⟨p, 0, none⟩), .int .i64 3, .string s] w fun e w' => e = .returned (.tuple #[.int .i64 0, .int .i64 8]) ∧ PostAt w' p c 2 5 [y1 0 false, y2 0 false] 2 1 ∧ Ext (fun k => k = c ∨ k = p) w w' :=
  (Put_full w p c 2 5 [y1 0 false, y2 0 false] 2 0 3 s h (by omega) (by omega) (by omega) (by omega) (by omega) (by omega) (by show 2 ≤ 2; omega)).mono fun e w' h => h
theorem P4 (s : ByteArray) : Calls Try.prog 9 #[.pointer (some ⟨p, 0, none⟩), .int .i64 (-1), .string s] w fun e w' => e = .returned (.tuple #[.int .i64 0, .int .i64 1]) ∧ w = w' :=
  Put_range w p (-1) s (.inl (by omega))
theorem D0 (h : PostAt w p c 2 5 [y1 0 false, y2 0 false] 2 1) : Calls Try.prog 12 #[.pointer (some ⟨p, 0, none⟩), .int .i64 0] w fun e w' => ∃ v, e = .returned v ∧ Ow w' w.heap.size 53 3 v 2 ([y1 0 false, y2 0 false].flatMap mc) ∧ PostAt w' p c 2 5 [y1 0 true, y2 0 true] 2 1 ∧ Ext (fun k => k = c) w w' :=
  (Due_ok w p c 2 5 _ 2 1 0 h (by omega) (by omega) (fun x hx hs => by simp [y1, y2] at hx; rcases hx with rfl | rfl <;> cases hs)).mono fun e w' h => h
theorem D4 (h : PostAt w p c 2 5 [y1 0 true, y2 0 true] 2 1) : Calls Try.prog 12 #[.pointer (some ⟨p, 0, none⟩), .int .i64 4] w fun e w' => ∃ v, e = .returned v ∧ Ow w' w.heap.size 53 3 v 0 [] ∧ PostAt w' p c 2 5 [y1 0 true, y2 0 true] 2 1 ∧ Ext (fun k => k = c) w w' :=
  (Due_ok w p c 2 5 _ 2 1 4 h (by omega) (by omega) (fun x hx hs => by simp [y1, y2] at hx; rcases hx with rfl | rfl <;> exact ⟨Int.le_refl _, by decide⟩)).mono fun e w' h => h
theorem D5 (h : PostAt w p c 2 5 [y1 0 true, y2 0 true] 2 1) : Calls Try.prog 12 #[.pointer (some ⟨p, 0, none⟩), .int .i64 5] w fun e w' => ∃ v, e = .returned v ∧ Ow w' w.heap.size 53 3 v 2 ([y1 0 true, y2 0 true].flatMap mc) ∧ PostAt w' p c 2 5 [y1 5 true, y2 5 true] 2 1 ∧ Ext (fun k => k = c) w w' :=
  (Due_ok w p c 2 5 _ 2 1 5 h (by omega) (by omega) (fun x hx hs => by simp [y1, y2] at hx; rcases hx with rfl | rfl <;> exact ⟨Int.le_refl _, by decide⟩)).mono fun e w' h => h
theorem Q1 (h : PostAt w p c 2 5 [y1 5 true, y2 5 true] 2 1) : Calls Try.prog 14 #[.pointer (some ⟨p, 0, none⟩), .int .i64 1] w fun e w' => e = .returned (.int .i64 0) ∧ PostAt w' p c 2 5 [y2 5 true] 2 1 ∧ Ext (fun k => k = c) w w' :=
  (Done_ok w p c 2 5 _ 2 1 1 h).mono fun e w' h => h
theorem Q2 (h : PostAt w p c 2 5 [y2 5 true] 2 1) : Calls Try.prog 14 #[.pointer (some ⟨p, 0, none⟩), .int .i64 1] w fun e w' => e = .returned (.int .i64 3) ∧ PostAt w' p c 2 5 [y2 5 true] 2 1 ∧ Ext (fun k => k = c) w w' :=
  (Done_ok w p c 2 5 _ 2 1 1 h).mono fun e w' h => h
theorem A1 (h : PostAt w p c 2 5 [y2 5 true] 2 1) : Calls Try.prog 16 #[.pointer (some ⟨p, 0, none⟩)] w fun e w' => ∃ v, e = .returned v ∧ Ow w' w.heap.size 53 3 v 1 ([y2 5 true].flatMap mc) ∧ PostAt w' p c 2 5 [y2 5 true] 2 1 ∧ Ext (fun k => k = c) w w' :=
  (All_ok w p c 2 5 _ 2 1 h).mono fun e w' h => h
theorem C1 (h : PostAt w p c 2 5 [y2 5 true] 2 1) : Calls Try.prog 15 #[.pointer (some ⟨p, 0, none⟩)] w fun e w' => e = .returned (.int .i64 1) ∧ PostAt w' p c 2 5 [] 2 1 ∧ Ext (fun k => k = c) w w' :=
  (Clear_ok w p c 2 5 _ 2 1 h).mono fun e w' h => h
theorem A2 (h : PostAt w p c 2 5 [] 2 1) : Calls Try.prog 16 #[.pointer (some ⟨p, 0, none⟩)] w fun e w' => ∃ v, e = .returned v ∧ Ow w' w.heap.size 53 3 v 0 [] ∧ PostAt w' p c 2 5 [] 2 1 ∧ Ext (fun k => k = c) w w' :=
  (All_ok w p c 2 5 _ 2 1 h).mono fun e w' h => h
end

theorem N1 (w : World) : Calls Try.prog 6 #[.int .i64 2, .int .i64 5] w fun e w' => e = .returned (.tuple #[.pointer (some ⟨w.heap.size + 1, 0, none⟩), .int .i64 0]) ∧ PostAt w' (w.heap.size + 1) w.heap.size 2 5 [] 0 0 ∧ Below w.heap.size w w' :=
  New_yes w 2 5 (by omega) (by omega) (by omega) (by omega)
theorem N2 (w : World) : Calls Try.prog 6 #[.int .i64 0, .int .i64 5] w fun e w' => e = .returned (.tuple #[.pointer none, .int .i64 1]) ∧ w = w' :=
  New_no w 0 5 (by decide)

theorem wpList_load_rowOG {P : Program} {ops : Array Oper} {rest : List Oper} {o : Oper} {a : Act} {w : World} {Q : Exit → Act → World → Prop} (hw : Region.wanted o (yielded ops a.tmps) = true) (ty : TypeId) (x : Operand) (ho : o.op = .load ty x) (b off : Nat) (hx : a.eval x = .pointer (some ⟨b, off, none⟩)) (cs : Array Value)
    (hc : ∀ j v, cs.toList[j]? = some v → w.cell? ⟨b, off + j, none⟩ = some v) {d : TypeDesc}
    (hu : P.underlying ty = some d) (hd : (match d with | .struct _ | .array _ _ => true | _ => false) = true) (hi : (P.info? ty).map (·.size) = some cs.size) (h : wpList P ops Q rest (a.put o.dst (.agg cs)) w) : wpList P ops Q (o :: rest) a w := by
  unfold wpList
  rw [if_pos hw]
  exact .inl (wp_load_rowO ty x ho b off hx cs hc hu hd hi h)

set_option maxRecDepth 100000 in
set_option maxHeartbeats 8000000 in
theorem lives_ok (w : World) : Calls Try.prog 5 #[] w fun e w' => e = .returned (.bool true) ∧ Below w.heap.size w w' := by
  go_enter Try.func5, Try.ntmps5
  go_wp2_with fail
  refine (N1 w).mono ?_
  rintro e w1 ⟨rfl, hp1, hb1⟩
  have HP1 := Lib.hid hp1
  have HE1 := Lib.hid (Ext.of_below (S := fun k => k = w.heap.size ∨ k = w.heap.size + 1) hb1)
  clear hp1 hb1
  go_wp2_with fail
  refine (N2 w1).mono ?_
  rintro e w1' ⟨rfl, rfl⟩
  go_wp2_with fail
  refine (P1 w1 _ _ HP1.out).mono ?_
  rintro e w2 ⟨rfl, hp, he⟩
  have HP2 := Lib.hid hp
  have HE2 := Lib.hid (HE1.out.step he (fun k hk h => by rcases h with h | h; exact .inl h; exact .inr h))
  clear hp he
  go_wp2_with fail
  refine (P2 w2 _ _ HP2.out).mono ?_
  rintro e w3 ⟨rfl, hp, he⟩
  have HP3 := Lib.hid hp
  have HE3 := Lib.hid (HE2.out.step he (fun k hk h => by rcases h with h | h; exact .inl h; exact .inr h))
  clear hp he
  go_wp2_with fail
  refine (P3 w3 _ _ _ HP3.out).mono ?_
  rintro e w4 ⟨rfl, hp, he⟩
  have HP4 := Lib.hid hp
  have HE4 := Lib.hid (HE3.out.step he (fun k hk h => by rcases h with h | h; exact .inl h; exact .inr h))
  clear hp he
  go_wp2_with fail
  refine (P4 w4 _ _).mono ?_
  rintro e w4' ⟨rfl, rfl⟩
  go_wp2_with fail
  refine (D0 w4 _ _ HP4.out).mono ?_
  rintro e w5 ⟨l, rfl, hl, hp, he⟩
  have HP5 := Lib.hid hp
  have HE5 := Lib.hid (HE4.out.step he (fun k hk h => .inl h))
  have HL5 := Lib.hid hl
  have lp5 : w.heap.size + 1 < w5.heap.size := lt_row hp.blk
  have lq4 : w.heap.size + 1 < w4.heap.size := lt_row HP4.out.blk
  clear hp he hl
  go_wp2_with fail
  refine (D4 w5 _ _ HP5.out).mono ?_
  rintro e w6 ⟨m, rfl, hm, hp, he⟩
  have HP6 := Lib.hid hp
  have HE6 := Lib.hid (HE5.out.step he (fun k hk h => .inl h))
  have HL6 := Lib.hid (HL5.out.ext he (fun q hq h => by have := (HL5.out.lt q hq).1; omega))
  have HM6 := Lib.hid hm
  clear hp he hm
  go_wp2_with fail
  refine (D5 w6 _ _ HP6.out).mono ?_
  rintro e w7 ⟨n, rfl, hn, hp, he⟩
  have HP7 := Lib.hid hp
  have HE7 := Lib.hid (HE6.out.step he (fun k hk h => .inl h))
  have HL7 := Lib.hid (HL6.out.ext he (fun q hq h => by have := (HL6.out.lt q hq).1; omega))
  have HN7 := Lib.hid hn
  clear hp he hn
  go_wp2_with fail
  refine (Q1 w7 _ _ HP7.out).mono ?_
  rintro e w8 ⟨rfl, hp, he⟩
  have HP8 := Lib.hid hp
  have HE8 := Lib.hid (HE7.out.step he (fun k hk h => .inl h))
  have HL8 := Lib.hid (HL7.out.ext he (fun q hq h => by have := (HL7.out.lt q hq).1; omega))
  clear hp he
  go_wp2_with fail
  refine (Q2 w8 _ _ HP8.out).mono ?_
  rintro e w9 ⟨rfl, hp, he⟩
  have HP9 := Lib.hid hp
  have HE9 := Lib.hid (HE8.out.step he (fun k hk h => .inl h))
  have HL9 := Lib.hid (HL8.out.ext he (fun q hq h => by have := (HL8.out.lt q hq).1; omega))
  clear hp he
  go_wp2_with fail
  refine (A1 w9 _ _ HP9.out).mono ?_
  rintro e w10 ⟨k, rfl, hk, hp, he⟩
  have HP10 := Lib.hid hp
  have HE10 := Lib.hid (HE9.out.step he (fun k hk h => .inl h))
  have HL10 := HL9.out.ext he (fun q hq h => by have := (HL9.out.lt q hq).1; omega)
  obtain ⟨am, cm, rfl, _, _⟩ := HM6.out.form
  obtain ⟨an, cn, rfl, _, _⟩ := HN7.out.form
  obtain ⟨al, cl, rfl, _, _⟩ := HL10.form
  obtain ⟨ak, ck, rfl, _, _⟩ := hk.form
  obtain ⟨bl, ol, rfl, _, hcl⟩ := row_cells (l := [y1 0 false, y2 0 false]) mcF (by omega) HL10.sl (k := 0) rfl
  obtain ⟨bk, ok, rfl, _, hck⟩ := row_cells (l := [y2 5 true]) mcF (by omega) hk.sl (k := 0) rfl
  have k0 : w10.cell? ⟨bl, ol, none⟩ = some (.int .i64 1) := by have := hcl 0 (.int .i64 1) rfl; simp only [Nat.zero_mul, Nat.add_zero] at this; exact this
  have k1 : w10.cell? ⟨bl, ol + 1, none⟩ = some (.int .i64 1) := by have := hcl 1 (.int .i64 1) rfl; simp only [Nat.zero_mul, Nat.add_zero] at this; exact this
  have k2 : w10.cell? ⟨bl, ol + 2, none⟩ = some (.string ⟨#[120]⟩) := by have := hcl 2 (.string ⟨#[120]⟩) rfl; simp only [Nat.zero_mul, Nat.add_zero] at this; exact this
  have kc : w10.cell? ⟨bk, ok, none⟩ = some (.int .i64 2) := by have := hck 0 (.int .i64 2) rfl; simp only [Nat.zero_mul, Nat.add_zero] at this; exact this
  clear hp he hk HL10 hcl hck HL5 HL6 HL7 HL8 HL9 HM6 HN7
  go_wp2_with fail
  clear k0 k1 k2 kc
  refine (Lost_ok w10 _ _ 2 5 _ 2 1 HP10.out).mono ?_
  rintro e w10' ⟨rfl, rfl⟩
  go_wp2_with fail
  refine (C1 w10 _ _ HP10.out).mono ?_
  rintro e w11 ⟨rfl, hp, he⟩
  have HP11 := Lib.hid hp
  have HE11 := Lib.hid (HE10.out.step he (fun k hk h => .inl h))
  clear hp he
  go_wp2_with fail
  refine (A2 w11 _ _ HP11.out).mono ?_
  rintro e w12 ⟨r, rfl, hr, hp, he⟩
  obtain ⟨ar, cr, rfl, _, _⟩ := hr.form
  have HE12 := Lib.hid (HE11.out.step he (fun k hk h => .inl h))
  clear hr hp he
  go_wp2
  go_ret
  exact ⟨rfl, HE12.out.below (fun k hk h => by omega)⟩

end Go.Proofs.Ytadnldnmefhlcaa.PoL
