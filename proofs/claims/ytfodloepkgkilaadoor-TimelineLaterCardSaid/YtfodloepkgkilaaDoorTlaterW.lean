/-
  WHAT IS PROVED: the statement's function that asks whether entries that come later change nothing else answers true. Condition: the variables hold what 'VarsR' says, and the entries' bytes are not longer than the theorem says.
-/
import Derived.Test.YtfodloepkgkilaaDoorTlives
namespace Go.Proofs.YtfodloepkgkilaaDoor.TlaterW
open Go Go.RowKit Go.Shelf Go.Proofs.YtfodloepkgkilaaDoor Go.Proofs.YtfodloepkgkilaaDoor.OctP Go.Proofs.YtfodloepkgkilaaDoor.IdentP Go.Proofs.YtfodloepkgkilaaDoor.EventP Go.Proofs.YtfodloepkgkilaaDoor.EventS Go.Proofs.YtfodloepkgkilaaDoor.ShaS Go.Proofs.YtfodloepkgkilaaDoor.RedactS Go.Proofs.YtfodloepkgkilaaDoor.RedA Go.Proofs.YtfodloepkgkilaaDoor.RowsX Go.Proofs.YtfodloepkgkilaaDoor.Lift Go.Proofs.YtfodloepkgkilaaDoor.Tline Go.Proofs.YtfodloepkgkilaaDoor.Tlist Go.Proofs.YtfodloepkgkilaaDoor.Tread Go.Proofs.YtfodloepkgkilaaDoor.Ttake Go.Proofs.YtfodloepkgkilaaDoor.Tmsg Go.Proofs.YtfodloepkgkilaaDoor.Tof Go.Proofs.YtfodloepkgkilaaDoor.Tgone Go.Proofs.YtfodloepkgkilaaDoor.Tlives
set_option linter.unusedVariables false
set_option linter.unusedSimpArgs false

/-! ### What comes later -/
theorem rdE_from : ∀ (i : Nat) (l : List En) (x : Rd), x ∈ rdE i l → i ≤ x.1.1
  | _, [], x, h => by simp [rdE] at h
  | i, a :: r, x, h => by
    rw [rdE, List.mem_append] at h
    rcases h with h | h
    · unfold oneE at h
      split at h
      · split at h
        · simp only [List.mem_cons, List.not_mem_nil, or_false] at h
          rw [h]
          exact Nat.le_refl _
        · cases h
      · cases h
    · have := rdE_from (i + 1) r x h
      omega
theorem last_later (s : List UInt8) (k j : Nat) (hj : j < k) : ∀ (T2 : List Rd) (r : Option Nat), (∀ x ∈ T2, k ≤ x.1.1) → (∃ c, r = some c ∧ j < c) → ∃ c, T2.foldl (lastStep s) r = some c ∧ j < c
  | [], r, _, h => h
  | x :: t, r, hx, h => by
    refine last_later s k j hj t _ (fun y hy => hx y (List.mem_cons_of_mem _ hy)) ?_
    unfold lastStep
    split
    · exact ⟨_, rfl, by have := hx x (List.mem_cons_self ..); omega⟩
    · exact h
theorem gone_later {T1 T2 : List Rd} {k : Nat} {x : Rd} (hx : x.1.1 < k) (h2 : ∀ y ∈ T2, k ≤ y.1.1) (h : goneAt T1 x = true) : goneAt (T1 ++ T2) x = true := by
  unfold goneAt at h
  split at h
  · rename_i c hc
    obtain ⟨c', h1, h3⟩ := last_later (hex (refSum x.1.2)) k x.1.1 hx T2 (lastOf (hex (refSum x.1.2)) T1) h2 ⟨c, hc, by simpa using h⟩
    have e : lastOf (hex (refSum x.1.2)) (T1 ++ T2) = some c' := by
      rw [← h1]
      unfold lastOf
      rw [List.foldl_append]
    rw [goneAt_some e]
    simpa using h3
  · cases h
structure MgL (k : Nat) (m m' : Mg) : Prop where
  i : m'.i = m.i
  e : m'.e = m.e
  g : m.gone = true → m'.gone = true
  lt : m.i < k
theorem sub_later {T1 T2 : List Rd} {k : Nat} (h2 : ∀ y ∈ T2, k ≤ y.1.1) : ∀ S : List Rd, (∀ x ∈ S, x.1.1 < k) → (S.flatMap (mgOf T1)).length = (S.flatMap (mgOf (T1 ++ T2))).length ∧
    (∀ (i : Nat) (m : Mg), (S.flatMap (mgOf T1))[i]? = some m → ∃ m', (S.flatMap (mgOf (T1 ++ T2)))[i]? = some m' ∧ MgL k m m') ∧
    ((S.flatMap (mgOf T1)).filter Mg.gone).length ≤ ((S.flatMap (mgOf (T1 ++ T2))).filter Mg.gone).length
  | [], _ => ⟨rfl, fun i m h => by simp at h, by simp⟩
  | x :: r, hS => by
    obtain ⟨i1, i2, i3⟩ := sub_later h2 r (fun y hy => hS y (List.mem_cons_of_mem _ hy))
    have hx := hS x (List.mem_cons_self ..)
    rw [List.flatMap_cons, List.flatMap_cons]
    by_cases hk : x.1.2.kind = 6
    · rw [mgOf_yes hk, mgOf_yes hk]
      refine ⟨by rw [List.length_append, List.length_append, i1]; rfl, fun i m h => ?_, ?_⟩
      · cases i with
        | zero =>
          simp only [List.cons_append, List.nil_append, List.getElem?_cons_zero, Option.some.injEq] at h ⊢
          subst h
          exact ⟨_, rfl, ⟨rfl, rfl, fun hg => gone_later hx h2 hg, hx⟩⟩
        | succ i =>
          simp only [List.cons_append, List.nil_append, List.getElem?_cons_succ] at h ⊢
          exact i2 i m h
      · simp only [List.cons_append, List.nil_append, List.filter_cons]
        cases h1 : goneAt T1 x
        · cases goneAt (T1 ++ T2) x <;> simp <;> omega
        · rw [gone_later hx h2 h1]
          simpa using i3
    · rw [mgOf_no hk, mgOf_no hk]
      exact ⟨i1, i2, i3⟩

/-- One line later on. -/
def LaterL (x y : Ln) : Prop := y = x ∨ (y.ix = x.ix ∧ y.sd = x.sd ∧ y.gone = true ∧ y.bd = ⟨#[]⟩)
theorem ln_later {L : List En} {k : Nat} {m m' : Mg} (h : MgL k m m') : LaterL (lnOf (L.take k) m) (lnOf L m') := by
  have hix : ixAt (L.take k) m.i = ixAt L m'.i := by
    unfold ixAt
    rw [h.i, List.getElem?_take, if_pos h.lt]
  unfold LaterL lnOf
  rw [hix, h.e]
  cases hg : m.gone
  · cases hg' : m'.gone
    · exact .inl rfl
    · exact .inr ⟨rfl, rfl, rfl, rfl⟩
  · rw [h.g hg]
    exact .inl rfl
theorem lines_later (L : List En) (k : Nat) (hk : k ≤ L.length) : (linesE (L.take k)).length ≤ (linesE L).length ∧
    (∀ (i : Nat) (x : Ln), (linesE (L.take k))[i]? = some x → ∃ y, (linesE L)[i]? = some y ∧ LaterL x y) ∧ (goneL (L.take k)).length ≤ (goneL L).length := by
  have hs : rdE 0 L = rdE 0 (L.take k) ++ rdE k (L.drop k) := by
    have := rdE_app 0 (L.take k) (L.drop k)
    rw [List.take_append_drop, Nat.zero_add, List.length_take, Nat.min_eq_left hk] at this
    exact this
  obtain ⟨h1, h2, h3⟩ := sub_later (T1 := rdE 0 (L.take k)) (T2 := rdE k (L.drop k)) (k := k) (fun y hy => rdE_from k _ y hy) (rdE 0 (L.take k)) (fun x hx => by
    have := rdE_lt 0 _ x hx
    rw [List.length_take] at this
    omega)
  have hm : msgs L = (rdE 0 (L.take k)).flatMap (mgOf (rdE 0 (L.take k) ++ rdE k (L.drop k))) ++ (rdE k (L.drop k)).flatMap (mgOf (rdE 0 (L.take k) ++ rdE k (L.drop k))) := by
    unfold msgs
    rw [hs, List.flatMap_append]
  rw [← hs] at hm h1 h2 h3
  unfold linesE goneL
  rw [hm]
  have hm1 : msgs (L.take k) = (rdE 0 (L.take k)).flatMap (mgOf (rdE 0 (L.take k))) := rfl
  rw [hm1]
  refine ⟨by simp only [List.length_map, List.length_append]; omega, fun i x hx => ?_, ?_⟩
  · rw [List.getElem?_map] at hx
    cases hxm : ((rdE 0 (L.take k)).flatMap (mgOf (rdE 0 (L.take k))))[i]? with
    | none => rw [hxm] at hx; cases hx
    | some m =>
      rw [hxm] at hx
      simp only [Option.map_some, Option.some.injEq] at hx
      obtain ⟨m', hm', hr⟩ := h2 i m hxm
      refine ⟨lnOf L m', ?_, by rw [← hx]; exact ln_later hr⟩
      have hi := (List.getElem?_eq_some_iff.1 hm').1
      rw [List.getElem?_map, List.getElem?_append_left hi, hm']
      rfl
  · simp only [List.length_map, List.filter_append, List.length_append]
    omega

/-! ### == of any two lines -/
def lnEq (ix : Int) (sd bd : ByteArray) (g : Bool) (ix' : Int) (sd' bd' : ByteArray) (g' : Bool) : Bool := ix == ix' && (sd.toList == sd'.toList && (bd.toList == bd'.toList && g == g'))
theorem lnEq_self (ix : Int) (sd bd : ByteArray) (g : Bool) : lnEq ix sd bd g ix sd bd g = true := by simp [lnEq]
set_option maxHeartbeats 1000000 in
theorem eqLnG (ix : Int) (sd bd : ByteArray) (g : Bool) (ix' : Int) (sd' bd' : ByteArray) (g' : Bool) (w : World) : (Op.equalIn 10000 63 (.agg #[.int .i64 ix, .string sd, .string bd, .bool g]) (.agg #[.int .i64 ix', .string sd', .string bd', .bool g'])).run Tryd.prog w =
    .ok (lnEq ix sd bd g ix' sd' bd' g') w := by
  have u3 : Tryd.prog.underlying 3 = some (.int .i64) := by kernel_rfl
  have u4 : Tryd.prog.underlying 4 = some .bool := by kernel_rfl
  have u9 : Tryd.prog.underlying 9 = some .string := by kernel_rfl
  have hS : Tryd.prog.underlying 63 = some (.struct (Tryd.prog.fieldsOf 63)) := by kernel_rfl
  have hF : (Tryd.prog.fieldsOf 63).toList = [⟨"Index", 3, 0, false, "", "", 0⟩, ⟨"Sender", 9, 1, false, "", "", 8⟩, ⟨"Body", 9, 2, false, "", "", 24⟩, ⟨"Gone", 4, 3, false, "", "", 40⟩] := by kernel_rfl
  have hp : Tryd.prog.stoodInHeld 63 = false := by kernel_rfl
  rw [show (10000 : Nat) = 9999 + 1 from rfl, run_equalIn_agg w 9999 63 _ _ hS hp, hF]
  unfold lnEq
  go_simp
  cases h1 : ix == ix' <;> cases h2 : sd.toList == sd'.toList <;> cases h3 : bd.toList == bd'.toList <;> cases h4 : g == g' <;> simp_all
attribute [local go_sem] eqLnG
attribute [-go_sem] run_equalIn_agg

theorem take_sl {w : World} {a : Option Addr} {cap : Nat} {L : List En} (h : Sl w (.slice a L.length cap) 37 L.length (enV L)) {k : Nat} (hk : k ≤ L.length) : Sl w (.slice a k cap) 37 (L.take k).length (enV (L.take k)) := by
  have hl : (L.take k).length = k := by rw [List.length_take]; omega
  have he : (enV L).take (k * 37) = enV (L.take k) := by
    have h1 : enV L = enV (L.take k) ++ enV (L.drop k) := by
      unfold enV
      rw [← List.flatMap_append, List.take_append_drop]
    rw [h1, List.take_left' (by unfold enV; rw [enF.total, hl])]
  rw [hl]
  cases a with
  | none =>
    have h0 : L = [] := by
      rcases h.2 with ⟨_, h⟩ | ⟨a, c, h, _⟩
      · exact List.length_eq_zero_iff.1 h
      · cases h
    subst h0
    obtain rfl : k = 0 := by simpa using hk
    exact h
  | some a =>
    have := h.take (m := k) hk
    rw [he] at this
    exact this

set_option maxRecDepth 100000 in
set_option maxHeartbeats 8000000 in
theorem later_ok (w : World) (hv : VarsR w) (v : Value) (L : List En) (n : Int) (hs : Sl w v 37 L.length (enV L)) (hb : ∀ x ∈ L, x.ev.size ≤ 140737488351232) :
    Calls Tryd.prog 11 #[v, .int .i64 n] w (RB (.bool true) w) := by
  obtain ⟨a, cap, rfl, hcap, hm⟩ := hs.form
  have hlen : L.length ≤ 9223372036854775807 := by unfold maxLen at hm; omega
  have hm' : cap ≤ 9223372036854775807 := by unfold maxLen at hm; omega
  have HS := Lib.hid hs
  have HBd := Lib.hid hb
  have HV := Lib.hid hv
  clear hs hb hv hm
  have hcase : 60 < (L.length : Int) ∨ (¬ 60 < (L.length : Int) ∧ n < 0) ∨ (¬ 60 < (L.length : Int) ∧ ¬ n < 0 ∧ (L.length : Int) < n) ∨ ∃ k : Nat, n = k ∧ k ≤ L.length ∧ ¬ 60 < (L.length : Int) := by
    rcases Int.lt_or_le n 0 with h | h
    · omega
    · by_cases h1 : 60 < (L.length : Int)
      · exact .inl h1
      · by_cases h2 : (L.length : Int) < n
        · exact .inr (.inr (.inl ⟨h1, by omega, h2⟩))
        · exact .inr (.inr (.inr ⟨n.toNat, by omega, by omega, h1⟩))
  rcases hcase with h1 | ⟨h1, h2⟩ | ⟨h1, h2, h3⟩ | ⟨k, rfl, hk, h1⟩
  all_goals
    go_enter Tryd.func11, Tryd.ntmps11
    go_wp2_with fail
    refine (lives_ok w HV.out).mono ?_
    rintro e w1 ⟨rfl, hb⟩
    have HB1 := Lib.hid hb
    have HV1 := Lib.hid (HV.out.below hb)
    have HS1 := Lib.hid (HS.out.below hb)
    clear hb
  · go_wp2
    go_ret
    exact ⟨rfl, HB1.out⟩
  · go_wp2
    go_ret
    exact ⟨rfl, HB1.out⟩
  · go_wp2
    go_ret
    exact ⟨rfl, HB1.out⟩
  · have hlk : (L.take k).length = k := by rw [List.length_take]; omega
    obtain ⟨hL1, hL2, hL3⟩ := lines_later L k hk
    have hO1 := fun w v hs hv => Of_ok w v (L.take k) hs hv (fun x hx => HBd.out x (List.mem_of_mem_take hx)) (by omega)
    have hO2 := fun w v hs hv => Of_ok w v L hs hv HBd.out (by omega)
    have hG1 := fun w v hs hv => Gone_ok w v (L.take k) hs hv (fun x hx => HBd.out x (List.mem_of_mem_take hx)) (by omega)
    have hG2 := fun w v hs hv => Gone_ok w v L hs hv HBd.out (by omega)
    obtain ⟨A, hA⟩ : ∃ A, A = linesE (L.take k) := ⟨_, rfl⟩
    obtain ⟨B, hB⟩ : ∃ B, B = linesE L := ⟨_, rfl⟩
    obtain ⟨P, hP⟩ : ∃ P, P = goneL (L.take k) := ⟨_, rfl⟩
    obtain ⟨Q, hQ⟩ : ∃ Q, Q = goneL L := ⟨_, rfl⟩
    have hAl : A.length ≤ L.length := by rw [hA]; unfold linesE; rw [List.length_map]; have := msgs_len (L.take k); omega
    have hBl : B.length ≤ L.length := by rw [hB]; unfold linesE; rw [List.length_map]; exact msgs_len L
    rw [← hA] at hL1 hL2 hO1
    rw [← hB] at hL1 hL2 hO2
    rw [← hP] at hL3 hG1
    rw [← hQ] at hL3 hG2
    have HO1 := Lib.hid hO1
    have HO2 := Lib.hid hO2
    have HG1 := Lib.hid hG1
    have HG2 := Lib.hid hG2
    have HL2 := Lib.hid hL2
    have hG := guardLn
    clear hA hB hP hQ hO1 hO2 hG1 hG2 hL2
    go_wp2_with fail
    refine (HO1.out w1 _ (take_sl HS1.out hk) HV1.out).mono ?_
    rintro e w2 ⟨va, rfl, hA⟩
    obtain ⟨aa, ca, rfl⟩ : ∃ a c, va = .slice a A.length c := by obtain ⟨a, c, h, _⟩ := hA.own.form; exact ⟨a, c, h⟩
    have HB2 := Lib.hid (HB1.out.trans (hA.bel.mono HB1.out.size))
    have HV2 := Lib.hid (HV1.out.below hA.bel)
    have HS2 := Lib.hid (HS1.out.below hA.bel)
    have HA2 := Lib.hid (show Sl w2 (.slice aa A.length ca) 4 A.length (lnV A) from hA.sl)
    clear hA
    go_wp2_with fail
    refine (HO2.out w2 _ HS2.out HV2.out).mono ?_
    rintro e w3 ⟨vb, rfl, hA⟩
    obtain ⟨ba, cb, rfl⟩ : ∃ a c, vb = .slice a B.length c := by obtain ⟨a, c, h, _⟩ := hA.own.form; exact ⟨a, c, h⟩
    have HB3 := Lib.hid (HB2.out.trans (hA.bel.mono HB2.out.size))
    have HV3 := Lib.hid (HV2.out.below hA.bel)
    have HS3 := Lib.hid (HS2.out.below hA.bel)
    have HA3 := Lib.hid (HA2.out.below hA.bel)
    have HBB3 := Lib.hid (show Sl w3 (.slice ba B.length cb) 4 B.length (lnV B) from hA.sl)
    clear hA
    go_wp2
    go_loopw [38] (fun i wr => ∃ j : Nat, i = .int .i64 j ∧ j ≤ A.length ∧ Below w3.heap.size w3 wr) (fun i _ => A.length - (intOf i).toNat)
    case atStart => exact ⟨0, rfl, by omega, Below.refl _ _⟩
    case round =>
      obtain ⟨j, rfl, hj, hbr⟩ := hrel
      by_cases hjl : j < A.length
      · obtain ⟨⟨ix, sd, bd, gone⟩, hx⟩ : ∃ x, A[j]? = some x := ⟨_, List.getElem?_eq_getElem hjl⟩
        obtain ⟨y, hy, hr⟩ := HL2.out j _ hx
        have hjB : j < B.length := by omega
        obtain ⟨ab, ao, rfl, hab, g0, g1, g2, g3⟩ := ln_cells HA3.out j _ hx
        obtain ⟨bb, bo, rfl, hbb, k0, k1, k2, k3⟩ := ln_cells HBB3.out j _ hy
        have q0 := (hbr.cell (p := ⟨ab, ao + j * 4, none⟩) hab).trans g0
        have q1 := (hbr.cell (p := ⟨ab, ao + j * 4 + 1, none⟩) hab).trans g1
        have q2 := (hbr.cell (p := ⟨ab, ao + j * 4 + 2, none⟩) hab).trans g2
        have q3 := (hbr.cell (p := ⟨ab, ao + j * 4 + 3, none⟩) hab).trans g3
        have r0 := (hbr.cell (p := ⟨bb, bo + j * 4, none⟩) hbb).trans k0
        have r1 := (hbr.cell (p := ⟨bb, bo + j * 4 + 1, none⟩) hbb).trans k1
        have r2 := (hbr.cell (p := ⟨bb, bo + j * 4 + 2, none⟩) hbb).trans k2
        have r3 := (hbr.cell (p := ⟨bb, bo + j * 4 + 3, none⟩) hbb).trans k3
        have hbr' := Lib.hid hbr
        have hlb : bb < wr.heap.size := World.block_lt_of_cell? _ _ r0
        have hla : ab < wr.heap.size := World.block_lt_of_cell? _ _ q0
        have nb : ¬ bb = wr.heap.size := by omega
        clear hx hy g0 g1 g2 g3 k0 k1 k2 k3 hbr
        have hcases : (y = ⟨ix, sd, bd, gone⟩) ∨ ∃ q, y = ⟨ix, sd, ⟨#[]⟩, true⟩ ∧ q = lnEq ix sd ⟨#[]⟩ true ix sd bd gone := by
          rcases hr with h | ⟨h1, h2, h3, h4⟩
          · exact .inl h
          · refine .inr ⟨_, ?_, rfl⟩
            cases y
            simp only at h1 h2 h3 h4
            rw [h1, h2, h3, h4]
        clear hr
        have hne : bd.size ≤ bd.size := Nat.le_refl _
        rcases hcases with rfl | ⟨q, rfl, hq⟩
        · have hself := lnEq_self ix sd bd gone
          simp only at q0 q1 q2 q3 r0 r1 r2 r3
          cases gone
          all_goals
            go_wp2
            go_roundw
            case rel => exact ⟨j + 1, by go_num, by omega, (hbr'.out.alloc hbr'.out.size _).alloc (by simp; have := hbr'.out.size; omega) _⟩
            case measure => simp [intOf]; omega
        · simp only at q0 q1 q2 q3 r0 r1 r2 r3
          have hq' := hq.symm
          clear hq
          cases q <;> cases gone
          all_goals
            go_wp2
            go_roundw
            case rel => exact ⟨j + 1, by go_num, by omega, (hbr'.out.alloc hbr'.out.size _).alloc (by simp; have := hbr'.out.size; omega) _⟩
            case measure => simp [intOf]; omega
      · obtain rfl : j = A.length := by omega
        have HVr := Lib.hid (HV3.out.below hbr)
        have HSr := Lib.hid (HS3.out.below hbr)
        have HBr := Lib.hid (HB3.out.trans (hbr.mono HB3.out.size))
        clear hbr
        go_wp2_with fail
        refine (HG1.out wr _ (take_sl HSr.out hk) HVr.out).mono ?_
        rintro e w5 ⟨vp, rfl, hA⟩
        obtain ⟨ap, cp, rfl⟩ : ∃ a c, vp = .slice a P.length c := by obtain ⟨a, c, h, _⟩ := hA.own.form; exact ⟨a, c, h⟩
        have HB5 := Lib.hid (HBr.out.trans (hA.bel.mono HBr.out.size))
        have HV5 := Lib.hid (HVr.out.below hA.bel)
        have HS5 := Lib.hid (HSr.out.below hA.bel)
        clear hA
        go_wp2_with fail
        refine (HG2.out w5 _ HS5.out HV5.out).mono ?_
        rintro e w6 ⟨vq, rfl, hA⟩
        obtain ⟨aq, cq, rfl⟩ : ∃ a c, vq = .slice a Q.length c := by obtain ⟨a, c, h, _⟩ := hA.own.form; exact ⟨a, c, h⟩
        have HB6 := Lib.hid (HB5.out.trans (hA.bel.mono HB5.out.size))
        clear hA
        go_wp2
        go_ret
        exact ⟨rfl, HB6.out⟩

end Go.Proofs.YtfodloepkgkilaaDoor.TlaterW
