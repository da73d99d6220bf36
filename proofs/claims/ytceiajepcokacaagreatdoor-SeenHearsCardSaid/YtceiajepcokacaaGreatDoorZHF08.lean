/-
  WHAT IS PROVED: contracts and plain laws. Condition: each names its own.
-/
import Derived.Test.YtceiajepcokacaaGreatDoorS0
import Derived.Test.YtceiajepcokacaaGreatDoorZHF03
import Derived.Test.YtceiajepcokacaaGreatDoorZHF07
import Derived.LoopN
set_option linter.unusedVariables false
set_option linter.unusedSimpArgs false
set_option maxRecDepth 100000
set_option maxHeartbeats 4000000
namespace Go.Proofs.YtceiajepcokacaaGreatDoor
open Go.Proofs.Tryz
namespace KeyA
open Go Go.RowKit Go.Shelf OctP RowsX ShaS KeyS ShaA ShaB Steps
def RB (v : Value) (w : World) (e : Ending) (w' : World) : Prop := e = .returned v ∧ Below w.heap.size w w'
/-! ### Gathering -/
section
variable {α : Type} {P : Program} {t e : TypeId} {size bytes : Nat} {z : Value} {f : α → List Value}
theorem NP {ops : Array Oper} {rest : List Oper} {o : Oper} {a : Act} {Q : Exit → Act → World → Prop} (T : BN P t e size bytes z) (F : El size f) {w0 w : World} {v u : Value} {l m : List α} (A : AccR e size f w0 w v l) (hu : Sl w u size m.length (m.flatMap f))
 (hgd : o.guard = none) (s y : Operand) (ho : o.op = .call { callee := .builtin .append, args := #[s, y], argTypes := #[t, t] }) (hv : a.eval s = v)
 (hy : a.eval y = u) (hl : l.length + m.length ≤ maxLen) (hb : (l.length + m.length) * bytes ≤ 140737488355328)
 (h : ∀ v' w', AccR e size f w0 w' v' (l ++ m) → wpList P ops Q rest (a.put o.dst v') w') : wpList P ops Q (o :: rest) a w := by
 refine Al _ hgd s y _ _ ho T w0.heap.size v l.length (l.flatMap f) hv A.own u m.length (m.flatMap f) hy (hu.src T.ht (fun q hq => ?_)) (l.length + m.length) rfl ((l ++ m).flatMap f) (by rw [List.flatMap_append]) hl hb A.bel.size ?_
 ·obtain ⟨x, _, hx⟩ := List.mem_flatMap.1 hq
  exact F.one x q hx
 ·intro a' c' w' hown hgrow _
  refine h _ _ ⟨?_, Bl.grown A.bel hgrow (fun j hj => (A.own.lt j hj).1)⟩
  rw [List.length_append]
  exact hown
end
def inN (n : Nat) : List Value := [.int .i64 n]
theorem inF : El 1 inN := ⟨fun _ => rfl, fun x u hu => by simp [inN] at hu; rw [hu]; rfl⟩
theorem Dp : BN Tryz.prog 151 3 1 8 (.int .i64 0) := BN.mk' (by kernel_rfl) (by kernel_rfl) rfl (by omega)
abbrev AccN (w0 w : World) (v : Value) (l : List Nat) : Prop := AccR 3 1 inN w0 w v l
theorem Pv (l : List Nat) : l.flatMap inN = l.map fun (n : Nat) => Value.int .i64 (n : Int) := by
 induction l with
 | nil => rfl
 | cons x r ih => rw [List.flatMap_cons, ih]; rfl
def SlN (w : World) (v : Value) (l : List Nat) : Prop := Sl w v 1 l.length (l.flatMap inN)
theorem SlN.below {w w' : World} {v : Value} {l : List Nat} (h : SlN w v l) (hb : Below w.heap.size w w') : SlN w' v l := Sl.below h hb
theorem SlN.cells {w : World} {v : Value} {l : List Nat} (h : SlN w v l) (h0 : 0 < l.length) : ∃ b o cap, v = .slice (some ⟨b, o, none⟩) l.length cap ∧ b < w.heap.size ∧ ∀ (k x : Nat), l[k]? = some x → w.cell? ⟨b, o + k, none⟩ = some (.int .i64 (x : Int)) := by
 obtain ⟨a, cap, rfl, _⟩ := Sl.form h
 obtain ⟨b, o, rfl, hlt, hc⟩ := Sl.plain h (by rw [Pv, List.length_map]; exact h0)
 refine ⟨b, o, cap, rfl, hlt, fun k x hx => hc k _ ?_⟩
 rw [Pv, List.getElem?_map, hx]
 rfl
/-! ### The first bytes of a sum -/
theorem PE (w : World) (s : ByteArray) (hs : s.size ≤ 140737488355328) (hk : Au w) : Calls Tryz.prog 57 #[.string s] w (RB (.string (bsOf (mid (bl s)))) w) := by
 obtain ⟨S, hS⟩ := nXe (sum (bl s))
 have hl : S.length = 32 := by rw [hS]; exact Bb _
 have hmid : mid (bl s) = S.take 16 := by rw [hS]; rfl
 rw [hmid]
 have hC := fun w hk => ShaM.Ee w s hs hk
 rw [← hS] at hC
 clear hS hmid
 obtain ⟨X, hX⟩ := nXe ((byV S).toArray)
 have hXn : X.size = 32 := by rw [hX]; simp [byV, hl]
 have HXS : Hid ((Tryz.prog.info? 44).map (·.size) = some X.size) := lh (by rw [hXn]; kernel_rfl)
 have HXN : Hid (32 = X.size) := lh hXn.symm
 have HXO : Hid (X.all (·.oneCell') = true) := lh (by rw [hX]; simp [byV, Value.oneCell'])
 have HX := lh hX
 rw [← hX] at hC
 obtain ⟨HC, HL, HV⟩ := l3h hC hl hk
 clear hC hX hXn hl hk
 go_enter func57, ntmps57
 go_wp2_with fail
 refine (HC.out w HV.out).mono ?_
 rintro e w1 ⟨rfl, hb⟩
 have HB1 := lh hb
 clear hb
 go_wp2_with (first | (refine AC rfl _ _ _ rfl w1.heap.size X rfl rfl _ _ (AL _ _) HXS.out (by rw [← HXN.out]; rfl) HXO.out ?_) | fail)
 intro u1 hu1
 have hb : Below w1.heap.size w1 u1 := by rw [hu1.out]; exact AQ bAx nR _
 have hy : u1.heap[w1.heap.size]? = some (.cells X 44 (0, 0)) := by rw [hu1.out]; exact AR (AL _ _)
 clear hu1
 obtain ⟨w2, hww⟩ : ∃ w', w' = u1 := ⟨_, rfl⟩
 rw [← hww] at hb hy ⊢
 clear hww
 have HB2 := tbB HB1 hb
 have hsl : Sl w2 (.slice (some ⟨w1.heap.size, 0, none⟩) 16 32) 1 (S.take 16).length (byV (S.take 16)) := by
  have h32 := EventB.EW (n := 32) hy HXN.out (by simp [maxLen])
  rw [HX.out] at h32
  have h16 := Sl.take h32 (show 16 ≤ 32 by omega)
  have e : (S.take 16).length = 16 := by rw [List.length_take, HL.out]; rfl
  rw [e]
  simpa [byV, List.map_take] using h16
 have hcv := BX w2 100 9 5 underlying100 underlying5 underlying9 _ _ hsl
 have Hy := lh hy
 clear hb hsl
 obtain ⟨cx, fx⟩ := AA Hy.out
 clear hy
 go_wp2
 go_ret
 exact ⟨rfl, HB2.out⟩
/-! ### Steps -/
theorem Td (w : World) (s : ByteArray) (n : Nat) (hs : s.size = 16) (hn : n ≤ 3) (hk : Au w) : Calls Tryz.prog 55 #[.string s, .int .i64 n] w (RB (.string (bsOf (on n (bl s)))) w) := by
 have hC := fun w hk s hs => PE w s hs hk
 obtain ⟨HC, HV⟩ := l2h hC hk
 clear hC hk
 go_enter func55, ntmps55
 go_wp2
 go_loopw [0, 6] (fun x i wr => ∃ (k : Nat) (X : ByteArray), x = .string X ∧ i = .int .i64 k ∧ k ≤ n ∧ X.size = 16 ∧ Hid (on (n - k) (bl X) = on n (bl s)) ∧ Au wr ∧ Below w.heap.size w wr)
  (fun _ i _ => n - (intOf i).toNat)
 case atStart => exact ⟨0, s, rfl, rfl, by omega, hs, lh rfl, HV.out, Below.refl _ _⟩
 case round =>
  obtain ⟨k, X, rfl, rfl, hk, hX, hon, hv, hb⟩ := hrel
  obtain ⟨Hv, Hb⟩ := l2h hv hb
  clear hv hb
  by_cases hlt : k < n
  ·skip
   obtain ⟨Y, hY⟩ := nXe (bsOf [2] ++ X)
   have hYb : bl Y = 2 :: bl X := by rw [hY]; simp [bl, bsOf]
   have hYs : Y.size = 17 := by rw [← AP, hYb, List.length_cons, AP, hX]
   have hcat : (⟨#[2]⟩ ++ X : ByteArray) = Y := hY.symm
   have hlen : ¬ 9223372036854775807 < 1 + X.size := by omega
   obtain ⟨HYb, HYs⟩ := l2h hYb hYs
   clear hY hYb hYs
   go_wp2_with fail
   refine (HC.out wr Hv.out Y (by have := HYs.out; omega)).mono ?_
   rintro e w1 ⟨rfl, hb⟩
   have Hb1 := tbB Hb hb
   have Hv1 := lh (Hv.out.below hb)
   clear hb
   go_wp2
   go_roundw
   case rel => exact ⟨k + 1, _, rfl, by go_num, by omega, by rw [AY, Cx], lh (by rw [← hon.out, AV, HYb.out, show n - k = (n - (k + 1)) + 1 by omega]; rfl), Hv1.out, Hb1.out⟩
   case measure => simp [intOf]; omega
  ·obtain rfl : k = n := by omega
   go_wp2
   go_ret
   refine ⟨?_, Hb.out⟩
   have h := hon.out
   rw [Nat.sub_self] at h
   rw [← h]
   show Ending.returned (.string X) = .returned (.string (bsOf (bl X)))
   rw [CG]
/-! ### Digits -/
theorem ah : ∀ a : Fin 256, bits .and .i64 (a.val : Int) 3 = ((a.val % 4 : Nat) : Int) := by decide +kernel
theorem RY (n : Nat) (h : n < 256) : bits .and .i64 (n : Int) 3 = ((n % 4 : Nat) : Int) := ah ⟨n, h⟩
theorem PP (w : World) (n : Nat) (hn : n < 256) : Calls Tryz.prog 111 #[.int .i64 n, .int .i64 4] w fun e w' => ∃ v, e = .returned v ∧ AccN w w' v (CR n) := by
 unfold CR
 obtain ⟨n1, hn1⟩ := nXe (n / 4)
 obtain ⟨n2, hn2⟩ := nXe (n / 16)
 obtain ⟨n3, hn3⟩ := nXe (n / 64)
 have b1 : n1 < 256 := by omega
 have b2 : n2 < 256 := by omega
 have b3 : n3 < 256 := by omega
 have s1 : (n : Int) / 4 = (n1 : Int) := by omega
 have s2 : (n1 : Int) / 4 = (n2 : Int) := by omega
 have s3 : (n2 : Int) / 4 = (n3 : Int) := by omega
 rw [← hn1, ← hn2, ← hn3]
 have a0 := RY n (by omega)
 obtain ⟨d0, hd0⟩ := nXe (n % 4)
 rw [← hd0] at a0
 have a1 := RY n1 (by omega)
 obtain ⟨d1, hd1⟩ := nXe (n1 % 4)
 rw [← hd1] at a1
 have a2 := RY n2 (by omega)
 obtain ⟨d2, hd2⟩ := nXe (n2 % 4)
 rw [← hd2] at a2
 have a3 := RY n3 (by omega)
 obtain ⟨d3, hd3⟩ := nXe (n3 % 4)
 rw [← hd3] at a3
 rw [← hd0, ← hd1, ← hd2, ← hd3]
 have HA0 := lh (AccR.nil (f := inN) (e := 3) (size := 1) w)
 clear hd0 hd1 hd2 hd3 hn1 hn2 hn3 b1 b2 b3
 go_enter func111, ntmps111
 go_wp2
 refine wp_loop_rounds 5 ?_
 rw [rounds_succ]
 go_wp2_with (at_builtin; go_must (refine Bd Dp inF HA0.out d0 rfl _ _ rfl rfl #[.int .i64 (d0 : Int)] rfl _ rfl (by simp) ?hl ?hb ?go))
 case hl => simp [maxLen]
 case hb => simp
 case go =>
 intro v1 w1 A
 have HA1 := lh A
 clear A
 go_wp2
 rw [rounds_succ]
 go_wp2_with (at_builtin; go_must (refine Bd Dp inF HA1.out d1 rfl _ _ rfl rfl #[.int .i64 (d1 : Int)] rfl _ rfl (by simp) ?hl ?hb ?go))
 case hl => simp [maxLen]
 case hb => simp
 case go =>
 intro v2 w2 A
 have HA2 := lh A
 clear A
 go_wp2
 rw [rounds_succ]
 go_wp2_with (at_builtin; go_must (refine Bd Dp inF HA2.out d2 rfl _ _ rfl rfl #[.int .i64 (d2 : Int)] rfl _ rfl (by simp) ?hl ?hb ?go))
 case hl => simp [maxLen]
 case hb => simp
 case go =>
 intro v3 w3 A
 have HA3 := lh A
 clear A
 go_wp2
 rw [rounds_succ]
 go_wp2_with (at_builtin; go_must (refine Bd Dp inF HA3.out d3 rfl _ _ rfl rfl #[.int .i64 (d3 : Int)] rfl _ rfl (by simp) ?hl ?hb ?go))
 case hl => simp [maxLen]
 case hb => simp
 case go =>
 intro v4 w4 A
 have HA4 := lh A
 clear A
 go_wp2
 rw [rounds_succ]
 go_wp2
 go_ret
 exact ⟨_, rfl, HA4.out⟩
end KeyA
namespace KeyB
open Go Go.RowKit Go.Shelf OctP RowsX ShaS KeyS ShaA ShaB Steps KeyA
theorem Eb {M : List UInt8} {k : Nat} {x : UInt8} (h : M[k]? = some x) : (M.take (k + 1)).flatMap (fun y => CR y.toNat) = (M.take k).flatMap (fun y => CR y.toNat) ++ CR x.toNat := by
 rw [List.take_add_one, h]
 simp
theorem len_flat (M : List UInt8) : (M.flatMap (fun y => CR y.toNat)).length = 4 * M.length := by
 induction M with
 | nil => rfl
 | cons x r ih => rw [List.flatMap_cons, List.length_append, ih, List.length_cons]; show 4 + _ = _; omega
theorem Rz {l : List Nat} {k d : Nat} (h : l[k]? = some d) : De (l.take (k + 1)) = De (l.take k) + (3 - d) := by
 rw [List.take_add_one, h]
 exact Pt _ _
theorem Oe (w : World) (s : ByteArray) (hs : s.size ≤ 140737488355328) (hk : Au w) : Calls Tryz.prog 92 #[.string s] w fun e w' => ∃ v, e = .returned v ∧ AccN w w' v (digits (bl s)) := by
 have hM := fun w hk => PE w s hs hk
 unfold digits
 obtain ⟨D, hD⟩ := nXe (digM (bl s))
 rw [← hD]
 obtain ⟨M, hMe⟩ := nXe (mid (bl s))
 have hMl : M.length = 16 := by rw [hMe]; exact Cx _
 have hDM : M.flatMap (fun y => CR y.toNat) = D := by rw [hD, hMe]; rfl
 have hDl : D.length = 64 := by rw [hD]; exact F3 _
 have hD3 : ∀ d ∈ D, d ≤ 3 := by rw [hD]; exact digM_le _
 rw [← hMe] at hM
 obtain ⟨B, hB⟩ := nXe (bsOf M)
 have hBs : B.size = 16 := by rw [hB, AY, hMl]
 have hBb : bl B = M := by rw [hB, AV]
 rw [← hB] at hM
 obtain ⟨HM, HV, HDM, HDl, HD3, HBb, HMl, HA0⟩ := l8h hM hk hDM hDl hD3 hBb hMl (AccR.nil (f := inN) (e := 3) (size := 1) w)
 clear hM hk hD hMe hDM hDl hD3 hBb hMl hB
 go_enter func92, ntmps92
 go_wp2_with fail
 refine (HM.out w HV.out).mono ?_
 rintro e w1 ⟨rfl, hb⟩
 obtain ⟨HV1, HA1⟩ := l2h (HV.out.below hb) (HA0.out.below hb)
 clear hb
 go_wp2
 go_loopw [3, 13] (fun x i wr => ∃ (k : Nat) (v : Value), v = x ∧ i = .int .i64 k ∧ k ≤ 16 ∧ AccN w wr v ((M.take k).flatMap fun y => CR y.toNat))
  (fun _ i _ => 16 - (intOf i).toNat)
 case atStart => exact ⟨0, _, rfl, rfl, by omega, HA1.out⟩
 case round =>
  obtain ⟨k, v, rfl, rfl, hk, hA⟩ := hrel
  have HA := lh hA
  have hlen : ((M.take k).flatMap fun y => CR y.toNat).length = 4 * k := by rw [len_flat, List.length_take, HMl.out, Nat.min_eq_left hk]
  have HLen := lh hlen
  clear hA hlen HA1 HV1
  by_cases hlt : k < 16
  ·skip
   have hkB : k < B.size := by omega
   obtain ⟨b, hb⟩ : ∃ b, B[k] = b := ⟨_, rfl⟩
   have hMk : M[k]? = some b := by
        rw [← HBb.out, List.getElem?_eq_getElem (by rw [AP]; exact hkB)]
        rw [← hb]
        rfl
   have hb8 := b.toNat_lt
   have HMk := lh hMk
   clear hMk
   go_wp2_with fail
   refine (PP wr b.toNat hb8).mono ?_
   rintro e w2 ⟨u, rfl, hu⟩
   have HA2 := lh (HA.out.below hu.bel)
   have HU := lh (show Sl w2 u 1 (CR b.toNat).length ((CR b.toNat).flatMap inN) from hu.sl)
   clear hu
   go_wp2_with (at_builtin; go_must (refine NP Dp inF HA2.out HU.out rfl _ _ rfl rfl rfl ?hl ?hb ?go))
   case hl => rw [HLen.out, show (CR b.toNat).length = 4 from rfl]; unfold maxLen; omega
   case hb => rw [HLen.out, show (CR b.toNat).length = 4 from rfl]; omega
   case go =>
   intro v3 w3 A3
   have HA3 := lh A3
   clear A3
   go_wp2
   go_roundw
   case rel => exact ⟨k + 1, _, rfl, by go_num, by omega, by rw [Eb HMk.out]; exact HA3.out⟩
   case measure => simp [intOf]; omega
  ·skip
   obtain rfl : k = 16 := by omega
   have hA := HA.out
   rw [List.take_of_length_le (by rw [HMl.out]; omega), HDM.out] at hA
   have hsl : SlN wr v D := hA.sl
   obtain ⟨b, o, cap, rfl, hblt, hc⟩ := hsl.cells (by rw [HDl.out]; omega)
   rw [HDl.out] at hA
   obtain ⟨HA1, Hc⟩ := l2h hA hc
   clear hA hsl hc HA HLen
   rw [HDl.out]
   go_wp2
   obtain ⟨W, hW⟩ : ∃ W : World, W = wr := ⟨_, rfl⟩
   rw [← hW] at HA1 Hc hblt ⊢
   clear hW
   go_loopw [6, 26] (fun y i wq => wq = W ∧ ∃ (k : Nat), i = .int .i64 k ∧ k ≤ 64 ∧ y = .int .i64 (De (D.take k)))
        (fun _ i _ => 64 - (intOf i).toNat)
   case atStart => exact ⟨rfl, 0, rfl, by omega, by simp [De]⟩
   case round =>
        obtain ⟨rfl, k, rfl, hk, rfl⟩ := hrel
        have hle := lackOf_le (D.take k)
        rw [List.length_take, HDl.out, Nat.min_eq_left hk] at hle
        by_cases hlt : k < 64
        ·skip
         obtain ⟨d, hd⟩ : ∃ d, D[k]? = some d := ⟨_, List.getElem?_eq_getElem (by rw [HDl.out]; exact hlt)⟩
         have hd3 := HD3.out d (List.mem_of_getElem? hd)
         have hcd := Hc.out k d hd
         have Hn := lh (Rz hd)
         obtain ⟨q, hq⟩ := nXe (De (D.take k))
         rw [← hq] at hle Hn ⊢
         clear hd hq
         go_wp2
         go_roundw
         case rel => exact ⟨by trivial, k + 1, by go_num, by omega, by rw [Hn.out]; go_num⟩
         case measure => simp [intOf]; omega
        ·skip
         obtain rfl : k = 64 := by omega
         rw [List.take_of_length_le (by rw [HDl.out]; omega)] at hle ⊢
         obtain ⟨q, hq⟩ := nXe (De D)
         rw [← hq] at hle ⊢
         have Hq := lh hq
         clear hq
         go_wp2_with fail
         refine (PP _ q (by omega)).mono ?_
         rintro e w2 ⟨u, rfl, hu⟩
         have HA2 := lh (AccR.below HA1.out hu.bel)
         have HU := lh (show Sl w2 u 1 (CR q).length ((CR q).flatMap inN) from hu.sl)
         clear hu
         go_wp2_with (at_builtin; go_must (refine NP Dp inF HA2.out HU.out rfl _ _ rfl rfl rfl ?hl ?hb ?go))
         case hl => rw [HDl.out, show (CR q).length = 4 from rfl]; unfold maxLen; omega
         case hb => rw [HDl.out, show (CR q).length = 4 from rfl]; omega
         case go =>
         intro v3 w3 A3
         have HA3 := lh A3
         clear A3
         go_wp2
         go_ret
         exact ⟨_, rfl, by first | exact HA3.out | (rw [← Hq.out]; exact HA3.out)⟩
end KeyB
namespace KeyC
open Go Go.RowKit Go.Shelf OctP RowsX ShaS KeyS ShaA ShaB Steps KeyA KeyB
attribute [-go_sem] Builtin.append_
theorem NS (sig : List UInt8) (hs : sig.length = 1088) (d : List Nat) : ∀ n, n ≤ 68 → (recT sig d n).length = 16 * n + 1
 | 0, _ => rfl
 | n + 1, h => by
   have := NS sig hs d n (by omega)
   rw [recT_succ, List.length_append, this, DD (by rw [List.length_take, List.length_drop]; omega)]
   omega
theorem VY (s : ByteArray) (n : Nat) (h : n ≤ s.size) : bl (s.extract 0 n) = (bl s).take n := by
 rw [Aj]
 rfl
theorem N8 (w : World) (k : Nat) (hk : k = w.heap.size) (c : Int) : (convert 100 100 (.slice (some ⟨k, 0, none⟩) 1 1)).run Tryz.prog (w.alloc (.cells #[.int .u8 c] 5)) = .ok (.slice (some ⟨k, 0, none⟩) 1 1) (w.alloc (.cells #[.int .u8 c] 5 (1, 2))) := by
 subst hk
 exact Go.Lib.run_convert_bytes_const w 100 5 #[.int .u8 c] 1 1 underlying100 underlying5
theorem Pg (w : World) (base : Nat) (hb : base ≤ w.heap.size) (c : UInt8) : Ow (w.alloc (.cells #[.int .u8 (c.toNat : Int)] 5 (1, 2))) base 5 1 (.slice (some ⟨w.heap.size, 0, none⟩) 1 1) 1 (byV [c]) :=
 ⟨rfl, .inr ⟨_, 1, _, (1, 2), rfl, hb, Ad _ rfl, Nat.le_refl _, by unfold maxLen; omega, rfl, rfl, fun j hj h => by simp at hj; omega⟩⟩
theorem Qn (w : World) (text sig : ByteArray) (ht : text.size ≤ 140737488355328) (hs : sig.size = 1088) (hk : Au w) :
 Calls Tryz.prog 78 #[.string text, .string sig] w (RB (.tuple #[.agg (byV (recover (bl text) (bl sig))).toArray, .int .i64 0]) w) := by
 have hDg := fun w hk => Oe w text ht hk
 unfold recover
 have hd3 := GM (bl text)
 have hdl := digits_length (bl text)
 obtain ⟨D, hD⟩ := nXe (digits (bl text))
 rw [← hD] at hDg hd3 hdl ⊢
 have hSl : (bl sig).length = 1088 := by rw [AP, hs]
 obtain ⟨R, hR⟩ := nXe ((byV (sum (recT (bl sig) D 68))).toArray)
 have hRn : R.size = 32 := by rw [hR]; simp [byV, Bb]
 have HRS : Hid ((Tryz.prog.info? 44).map (·.size) = some R.size) := lh (by rw [hRn]; kernel_rfl)
 have HRN : Hid (32 = R.size) := lh hRn.symm
 have HRO : Hid (R.all (·.oneCell') = true) := lh (by rw [hR]; simp [byV, Value.oneCell'])
 rw [← hR]
 obtain ⟨HR, HDg, Hd3, Hdl, HSl, HV⟩ := l6h hR hDg hd3 hdl hSl hk
 obtain ⟨Z, hZ⟩ := nXe ((byV WireT.Cg).toArray)
 have HLIT : Hid (zq0 Z) := lh (by rw [hZ]; unfold zq0; kernel_rfl)
 have HZN : Hid (Z.size = 32) := lh (by rw [hZ]; kernel_rfl)
 clear hDg hd3 hdl hSl hR hRn hk hD hZ
 obtain ⟨w0, hw0⟩ := nXe (w.alloc (.cells Z 44))
 have hsz0 : w0.heap.size = w.heap.size + 1 := by rw [hw0]; simp
 have hb0 : Below w.heap.size w w0 := by rw [hw0]; exact bAx
 have hx0 : w0.heap[w.heap.size]? = some (.cells Z 44 (0, 0)) := by rw [hw0]; exact AL _ _
 have hcv := N8 w0 (w.heap.size + 1) hsz0.symm 4
 obtain ⟨w1, hw1⟩ := nXe (w0.alloc (.cells #[.int .u8 4] 5 (1, 2)))
 have hb1 : Below w.heap.size w w1 := by rw [hw1]; exact hb0.alloc (by omega) _
 have hx1 : w1.heap[w.heap.size]? = some (.cells Z 44 (0, 0)) := by rw [hw1]; exact Ak hx0 _
 have hsz1 : w1.heap.size = w.heap.size + 2 := by rw [hw1]; simp [hsz0]
 have hO1 : Ow w1 w.heap.size 5 1 (.slice (some ⟨w.heap.size + 1, 0, none⟩) 1 1) 1 (byV [4]) := by
  have := Pg w0 w.heap.size (by omega) 4
  rw [hsz0] at this
  rw [hw1]
  exact this
 rw [← hw1] at hcv
 obtain ⟨HW0, HB1, HX1, HO1, HCV⟩ := l5h hw0 hb1 hx1 hO1 hcv
 clear hw0 hb0 hx0 hb1 hx1 hO1 hcv hw1
 go_enter func78, ntmps78
 go_wp2_with fail
 rw [HLIT.out, ← HW0.out]
 have hcv := HCV.out
 rw [hcv]
 clear hcv
 go_wp2_with fail
 refine (HDg.out w1 (HV.out.below HB1.out)).mono ?_
 rintro e w2 ⟨u, rfl, hu⟩
 have hsl : SlN w2 u D := hu.sl
 have hub := hu.own.lt
 obtain ⟨b, o, dcap, rfl, hblt, hc⟩ := hsl.cells (by rw [Hdl.out]; omega)
 rw [Hdl.out]
 have hbb : w.heap.size + 2 ≤ b := by
  have := hub b (by simp [Value.ownBlock])
  omega
 obtain ⟨HB2, HX2⟩ := l2h (HB1.out.trans (hu.bel.mono HB1.out.size)) ((hu.bel.block _ (AJ HX1.out)).trans HX1.out)
 have HG0 := lh (Gr.refl (HO1.out.ext (Ext.ofB hu.bel) (fun _ _ h => h)))
 have Hc := lh hc
 have hs2 := hu.bel.size
 clear hu hsl hub hc HB1 HX1 HO1 HCV
 go_wp2
 go_loopw [1, 6, 18] (fun s6 x i wr => ∃ (k : Nat) (v : Value) (X : ByteArray), v = x ∧ s6 = .string X ∧ i = .int .i64 k ∧ k ≤ 68 ∧ Hid (bl X = (bl sig).drop (16 * k)) ∧ Gr w.heap.size 5 1 w2 (.slice (some ⟨w.heap.size + 1, 0, none⟩) 1 1) wr v (16 * k + 1) (byV (recT (bl sig) D k)))
  (fun _ _ i _ => 68 - (intOf i).toNat)
 case atStart => exact ⟨0, _, sig, rfl, rfl, rfl, by omega, lh rfl, HG0.out⟩
 case round =>
  obtain ⟨k, v, X, rfl, rfl, rfl, hk, hX, hG⟩ := hrel
  have HXb := hX
  have hXs : X.size = 1088 - 16 * k := by rw [← AP, hX.out, List.length_drop, HSl.out]
  have hbw : Below w.heap.size w wr := Ext.below ((Ext.of_below (S := fun q => some (w.heap.size + 1) = some q) HB2.out).trans hG.ext) (fun q hq hs => by cases hs; omega)
  have hXw : wr.heap[w.heap.size]? = some (.cells Z 44 (0, 0)) := hG.ext.Ai HX2.out (fun h => by simp [Value.ownBlock] at h)
  obtain ⟨HBw, HXw, HG⟩ := l3h hbw hXw hG
  obtain ⟨av, cv, rfl, fQ, fP⟩ := hG.own.form
  clear hbw hXw hG HG0
  by_cases hlt : k < 68
  ·skip
   obtain ⟨d, hd⟩ : ∃ d, D[k]? = some d := ⟨_, List.getElem?_eq_getElem (by rw [Hdl.out]; exact hlt)⟩
   have hd3 := Hd3.out d (List.mem_of_getElem? hd)
   have hcd : wr.cell? ⟨b, o + k, none⟩ = some (.int .i64 (d : Int)) := HG.out.ext.cellOf (Hc.out k d hd) (fun h => by simp [Value.ownBlock] at h; omega)
   have hdg : D.getD k 0 = d := by rw [List.getD_eq_getElem?_getD, hd]; rfl
   obtain ⟨Y, hY⟩ := nXe (X.extract 0 16)
   have hYb : bl Y = ((bl sig).drop (16 * k)).take 16 := by rw [hY, VY X 16 (by omega), hX.out]
   have hYs : Y.size = 16 := by rw [← AP, hYb, List.length_take, List.length_drop, HSl.out]; omega
   have HYs := lh hYs
   have hO := Td wr Y (3 - d) hYs (by omega) (HV.out.below HBw.out)
   rw [hYb, hY] at hO
   have HN : Hid (recT (bl sig) D (k + 1) = recT (bl sig) D k ++ on (3 - d) (((bl sig).drop (16 * k)).take 16)) := lh (by rw [recT_succ, hdg])
   have hTl : (on (3 - d) (((bl sig).drop (16 * k)).take 16)).length = 16 := DD (by rw [← hYb, AP, hYs]) _
   obtain ⟨T, hT⟩ := nXe (bsOf (on (3 - d) (((bl sig).drop (16 * k)).take 16)))
   rw [← hT] at hO
   have HT := lh hT
   have hTs : T.size = 16 := by rw [hT, AY, hTl]
   have e3 : (3 : Int) - (d : Int) = ((3 - d : Nat) : Int) := by omega
   obtain ⟨m, hm⟩ := nXe (3 - d)
   rw [← hm] at hO e3
   have HOn := lh hO
   have hw3 : IntKind.i64.wrap ((3 : Int) - (d : Int)) = ((m : Nat) : Int) := by rw [IntKind.wrap_i64]; omega
   have h16 : 16 ≤ X.size := by omega
   have hX2 : bl (X.extract 16 X.size) = (bl sig).drop (16 * (k + 1)) := by
        rw [Aj, List.take_of_length_le (by rw [List.length_drop, AP]; omega), hX.out, List.drop_drop]
        congr 1
   rw [hXs] at hX2
   have bO := lh hX2
   clear hd hd3 hdg hYb hYs hO hTl hT hX2 hm e3
   go_wp2_with fail
   refine HOn.out.mono ?_
   rintro e w3 ⟨rfl, hb⟩
   have HG3 := lh (HG.out.still (Ext.ofB hb))
   clear hb
   go_wp2_with (at_builtin; go_must (refine DT rfl _ _ _ _ rfl A8 HG3.out rfl (.string T) 16 (byV (bl T)) rfl (Ext.refl _ _) ?src (16 * (k + 1) + 1) ?hN (byV (recT (bl sig) D (k + 1))) ?hz ?h63 ?hby ?hbase ?go))
   case src =>
        have := Src.ofString (P := Tryz.prog) (w := w3) underlying9 T
        rw [hTs] at this
        exact this
   case hN => omega
   case hz => rw [HN.out, Ao, HT.out, AV]
   case h63 => unfold maxLen; omega
   case hby => omega
   case hbase => omega
   case go =>
        intro a' c' w4 hG4 _
        have HG4 := lh hG4
        clear hG4
        go_wp2
        go_roundw
        case rel => exact ⟨k + 1, _, _, rfl, rfl, by go_num, by omega, bO, HG4.out⟩
        case measure => simp [intOf]; omega
  ·skip
   obtain rfl : k = 68 := by omega
   have hsl := HG.out.own.sl
   have hrl := NS (bl sig) HSl.out D 68 (by omega)
   obtain ⟨L, hL⟩ := nXe (recT (bl sig) D 68)
   rw [← hL] at hsl hrl
   have hcv := BX wr 100 9 5 underlying100 underlying5 underlying9 _ L (by rw [hrl]; exact hsl)
   have hSm := ShaM.Ee wr (bsOf L) (by rw [AY, hrl]; omega) (HV.out.below HBw.out)
   rw [AV, hL, ← HR.out, ← hL] at hSm
   have HSm := lh hSm
   obtain ⟨T, hT⟩ := nXe (bsOf L)
   rw [← hT] at hcv HSm
   clear hsl hrl hL hSm hT hX hXs
   go_wp2_with fail
   refine HSm.out.mono ?_
   rintro e w3 ⟨rfl, hb⟩
   have HB3 := tbB HBw hb
   have HX3 := kpB hb HXw
   clear hb
   go_wp2_with (first | (refine AC rfl _ _ _ rfl w.heap.size R rfl rfl _ _ HX3.out HRS.out (by rw [HZN.out]; exact HRN.out) HRO.out ?_) | fail)
   intro wf hwf
   go_wp2
   refine bodyPost_ret (v := .tuple #[.agg R, .int .i64 0]) (WireT.AU rfl _ _ w.heap.size 44 R (0, 0) _ rfl (by rw [hwf.out]; exact AR HX3.out) underlying44 rfl HRS.out rfl) rfl ⟨rfl, by rw [hwf.out]; exact AQ HB3.out nR _⟩
end KeyC
namespace KeyD
open Go Go.RowKit Go.Shelf OctP OctG RowsX ShaS KeyS ShaA ShaB Steps KeyA
attribute [local go_sem] Oper.semAt_some
structure Ch where
 j : Nat
 x : List UInt8
 hj : j < 68
 hx : x.length = 16
def SF (seed : List UInt8) (j : Nat) : Ch := ⟨j % 68, KeyS.start seed j, Nat.mod_lt _ (by omega), EN seed j⟩
def PS (seed : List UInt8) (n : Nat) : List Ch := (List.range n).map fun j => SF seed j
def SE (c : Ch) : Array Value := #[.int .i64 c.j, .string (bsOf c.x)]
theorem PR (seed : List UInt8) (n : Nat) : PS seed (n + 1) = PS seed n ++ [SF seed n] := by
 unfold PS
 rw [List.range_succ, List.map_append, List.map_singleton]
theorem QV (seed : List UInt8) (n : Nat) : (PS seed n).length = n := by simp [PS]
theorem Ur (seed : List UInt8) {k n : Nat} (h : k ≤ n) : PS seed k <+: PS seed n := by
 obtain ⟨m, rfl⟩ : ∃ m, n = k + m := ⟨n - k, by omega⟩
 clear h
 induction m with
 | zero => exact List.prefix_refl _
 | succ m ih => rw [← Nat.add_assoc, PR]; exact ih.trans (List.prefix_append _ _)
theorem OM (w : World) (s : ByteArray) :
 Calls Tryz.prog 54 #[.string s] w fun e w' => e = .returned (.func (.func 85) #[] #[.pointer (some ⟨w.heap.size, 0, none⟩)]) ∧ w.alloc (.cells #[.string s] 9) = w' := by
 go_enter func54, ntmps54
 go_wp2
 go_ret
 exact ⟨rfl, rfl⟩
def Gd (n0 B : Nat) (W W' : World) : Prop := Below n0 W W' ∧ W'.heap[B]? = W.heap[B]?
theorem Gd.trans {n0 B : Nat} {a b c : World} (h : Gd n0 B a b) (k : Gd n0 B b c) : Gd n0 B a c := ⟨h.1.trans k.1, k.2.trans h.2⟩
theorem conv_one (w : World) (k j : Nat) (hk : k = w.heap.size) (hj : j < 256) : (convert 100 9 (.slice (some ⟨k, 0, none⟩) 1 1)).run Tryz.prog (w.alloc (.cells #[.int .u8 (j : Int)] 5)) = .ok (.string (bsOf [UInt8.ofNat j])) (w.alloc (.cells #[.int .u8 (j : Int)] 5)) := by
 subst hk
 have hb : ((UInt8.ofNat j).toNat : Int) = (j : Int) := by rw [UInt8.toNat_ofNat']; omega
 have h := EventB.EW (n := 1) (AL w (.cells #[.int .u8 (j : Int)] 5)) rfl (by unfold maxLen; omega)
 refine BX _ 100 9 5 underlying100 underlying5 underlying9 _ [UInt8.ofNat j] ?_
 show Sl _ _ 1 1 [.int .u8 ((UInt8.ofNat j).toNat : Int)]
 rw [hb]
 exact h
theorem FP (d : Nat) (hd : 1 ≤ d) (l B : Nat) (w0 : World) (s : ByteArray) (hs : s.size ≤ 1000) (hV : Au w0) (J Jx : List Ch → World → Prop) (b0 : Nat) (hJ : AbidesFrom b0 J)
 (hY : ∀ pre x W, J pre W → pre.length < 68 → YieldAt Fence.wide (d - 1) Tryz.prog l (SE x) W fun e W' =>
  (e = .returned (.bool true) ∧ J (pre ++ [x]) W' ∧ Gd w0.heap.size B W W') ∨ (e = .returned (.bool false) ∧ Jx (pre ++ [x]) W'))
 (W : World) (hW : Below w0.heap.size w0 W) (hB : W.heap[B]? = some (.cells #[.string s] 9 (0, 0))) (h0 : J [] W) :
 CallsIn Fence.wide d Tryz.prog 85 #[.func (.yield l) #[] #[], .pointer (some ⟨B, 0, none⟩)] W fun e W' => (∃ v, e = .returned v) ∧
  ((∃ ys, ys = PS (bl s) 68 ∧ J ys W') ∨ (∃ pre, pre <+: PS (bl s) 68 ∧ Jx pre W')) := by
 have hlB := AJ hB
 obtain ⟨ZK, HJ, HY, HBx, HW, H0⟩ := l6h hV hJ hY hB hW h0
 clear hV hJ hY hB hW h0
 refine callsIn_of_wp func85 rfl trivial ?_ rfl
 simp only [ntmps85, List.size_toArray, List.length_cons, List.length_nil, Nat.reduceAdd, Nat.reduceSub, Array.replicate_succ, Array.replicate_zero, List.push_toArray, List.append_toArray, List.nil_append, List.cons_append]
 gi_wp2
 gi_loopw [4] (fun i wr => ∃ k : Nat, i = .int .i64 k ∧ k ≤ 68 ∧ Below w0.heap.size w0 wr ∧ wr.heap[B]? = some (.cells #[.string s] 9 (0, 0)) ∧ J (PS (bl s) k) wr) (fun i _ => 68 - (intOf i).toNat)
 case atStart => exact ⟨0, rfl, by omega, HW.out, HBx.out, H0.out⟩
 case round =>
  obtain ⟨k, rfl, hk, hBl, hBx, hJ⟩ := hrel
  obtain ⟨HBl, HB2, HJ2⟩ := l3h hBl hBx hJ
  have aV := AJ hBx
  clear hBl hBx hJ
  by_cases hlt : k < 68
  ·skip
   have hcv := conv_one wr wr.heap.size k rfl (by omega)
   have hcb : (wr.alloc (.cells #[.int .u8 (k : Int)] 5)).cell? ⟨B, 0, none⟩ = some (.string s) := by rw [AO (Ak HB2.out _)]; rfl
   obtain ⟨w1, hw1⟩ := nXe (wr.alloc (.cells #[.int .u8 (k : Int)] 5))
   have hb1 : Below wr.heap.size wr w1 := by rw [hw1]; exact bAx
   rw [← hw1] at hcv hcb
   obtain ⟨u, hu⟩ := nXe (bsOf [UInt8.ofNat k])
   have hus : u.size = 1 := by rw [hu]; rfl
   rw [← hu] at hcv
   obtain ⟨S, hS⟩ : ∃ S : ByteArray, S = ⟨#[3]⟩ ++ u ++ s := ⟨_, rfl⟩
   have hSb : bl S = 3 :: UInt8.ofNat k :: bl s := by rw [hS, hu]; simp [bl, bsOf]
   have hSs : S.size ≤ 140737488355328 := by rw [← AP, hSb, List.length_cons, List.length_cons, AP]; omega
   have hk8 : IntKind.u8.wrap (k : Int) = (k : Int) := by rw [IntKind.wrap_u8']; omega
   have hl1 : ¬ 9223372036854775807 < 1 + u.size := by omega
   have hl2 : ¬ 9223372036854775807 < 1 + u.size + s.size := by omega
   have HB1 := tbB HBl hb1
   have dQ := lh ((hb1.block _ aV).trans HB2.out)
   have HJ1 := lh (HJ.out _ _ _ none HJ2.out ⟨hb1.os, hb1.tape, hb1.output, hb1.size, fun k hk _ => hb1.block k hk⟩ (fun r e => by cases e))
   obtain ⟨HM, HS, HSb, HW1⟩ := l4h (PE w1 S hSs (ZK.out.below HB1.out)) hS hSb hw1
   clear hw1 hb1 hu hS hSb hSs
   gi_wp2_with fail
   rw [← HW1.out, hcv]
   clear hcv
   gi_wp2_with fail
   rw [← HS.out]
   refine ⟨trivial, ?_⟩
   refine (callsIn_wide.2 HM.out).mono ?_
   rintro e w2 ⟨rfl, hb2⟩
   have HB3 := tbB HB1 hb2
   have dP := kpB hb2 dQ
   have hJ3 := HJ.out _ _ _ none HJ1.out ⟨hb2.os, hb2.tape, hb2.output, hb2.size, fun k hk _ => hb2.block k hk⟩ (fun r e => by cases e)
   obtain ⟨X, hX⟩ := nXe (bsOf (mid (bl S)))
   have hXe : SE (SF (bl s) k) = #[.int .i64 k, .string X] := by
        rw [hX, HSb.out]
        unfold SE SF
        simp only [Nat.mod_eq_of_lt hlt]
        rfl
   obtain ⟨fn, tmps, assign, body, hy, hR⟩ := HY.out (PS (bl s) k) (SF (bl s) k) _ hJ3 (by rw [QV]; exact hlt)
   rw [hXe] at hy
   rw [← PR] at hR
   rw [← hX]
   have HR := lh hR
   clear hJ3 hR hb2 hcb hX hXe
   gi_wp2
   refine HR.out.mono ?_
   rintro e W5 (⟨rfl, hJ5, hk5⟩ | ⟨rfl, Ty⟩)
   ·obtain ⟨HK5, HJ5⟩ := l2h hk5 hJ5
    clear hJ5 hk5 hy
    gi_wp2
    go_roundw
    case rel => exact ⟨k + 1, by go_num, by omega, HB3.out.trans HK5.out.1, HK5.out.2.trans dP.out, HJ5.out⟩
    case measure => simp [intOf]; omega
   ·have HJ5 := lh Ty
    clear Ty hy
    gi_wp2
    refine bodyPost_ret (results_none rfl _ _ _) rfl ?_
    exact ⟨⟨_, rfl⟩, .inr ⟨_, Ur (bl s) hlt, HJ5.out⟩⟩
  ·skip
   obtain rfl : k = 68 := by omega
   gi_wp2
   go_end0
   exact ⟨⟨_, rfl⟩, .inl ⟨_, rfl, HJ2.out⟩⟩
theorem ER (d : Nat) (hd : 1 ≤ d) (B : Nat) (w0 w : World) (s : ByteArray) (hs : s.size ≤ 1000) (hV : Au w0) (hw : Below w0.heap.size w0 w) (hB : w.heap[B]? = some (.cells #[.string s] 9 (0, 0))) :
 SeqStopsK Fence.wide d Tryz.prog 85 #[.pointer (some ⟨B, 0, none⟩)] SE (Gd w0.heap.size B) (fun ys => ys = PS (bl s) 68) (fun pre => pre <+: PS (bl s) 68) 68 w := fun l J Jx W hW hJ _ hY h0 =>
 FP d hd l B w0 s hs hV J Jx W.heap.size hJ hY W (hw.trans (hW.mono hw.size)) ((hW.block B (AJ hB)).trans hB) h0
end KeyD
namespace KeyE
open Go Go.RowKit Go.Shelf OctP OctG RowsX Lift ShaS KeyS ShaA ShaB Steps KeyA KeyC KeyD
attribute [local go_sem] Oper.semAt_some
attribute [-go_sem] Builtin.append_
theorem Dr {P : Program} {l n : Nat} {ops : Array Oper} {Q : Exit → Act → World → Prop} {id : Nat} {a : Act} {w : World} (S : World → Prop) (K : List Nat) (hm : P.follows .mixedOrders = true) (hd : ops.all Du = true) (hQ : ¬ LetsOut Q)
 (h : Wr.Ar P .any ops Q S K ops.size (Array.replicate ops.size false) a w.drew) : (Code.region id ops true).wpIn (Fence.wide.inRound l) n P Q a w :=
 wpIn_region_any hm (Em hd hQ _ _ _ _ (Wr.Gf _ _ _ _ h))
theorem Ew {w w' : World} {base : Nat} {e : TypeId} {size : Nat} {v : Value} {n : Nat} {xs : List Value} {row : Option Nat} (h : Ow w base e size v n xs) (hg : w.grownBy w' row) (hr : ∀ r, row = some r → ∃ o : Obj, w.heap[r]? = some o ∧ o.isCells = false) : Ow w' base e size v n xs := by
 refine h.ext (S := fun k => row = some k) ((Ext.refl _ w).grown hg (fun k h => .inl h)) (fun k hk hrow => ?_)
 obtain ⟨o, ho, hc⟩ := hr k hrow
 rcases h.2 with ⟨rfl, _⟩ | ⟨g, cap, cur, fr, rfl, _, hgb, _⟩
 ·simp [Value.ownBlock] at hk
 ·simp [Value.ownBlock] at hk
  subst hk
  rw [hgb] at ho
  cases ho
  cases hc
structure Inv (w : World) (Z : Obj) (L : List UInt8) (W : World) : Prop where
 box : ∃ v, Boxed W (w.heap.size + 2) 100 v ∧ Ow W w.heap.size 5 1 v L.length (byV L) ∧ ∀ k, v.ownBlock = some k → k = w.heap.size + 1 ∨ w.heap.size + 4 ≤ k
 old : W.heap[w.heap.size]? = some Z
 bel : Below w.heap.size w W
 sz : w.heap.size + 4 ≤ W.heap.size
theorem Inv.kept {w X Y : World} {Z : Obj} {L : List UInt8} {row : Option Nat} (h : Inv w Z L X) (hg : X.grownBy Y row) (hr : ∀ r, row = some r → w.heap.size + 4 ≤ r ∧ ∃ o : Obj, X.heap[r]? = some o ∧ o.isCells = false) : Inv w Z L Y := by
 have hr' := fun r e => (hr r e).2
 obtain ⟨v, h1, h2, h3⟩ := h.box
 have hs := h.sz
 exact ⟨⟨v, Bc h1 hg hr', Ew h2 hg hr', h3⟩, (hg.block _ (by omega) (fun e => by have := (hr _ e.symm).1; omega)).trans h.old, h.bel.grown hg h.bel.size (fun k hk => by have := (hr k hk).1; omega), Nat.le_trans h.sz hg.size⟩
def OH (pre : List Ch) : List UInt8 := 4 :: pre.flatMap fun c => on 3 c.x
theorem Rp (pre : List Ch) (c : Ch) : OH (pre ++ [c]) = OH pre ++ on 3 c.x := by
 unfold OH
 rw [List.flatMap_append, List.flatMap_singleton]
 rfl
theorem PX : ∀ pre : List Ch, (OH pre).length = 16 * pre.length + 1 := by
 intro pre
 unfold OH
 rw [List.length_cons]
 congr 1
 induction pre with
 | nil => rfl
 | cons c r ih => rw [List.flatMap_cons, List.length_append, ih, DD c.hx, List.length_cons]; omega
theorem TT (seed : List UInt8) (n : Nat) : OH (PS seed n) = PW seed n := by
 unfold OH PS PW
 rw [List.flatMap_map]
 rfl
theorem DK {W W' : World} (h : Below W.heap.size W W') : KeepsOthers W W' := ⟨h.size, fun k o hk ho => (h.block k (AJ hk)).trans hk⟩
theorem GJ {w : World} {base : Nat} {e : TypeId} {size : Nat} {v : Value} {n : Nat} {xs : List Value} (h : Ow w base e size v n xs) : ∀ (j : Nat) (o : Obj), v.ownBlock = some j → w.heap[j]? = some o → o.isCells = true := by
 intro j o hj ho
 rcases h.2 with ⟨rfl, _⟩ | ⟨g, cap, cur, fr', rfl, _, hgb, _⟩
 ·simp [Value.ownBlock] at hj
 ·have : g = j := by simpa [Value.ownBlock] using hj
  subst this
  rw [hgb] at ho
  cases ho
  rfl
theorem IP {w W w3 w4 : World} {Z : Obj} {v v4 : Value} {n N : Nat} {xs : List Value} {L4 : List UInt8} (hb : Below w.heap.size w W) (hs : w.heap.size + 4 ≤ W.heap.size) (hB : Boxed W (w.heap.size + 2) 100 v) (hZ : W.heap[w.heap.size]? = some Z)
 (hv : ∀ k, v.ownBlock = some k → k = w.heap.size + 1 ∨ w.heap.size + 4 ≤ k) (hO : Ow w3 w.heap.size 5 1 v n xs) (hb3 : Below W.heap.size W w3) (hg : w3.grownBy w4 v.ownBlock) (hN : N = L4.length) (hO4 : Ow w4 w.heap.size 5 1 v4 N (byV L4)) (hat : v4.ownBlock = v.ownBlock ∨ v4.ownBlock = some w3.heap.size) :
 KeepsFrom (w.heap.size + 4) W (w4.setCell ⟨w.heap.size + 2, 0, none⟩ v4) ∧ Gd w.heap.size (w.heap.size + 3) W (w4.setCell ⟨w.heap.size + 2, 0, none⟩ v4) ∧ Inv w Z L4 (w4.setCell ⟨w.heap.size + 2, 0, none⟩ v4) := by
 subst hN
 have hs3 := hb3.size
 have hs4 := hg.size
 have hne : ∀ k, k < w.heap.size + 4 → k ≠ w.heap.size + 1 → some k ≠ v.ownBlock := fun k h1 h2 e => by
  have := hv k e.symm
  omega
 have hv4 : ∀ k, v4.ownBlock = some k → k = w.heap.size + 1 ∨ w.heap.size + 4 ≤ k := fun k e => by
  rcases hat with h | h
  ·exact hv k (h ▸ e)
  ·rw [h] at e
   cases e
   exact .inr (by omega)
 have hkeep : ∀ k, k < w.heap.size + 4 → k ≠ w.heap.size + 1 → w4.heap[k]? = W.heap[k]? := fun k h1 h2 => by
  rw [hg.block k (by omega) (hne k h1 h2)]
  exact hb3.block k (by omega)
 have hbE : Below w.heap.size W (w4.setCell ⟨w.heap.size + 2, 0, none⟩ v4) := ((hb3.mono (by omega)).grown hg (by omega) (fun k hk => by have := hv k hk; omega)).setCell (p := ⟨w.heap.size + 2, 0, none⟩) (by simp) _
 refine ⟨KeepsOthers.from (((DK hb3).trans (KeepsOthers.of_grownBy hg (GJ hO))).trans (KeepsOthers.setCell _ _ _)) _, ⟨hbE, ?_⟩, ⟨⟨v4, ?_, ?_, hv4⟩, ?_, hb.trans hbE, ?_⟩⟩
 ·rw [AX _ (by omega), hkeep _ (by omega) (by omega)]
 ·exact Boxed.set _ ((hkeep _ (by omega) (by omega)).trans hB)
 ·exact hO4.ext (Ext.set1 w4 (w.heap.size + 2) 0 v4) (fun k hk e => by have := hv4 k hk; omega)
 ·rw [AX _ (by omega), hkeep _ (by omega) (by omega)]
  exact hZ
 ·simp [World.setCell]; omega
theorem SL (w : World) (s : ByteArray) (hs : s.size ≤ 1000) (hk : Au w) : Calls Tryz.prog 31 #[.string s] w (RB (.agg (byV (QX (bl s))).toArray) w) := by
 obtain ⟨R, hR⟩ := nXe ((byV (QX (bl s))).toArray)
 have hRn : R.size = 32 := by rw [hR]; simp [byV, QX, Bb]
 have HRS : Hid ((Tryz.prog.info? 44).map (·.size) = some R.size) := lh (by rw [hRn]; kernel_rfl)
 have HRN : Hid (32 = R.size) := lh hRn.symm
 have HRO : Hid (R.all (·.oneCell') = true) := lh (by rw [hR]; simp [byV, Value.oneCell'])
 rw [← hR]
 have HR := lh hR
 obtain ⟨Z, hZ⟩ := nXe ((byV WireT.Cg).toArray)
 have HLIT : Hid (zq0 Z) := lh (by rw [hZ]; unfold zq0; kernel_rfl)
 have HZN : Hid (Z.size = 32) := lh (by rw [hZ]; kernel_rfl)
 obtain ⟨w0, hw0⟩ := nXe (w.alloc (.cells Z 44))
 have hsz0 : w0.heap.size = w.heap.size + 1 := by rw [hw0]; simp
 have hb0 : Below w.heap.size w w0 := by rw [hw0]; exact bAx
 have hx0 : w0.heap[w.heap.size]? = some (.cells Z 44 (0, 0)) := by rw [hw0]; exact AL _ _
 have hcv := N8 w0 (w.heap.size + 1) hsz0.symm 4
 obtain ⟨w1, hw1⟩ := nXe (w0.alloc (.cells #[.int .u8 4] 5 (1, 2)))
 have hb1 : Below w.heap.size w w1 := by rw [hw1]; exact hb0.alloc (by omega) _
 have hx1 : w1.heap[w.heap.size]? = some (.cells Z 44 (0, 0)) := by rw [hw1]; exact Ak hx0 _
 have hsz1 : w1.heap.size = w.heap.size + 2 := by rw [hw1]; simp [hsz0]
 have hO1 : Ow w1 w.heap.size 5 1 (.slice (some ⟨w.heap.size + 1, 0, none⟩) 1 1) 1 (byV [4]) := by
  have := Pg w0 w.heap.size (by omega) 4
  rw [hsz0] at this
  rw [hw1]
  exact this
 rw [← hw1] at hcv
 obtain ⟨HV, HW0, HB1, HX1, HO1, HCV⟩ := l6h hk hw0 hb1 hx1 hO1 hcv
 clear hw0 hb0 hx0 hb1 hx1 hO1 hcv hw1 hR hRn hk hZ
 refine callsIn_wide (n := 3) |>.1 ?_
 refine callsIn_of_wp_marks func31 rfl trivial ?_ rfl
 simp only [ntmps31, List.size_toArray, List.length_cons, List.length_nil, Nat.reduceAdd, Nat.reduceSub, Array.replicate_succ, Array.replicate_zero, List.push_toArray, List.append_toArray, List.nil_append, List.cons_append]
 gi_wp2_with fail
 rw [HLIT.out, ← HW0.out]
 have hcv := HCV.out
 rw [hcv]
 clear hcv
 gi_wp2_with (refine ⟨trivial, ?_⟩; gi_at_call 54; refine (callsIn_wide.2 (OM _ s)).mono ?_; rintro e w' ⟨rfl, rfl⟩)
 obtain ⟨W0, hW0⟩ := nXe (((w1.alloc (.cells #[.slice (some ⟨w.heap.size + 1, 0, none⟩) 1 1] 100)).alloc (.cells #[.string s] 9)))
 have hsz : W0.heap.size = w.heap.size + 4 := by rw [hW0]; simp [hsz1]
 have VI : Below w1.heap.size w1 W0 := by rw [hW0]; exact ((Below.refl _ w1).alloc nR _).alloc (by simp) _
 have hB0 : Below w.heap.size w W0 := HB1.out.trans (VI.mono (by omega))
 have bB : Boxed W0 (w.heap.size + 2) 100 (.slice (some ⟨w.heap.size + 1, 0, none⟩) 1 1) := by rw [hW0]; exact Ak (Ad _ (by omega)) _
 have bE : W0.heap[w.heap.size + 3]? = some (.cells #[.string s] 9 (0, 0)) := by rw [hW0]; exact Ad _ (by simp; omega)
 have hX : W0.heap[w.heap.size]? = some (.cells Z 44 (0, 0)) := (VI.block _ (by omega)).trans HX1.out
 have hO : Ow W0 w.heap.size 5 1 (.slice (some ⟨w.heap.size + 1, 0, none⟩) 1 1) 1 (byV [4]) := HO1.out.ext (Ext.ofB VI) (fun _ _ h => h)
 have hI0 : Inv w (.cells Z 44 (0, 0)) (OH []) W0 := ⟨⟨_, bB, hO, fun k hk => .inl (by simp [Value.ownBlock] at hk; omega)⟩, hX, hB0, by omega⟩
 rw [← hW0]
 clear hW0 VI bB hX hO HB1 HX1 HO1 HCV
 refine wpIn_rangeFunc_ownH rfl (by omega) (gf := 85) (lb := #[.pointer (some ⟨w.heap.size + 2 + 1, 0, none⟩)]) rfl trivial (enters_of func85 (by kernel_rfl) rfl)
  (ER 2 (by omega) (w.heap.size + 3) w W0 s hs HV.out hB0 bE) (fun h k => Gd.trans h k) (fun W l o o' hl ho hc hk => ⟨belowK_b (w := W0) (by omega) W l o o' hl ho hc hk, World.putObj_heap_other (by omega)⟩) (Below.refl _ _) (fun _ => rfl)
  (fun pre W => Inv w (.cells Z 44 (0, 0)) (OH pre) W)
  (fun _ _ _ => False)
  (fun pre X Y row hI hg hr => by rw [hsz] at hr; exact hI.kept hg hr)
  (fun _ _ _ _ _ hs _ _ => hs)
  hI0
  (fun x a' W => a' = { tmps := #[.string s, undef, .pointer (some ⟨w.heap.size, 0, none⟩), .pointer (some ⟨w.heap.size + 2, 0, none⟩), undef, .string (bsOf x.x), .slice (some ⟨w.heap.size + 1, 0, none⟩) 1 1, .slice (some ⟨w.heap.size + 1, 0, none⟩) 1 1, .string s,
   .func (Fn.func 85) #[] #[.pointer (some ⟨w.heap.size + 2 + 1, 0, none⟩)], .int .i64 x.j, .string (bsOf x.x), undef, undef, undef, undef, undef, undef, undef], defers := [] })
  (fun x a' _ X Y row hs hg hr => hs)
  ?assign ?body ?done ?stop
 case assign =>
  rintro l pre ⟨j, x, hj, hx⟩ W K hI hK
  dsimp only [SE]
  gi_wp2
  exact hK _ _ (KeepsFrom.refl _ _) ⟨Below.refl _ _, rfl⟩ hI rfl
 case body =>
  rintro l pre ⟨j, x, hj, hx⟩ a' W hl ⟨r, hr⟩ hI rfl hlt
  obtain ⟨v, bV, hO, hv⟩ := hI.box
  have hbel := hI.bel
  have hold := hI.old
  have hsW := hI.sz
  obtain ⟨av, cv, rfl, _, _⟩ := hO.form
  have hpl := PX pre
  have hpn := Rp pre ⟨j, x, hj, hx⟩
  have hxl : (bsOf x).size = 16 := by rw [AY, hx]
  obtain ⟨L, hL⟩ := nXe (OH pre)
  rw [← hL] at hO hpl hpn hv bV
  simp only at hpn ⊢
  obtain ⟨n, hn⟩ := nXe (L.length)
  rw [← hn] at hO hpl hv bV
  have hn1 : n ≤ 1100 := by omega
  have Hn := lh hn
  clear hpl hn
  obtain ⟨X, hX⟩ := nXe (bsOf x)
  have hXb : bl X = x := by rw [hX, AV]
  rw [← hX] at hxl ⊢
  have hon := fun w hv => Td w X 3 hxl (by omega) hv
  rw [hXb] at hon
  obtain ⟨T, hT⟩ := nXe (bsOf (on 3 x))
  have hTb : bl T = on 3 x := by rw [hT, AV]
  have hTs : T.size = 16 := by rw [← AP, hTb, DD (by rw [← hXb, AP]; exact hxl)]
  rw [← hT] at hon
  have hc2 := bV.cell
  obtain ⟨Hon, HO, HBV, Hv, QH, X5, HTb, Hpn⟩ := l8h hon hO bV hv hbel hold hTb hpn
  clear hon hO bV hv hbel hold hTb hpn hT hX hL hr hI hI0 bE hB0 hXb
  gi_wp2
  refine Dr (S := (fun W' => W'.cell? ⟨w.heap.size + 2, 0, none⟩ = some (.slice av n cv) ∧ Below w.heap.size w W' ∧ Ow W' w.heap.size 5 1 (.slice av n cv) n (byV L))) (K := [3, 4]) (by kernel_rfl) (by kernel_rfl) ?_ ?_
  ·rintro ⟨a, w, h⟩
   exact h
  have hS0 : W.drew.cell? ⟨w.heap.size + 2, 0, none⟩ = some (.slice av n cv) ∧ Below w.heap.size w W.drew ∧ Ow W.drew w.heap.size 5 1 (.slice av n cv) n (byV L) := ⟨hc2, Bl.drew QH.out, HO.out.ext (Ext.drew (Ext.refl _ _)) (fun _ _ h => h)⟩
  refine Wr.tkI 0 ?_ ?_ hS0 ?_
  rotate_left
  ·intro wq hSw
   obtain ⟨q0, q1, q2⟩ := hSw
   go_simp
   rfl
  simp only [sq]
  refine Wr.tkE 1 ?_ ?_ hS0 ?_
  rotate_left
  ·intro wq _
   go_simp
   rfl
  simp only [sq]
  refine Wr.Ab (i := 2) (by kernel_rfl) ?_
  refine BR rfl (by rfl) (by go_simp; first | rfl | exact ⟨⟨rfl, rfl⟩, rfl⟩ | exact ⟨rfl, rfl⟩) ?_
  refine (Hon.out W.drew (HV.out.below hS0.2.1)).mono ?_
  rintro e w3 ⟨rfl, hb3⟩
  have OJ : Below W.heap.size W w3 := (Bl.drew (Below.refl _ W)).trans hb3
  have hS1 : w3.cell? ⟨w.heap.size + 2, 0, none⟩ = some (.slice av n cv) ∧ Below w.heap.size w w3 ∧ Ow w3 w.heap.size 5 1 (.slice av n cv) n (byV L) := ⟨AB hb3 hS0.1, hS0.2.1.trans (hb3.mono hS0.2.1.size), hS0.2.2.ext (Ext.ofB hb3) (fun _ _ h => h)⟩
  refine ⟨_, rfl, ?_, ?_⟩
  ·exact hS1
  simp only [sq]
  refine Wr.BJ (i := 3) (by kernel_rfl) (by kernel_rfl) ?_
  refine Wr.Ci rfl (by rfl) _ _ _ _ rfl A8 w.heap.size (.slice av n cv) n (byV L) rfl hS1.2.2 (.string T) 16 (byV (bl T)) rfl (by have := Src.ofString (P := Tryz.prog) (w := w3) underlying9 T; rw [hTs] at this; exact this) (n + 16) rfl (byV (L ++ on 3 x)) (by rw [Ao, HTb.out]) (by unfold maxLen; omega) (by omega) hS1.2.1.size ?_
  intro a4 c4 w4 NA hgrow4 Nn
  simp only [sq]
  have hne : (Value.slice av n cv).ownBlock ≠ some (w.heap.size + 2) := fun h => by
   have := Hv.out _ h
   omega
  have hB3 : w3.heap[w.heap.size + 2]? = some (.cells #[.slice av n cv] 100 (0, 0)) := (OJ.block _ (by omega)).trans HBV.out
  have hB4 : w4.heap[w.heap.size + 2]? = some (.cells #[.slice av n cv] 100 (0, 0)) := (hgrow4.block _ (AJ hB3) (fun h => hne h.symm)).trans hB3
  obtain ⟨cx4, fx4⟩ := AA hB4
  refine Wr.BJ (i := 4) (by kernel_rfl) (by kernel_rfl) ?_
  refine BO rfl (by rfl) (w' := w4.setCell ⟨w.heap.size + 2, 0, none⟩ (.slice a4 (n + 16) c4)) (by go_simp; first | done | rfl) ?_
  simp only [sq]
  refine Wr.Ag (by kernel_rfl) ?_ _
  gi_wp2
  rw [hsz]
  refine IP QH.out hsW HBV.out X5.out Hv.out hS1.2.2 OJ hgrow4 ?_ (by rw [Hpn.out]; exact NA) Nn
  rw [Hpn.out, List.length_append, ← Hn.out, ← HTb.out, AP, hTs]
 case done =>
  rintro D ys W hD rfl hI hK
  rw [TT] at hI
  obtain ⟨v, bV, hO, hv⟩ := hI.box
  have hpl := PV (bl s) 68
  obtain ⟨L, hL⟩ := nXe (PW (bl s) 68)
  rw [← hL] at hO hpl
  have hcv := BX W 100 9 5 underlying100 underlying5 underlying9 v L hO.sl
  obtain ⟨av, cv, rfl, _, _⟩ := hO.form
  have hSm := ShaM.Ee W (bsOf L) (by rw [AY, hpl]; omega) (HV.out.below hI.bel)
  have hRL : (byV (sum (bl (bsOf L)))).toArray = R := by rw [AV, hL]; exact HR.out.symm
  rw [hRL] at hSm
  obtain ⟨T, hT⟩ := nXe (bsOf L)
  rw [← hT] at hcv hSm
  obtain ⟨n, hn⟩ := nXe (L.length)
  rw [← hn] at hcv bV
  have HSm := lh hSm
  have hcc := bV.cell
  obtain ⟨HI, HK⟩ := l2h hI hK
  have hDl := AJ hK
  have hDs : w.heap.size + 4 ≤ D := by omega
  clear hI hK hO hpl hL hn hT hSm hRL hv bV hI0 bE hB0
  gi_wp2_with fail
  refine ⟨trivial, ?_⟩
  refine (callsIn_wide.2 HSm.out).mono ?_
  rintro e w3 ⟨rfl, hb⟩
  obtain ⟨HB3, HX3, HK3⟩ := l3h (HI.out.bel.trans (hb.mono HI.out.bel.size)) ((hb.block _ (AJ HI.out.old)).trans HI.out.old) ((hb.block _ hDl).trans HK.out)
  clear hb hcc hcv
  gi_wp2_with (first | (refine GR QL rfl _ _ _ rfl w.heap.size R rfl rfl _ _ HX3.out HRS.out (by rw [HZN.out]; exact HRN.out) HRO.out ?_) | fail)
  intro wf hwf
  have hKf : wf.heap[D]? = some (.deferred (some [])) := by rw [hwf.out]; exact (CO _ (by omega)).trans HK3.out
  have hRf : wf.heap[w.heap.size]? = some (.cells R 44 (0, 0)) := by rw [hwf.out]; exact AR HX3.out
  have hBf : Below w.heap.size w wf := by rw [hwf.out]; exact AQ HB3.out nR _
  clear hwf
  gi_wp2
  refine ⟨by simp, .inl ⟨_, _, rfl, run_takeDeferred hKf, ?_⟩⟩
  exact ⟨_, results_cell_row rfl _ _ w.heap.size _ R (0, 0) _ rfl ((World.putObj_heap_other (by omega)).trans hRf) underlying44 rfl HRS.out, rfl, hBf.trans (belowK_b (w := w) nR wf D _ _ (by omega) hKf rfl rfl)⟩
 case stop =>
  rintro D c pre W _ _ h _
  exact h.elim
end KeyE
namespace KeyF
open Go Go.RowKit Go.Shelf OctP OctG RowsX Lift ShaS KeyS ShaA ShaB Steps KeyA KeyB KeyC KeyD KeyE
attribute [local go_sem] Oper.semAt_some
attribute [-go_sem] Builtin.append_
structure InvS (w : World) (dv : Value) (L : List UInt8) (W : World) : Prop where
 box : ∃ v, Boxed W (w.heap.size + 1) 100 v ∧ Ow W (w.heap.size + 3) 5 1 v L.length (byV L)
 dig : W.heap[w.heap.size]? = some (.cells #[dv] 151 (0, 0))
 bel : Below w.heap.size w W
 sz : w.heap.size + 3 ≤ W.heap.size
theorem InvS.kept {w X Y : World} {dv : Value} {L : List UInt8} {row : Option Nat} (h : InvS w dv L X) (hg : X.grownBy Y row) (hr : ∀ r, row = some r → w.heap.size + 3 ≤ r ∧ ∃ o : Obj, X.heap[r]? = some o ∧ o.isCells = false) : InvS w dv L Y := by
 have hr' := fun r e => (hr r e).2
 obtain ⟨v, h1, h2⟩ := h.box
 have hs := h.sz
 exact ⟨⟨v, Bc h1 hg hr', Ew h2 hg hr'⟩, (hg.block _ (by omega) (fun e => by have := (hr _ e.symm).1; omega)).trans h.dig, h.bel.grown hg h.bel.size (fun k hk => by have := (hr k hk).1; omega), Nat.le_trans h.sz hg.size⟩
theorem R4 {w W w3 w4 : World} {dv v v4 : Value} {n N : Nat} {xs : List Value} {L4 : List UInt8} (hb : Below w.heap.size w W) (hs : w.heap.size + 3 ≤ W.heap.size) (hB : Boxed W (w.heap.size + 1) 100 v) (hZ : W.heap[w.heap.size]? = some (.cells #[dv] 151 (0, 0)))
 (hO : Ow w3 (w.heap.size + 3) 5 1 v n xs) (hb3 : Below W.heap.size W w3) (hg : w3.grownBy w4 v.ownBlock) (hN : N = L4.length) (hO4 : Ow w4 (w.heap.size + 3) 5 1 v4 N (byV L4)) :
 KeepsFrom (w.heap.size + 3) W (w4.setCell ⟨w.heap.size + 1, 0, none⟩ v4) ∧ Gd w.heap.size (w.heap.size + 2) W (w4.setCell ⟨w.heap.size + 1, 0, none⟩ v4) ∧ InvS w dv L4 (w4.setCell ⟨w.heap.size + 1, 0, none⟩ v4) := by
 subst hN
 have hs3 := hb3.size
 have hs4 := hg.size
 have hkeep : ∀ k, k < w.heap.size + 3 → w4.heap[k]? = W.heap[k]? := fun k h1 => by
  rw [hg.block k (by omega) (fun e => by have := (hO.lt k e.symm).1; omega)]
  exact hb3.block k (by omega)
 have hbE : Below w.heap.size W (w4.setCell ⟨w.heap.size + 1, 0, none⟩ v4) := ((hb3.mono (by omega)).grown hg (by omega) (fun k hk => by have := (hO.lt k hk).1; omega)).setCell (p := ⟨w.heap.size + 1, 0, none⟩) (by simp) _
 refine ⟨KeepsOthers.from (((DK hb3).trans (KeepsOthers.of_grownBy hg (GJ hO))).trans (KeepsOthers.setCell _ _ _)) _, ⟨hbE, ?_⟩, ⟨⟨v4, ?_, ?_⟩, ?_, hb.trans hbE, ?_⟩⟩
 ·rw [AX _ (by omega), hkeep _ (by omega)]
 ·exact Boxed.set _ ((hkeep _ (by omega)).trans hB)
 ·exact hO4.ext (Ext.set1 w4 (w.heap.size + 1) 0 v4) (fun k hk e => by have := (hO4.lt k hk).1; omega)
 ·rw [AX _ (by omega), hkeep _ (by omega)]
  exact hZ
 ·simp [World.setCell]; omega
def GX (D : List Nat) (pre : List Ch) : List UInt8 := pre.flatMap fun c => on (D.getD c.j 0) c.x
theorem QQ (D : List Nat) (pre : List Ch) (c : Ch) : GX D (pre ++ [c]) = GX D pre ++ on (D.getD c.j 0) c.x := by
 unfold GX
 rw [List.flatMap_append, List.flatMap_singleton]
theorem Oq (D : List Nat) : ∀ pre : List Ch, (GX D pre).length = 16 * pre.length := by
 intro pre
 unfold GX
 induction pre with
 | nil => rfl
 | cons c r ih => rw [List.flatMap_cons, List.length_append, ih, DD c.hx, List.length_cons]; omega
theorem Rc (D : List Nat) (seed : List UInt8) : GX D (PS seed 68) = Nh seed D 68 := by
 unfold GX PS Nh
 rw [List.flatMap_map]
 refine NL _ _ _ (fun j hj => ?_)
 have : j % 68 = j := Nat.mod_eq_of_lt (by simpa using hj)
 simp only [SF, this]
theorem PD (w : World) (s text : ByteArray) (hs : s.size ≤ 1000) (ht : text.size ≤ 140737488355328) (hk : Au w) : Calls Tryz.prog 62 #[.string s, .string text] w (RB (.string (bsOf (sign (bl s) (bl text)))) w) := by
 have hDg := fun w hk => Oe w text ht hk
 unfold sign
 have hd3 := GM (bl text)
 have hdl := digits_length (bl text)
 obtain ⟨D, hD⟩ := nXe (digits (bl text))
 rw [← hD] at hDg hd3 hdl ⊢
 obtain ⟨R, hR⟩ := nXe (bsOf (Nh (bl s) D 68))
 rw [← hR]
 obtain ⟨HR, HDg, Hd3, Hdl, HV0⟩ := l5h hR hDg hd3 hdl hk
 clear hDg hd3 hdl hR hk hD
 refine callsIn_wide (n := 3) |>.1 ?_
 refine callsIn_of_wp_marks func62 rfl trivial ?_ rfl
 simp only [ntmps62, List.size_toArray, List.length_cons, List.length_nil, Nat.reduceAdd, Nat.reduceSub, Array.replicate_succ, Array.replicate_zero, List.push_toArray, List.append_toArray, List.nil_append, List.cons_append]
 gi_wp2_with fail
 refine ⟨trivial, ?_⟩
 refine (callsIn_wide.2 (HDg.out w HV0.out)).mono ?_
 rintro e wd ⟨dv, rfl, hu⟩
 have hsl : SlN wd dv D := hu.sl
 obtain ⟨b, o, dcap, rfl, hblt, hc⟩ := hsl.cells (by rw [Hdl.out]; omega)
 rw [Hdl.out]
 obtain ⟨HBd, HV, Hc⟩ := l3h hu.bel (HV0.out.below hu.bel) hc
 clear hu hsl hc HV0
 gi_wp2_with (refine ⟨trivial, ?_⟩; gi_at_call 54; refine (callsIn_wide.2 (OM _ s)).mono ?_; rintro e w' ⟨rfl, rfl⟩)
 obtain ⟨W0, hW0⟩ := nXe ((((wd.alloc (.cells #[.slice (some ⟨b, o, none⟩) 68 dcap] 151)).alloc (.cells #[.slice none 0 0] 100)).alloc (.cells #[.string s] 9)))
 have hsz : W0.heap.size = wd.heap.size + 3 := by rw [hW0]; simp
 have hB0 : Below wd.heap.size wd W0 := by rw [hW0]; exact (((Below.refl _ wd).alloc nR _).alloc (by simp) _).alloc (by simp; omega) _
 have bD : W0.heap[wd.heap.size]? = some (.cells #[.slice (some ⟨b, o, none⟩) 68 dcap] 151 (0, 0)) := by rw [hW0]; exact Ak (Ak (AL _ _) _) _
 have bB : Boxed W0 (wd.heap.size + 1) 100 (.slice none 0 0) := by rw [hW0]; exact Ak (Ad _ (by simp)) _
 have bE : W0.heap[wd.heap.size + 2]? = some (.cells #[.string s] 9 (0, 0)) := by rw [hW0]; exact Ad _ (by simp)
 have hI0 : InvS wd (.slice (some ⟨b, o, none⟩) 68 dcap) (GX D []) W0 := ⟨⟨_, bB, Ow.nil _ _ _ _⟩, bD, hB0, by omega⟩
 rw [← hW0]
 clear hW0 bD bB
 refine wpIn_rangeFunc_ownH rfl (by omega) (gf := 85) (lb := #[.pointer (some ⟨wd.heap.size + 1 + 1, 0, none⟩)]) rfl trivial (enters_of func85 (by kernel_rfl) rfl)
  (ER 2 (by omega) (wd.heap.size + 2) wd W0 s hs HV.out hB0 bE) (fun h k => Gd.trans h k) (fun W l o o' hl ho hc hk => ⟨belowK_b (w := W0) (by omega) W l o o' hl ho hc hk, World.putObj_heap_other (by omega)⟩) (Below.refl _ _) (fun _ => rfl)
  (fun pre W => InvS wd (.slice (some ⟨b, o, none⟩) 68 dcap) (GX D pre) W)
  (fun _ _ _ => False)
  (fun pre X Y row hI hg hr => by rw [hsz] at hr; exact hI.kept hg hr)
  (fun _ _ _ _ _ hs _ _ => hs)
  hI0
  (fun x a' W => a' = { tmps := #[.string s, .string text, undef, undef, .string ⟨#[]⟩, .pointer (some ⟨wd.heap.size, 0, none⟩), .pointer (some ⟨wd.heap.size + 1, 0, none⟩), .int .i64 x.j, .string (bsOf x.x), .string text, .slice (some ⟨b, o, none⟩) 68 dcap, .string s,
   .func (Fn.func 85) #[] #[.pointer (some ⟨wd.heap.size + 1 + 1, 0, none⟩)], .int .i64 x.j, .string (bsOf x.x), undef, undef, undef, undef, undef, undef, undef, undef, undef, undef], defers := [] })
  (fun x a' _ X Y row hs hg hr => hs)
  ?assign ?body ?done ?stop
 case assign =>
  rintro l pre ⟨j, x, hj, hx⟩ W K hI hK
  dsimp only [SE]
  gi_wp2
  exact hK _ _ (KeepsFrom.refl _ _) ⟨Below.refl _ _, rfl⟩ hI rfl
 case body =>
  rintro l pre ⟨j, x, hj, hx⟩ a' W hl ⟨r, hr⟩ hI rfl hlt
  obtain ⟨v, bV, hO⟩ := hI.box
  have hbel := hI.bel
  have hdig := hI.dig
  have hsW := hI.sz
  obtain ⟨av, cv, rfl, _, _⟩ := hO.form
  have hpl := Oq D pre
  have hpn := QQ D pre ⟨j, x, hj, hx⟩
  have hxl : (bsOf x).size = 16 := by rw [AY, hx]
  obtain ⟨d, hd⟩ : ∃ d, D[j]? = some d := ⟨_, List.getElem?_eq_getElem (by rw [Hdl.out]; exact hj)⟩
  have hd3 := Hd3.out d (List.mem_of_getElem? hd)
  have hcd : W.cell? ⟨b, o + j, none⟩ = some (.int .i64 (d : Int)) := (hbel.cell (p := ⟨b, o + j, none⟩) hblt).trans (Hc.out j d hd)
  have hjI : (j : Int) < 68 := by omega
  have hdg : D.getD j 0 = d := by rw [List.getD_eq_getElem?_getD, hd]; rfl
  simp only [hdg] at hpn
  obtain ⟨L, hL⟩ := nXe (GX D pre)
  rw [← hL] at hO hpl hpn bV
  simp only at hpn ⊢
  obtain ⟨n, hn⟩ := nXe (L.length)
  rw [← hn] at hO hpl bV
  have hn1 : n ≤ 1100 := by omega
  have Hn := lh hn
  obtain ⟨X, hX⟩ := nXe (bsOf x)
  have hXb : bl X = x := by rw [hX, AV]
  rw [← hX] at hxl ⊢
  have hon := fun w hv => Td w X d hxl hd3 hv
  rw [hXb] at hon
  obtain ⟨T, hT⟩ := nXe (bsOf (on d x))
  have hTb : bl T = on d x := by rw [hT, AV]
  have hTs : T.size = 16 := by rw [← AP, hTb, DD (by rw [← hXb, AP]; exact hxl)]
  rw [← hT] at hon
  have hc1 := bV.cell
  have hc0 : W.cell? ⟨wd.heap.size, 0, none⟩ = some (.slice (some ⟨b, o, none⟩) 68 dcap) := AO hdig
  obtain ⟨Hon, HO, HBV, QH, bJ, HTb, Hpn⟩ := l7h hon hO bV hbel hdig hTb hpn
  clear hpl hn hon hO bV hbel hdig hTb hpn hT hX hL hr hI hI0 bE hB0 hXb hd hdg
  gi_wp2
  refine Dr (S := (fun W' => W'.cell? ⟨wd.heap.size + 1, 0, none⟩ = some (.slice av n cv) ∧ W'.cell? ⟨wd.heap.size, 0, none⟩ = some (.slice (some ⟨b, o, none⟩) 68 dcap) ∧ W'.cell? ⟨b, o + j, none⟩ = some (.int .i64 (d : Int)) ∧ Below wd.heap.size wd W')) (K := [7, 8]) (by kernel_rfl) (by kernel_rfl) ?_ ?_
  ·rintro ⟨a, w, h⟩
   exact h
  have hS0 : W.drew.cell? ⟨wd.heap.size + 1, 0, none⟩ = some (.slice av n cv) ∧ W.drew.cell? ⟨wd.heap.size, 0, none⟩ = some (.slice (some ⟨b, o, none⟩) 68 dcap) ∧ W.drew.cell? ⟨b, o + j, none⟩ = some (.int .i64 (d : Int)) ∧ Below wd.heap.size wd W.drew := ⟨hc1, hc0, hcd, Bl.drew QH.out⟩
  refine Wr.tkI 0 ?_ ?_ hS0 ?_
  rotate_left
  ·intro wq hSw
   obtain ⟨q0, q1, q2, q3⟩ := hSw
   go_simp
   rfl
  simp only [sq]
  refine Wr.tkE 1 ?_ ?_ hS0 ?_
  rotate_left
  ·intro wq _
   go_simp
   rfl
  simp only [sq]
  refine Wr.Bq [4, 5, 6, 7, 8] (i := 2) (v := ?_) rfl (by kernel_rfl) (fun _ _ _ h => h) (Or.inl ⟨by rfl, ?_⟩) hS0 ?_
  rotate_left
  ·intro wq hSw
   obtain ⟨q0, q1, q2, q3⟩ := hSw
   go_simp
   rfl
  simp only [sq]
  refine Wr.tkE 3 ?_ ?_ hS0 ?_
  rotate_left
  ·intro wq _
   go_simp
   rfl
  simp only [sq]
  refine Wr.tkE 4 ?_ ?_ hS0 ?_
  rotate_left
  ·intro wq _
   go_simp
   rfl
  simp only [sq]
  refine Wr.Bq [6, 7, 8] (i := 5) (v := ?_) rfl (by kernel_rfl) (fun _ _ _ h => h) (Or.inl ⟨by rfl, ?_⟩) hS0 ?_
  rotate_left
  ·intro wq hSw
   obtain ⟨q0, q1, q2, q3⟩ := hSw
   go_simp
   rfl
  simp only [sq]
  refine Wr.Ab (i := 6) (by kernel_rfl) ?_
  refine BR rfl (by rfl) (by go_simp; first | rfl | exact ⟨⟨rfl, rfl⟩, rfl⟩ | exact ⟨rfl, rfl⟩) ?_
  refine (Hon.out W.drew (HV.out.below hS0.2.2.2)).mono ?_
  rintro e w3 ⟨rfl, hb3⟩
  have OJ : Below W.heap.size W w3 := (Bl.drew (Below.refl _ W)).trans hb3
  have hO3 : Ow w3 (wd.heap.size + 3) 5 1 (.slice av n cv) n (byV L) := HO.out.ext (Ext.ofB OJ) (fun _ _ h => h)
  have hS1 : w3.cell? ⟨wd.heap.size + 1, 0, none⟩ = some (.slice av n cv) ∧ w3.cell? ⟨wd.heap.size, 0, none⟩ = some (.slice (some ⟨b, o, none⟩) 68 dcap) ∧ w3.cell? ⟨b, o + j, none⟩ = some (.int .i64 (d : Int)) ∧ Below wd.heap.size wd w3 := ⟨AB hb3 hS0.1, AB hb3 hS0.2.1, AB hb3 hS0.2.2.1, hS0.2.2.2.trans (hb3.mono hS0.2.2.2.size)⟩
  refine ⟨_, rfl, ?_, ?_⟩
  ·exact hS1
  simp only [sq]
  refine Wr.BJ (i := 7) (by kernel_rfl) (by kernel_rfl) ?_
  refine Wr.Ci rfl (by rfl) _ _ _ _ rfl A8 (wd.heap.size + 3) (.slice av n cv) n (byV L) rfl hO3 (.string T) 16 (byV (bl T)) rfl (by have := Src.ofString (P := Tryz.prog) (w := w3) underlying9 T; rw [hTs] at this; exact this) (n + 16) rfl (byV (L ++ on d x)) (by rw [Ao, HTb.out]) (by unfold maxLen; omega) (by omega) (Nat.le_trans hsW OJ.size) ?_
  intro a4 c4 w4 NA hgrow4 Nn
  simp only [sq]
  have hB3 : w3.heap[wd.heap.size + 1]? = some (.cells #[.slice av n cv] 100 (0, 0)) := (OJ.block _ (by omega)).trans HBV.out
  have hB4 : w4.heap[wd.heap.size + 1]? = some (.cells #[.slice av n cv] 100 (0, 0)) := (hgrow4.block _ (AJ hB3) (fun h => by have := (hO3.lt _ h.symm).1; omega)).trans hB3
  obtain ⟨cx4, fx4⟩ := AA hB4
  refine Wr.BJ (i := 8) (by kernel_rfl) (by kernel_rfl) ?_
  refine BO rfl (by rfl) (w' := w4.setCell ⟨wd.heap.size + 1, 0, none⟩ (.slice a4 (n + 16) c4)) (by go_simp; first | done | rfl) ?_
  simp only [sq]
  refine Wr.Ag (by kernel_rfl) ?_ _
  gi_wp2
  rw [hsz]
  refine R4 QH.out hsW HBV.out bJ.out hO3 OJ hgrow4 ?_ (by rw [Hpn.out]; exact NA)
  rw [Hpn.out, List.length_append, ← Hn.out, ← HTb.out, AP, hTs]
 case done =>
  rintro D2 ys W hD rfl hI hK
  rw [Rc] at hI
  obtain ⟨v, bV, hO⟩ := hI.box
  have hpl := G7 (bl s) D 68
  obtain ⟨L, hL⟩ := nXe (Nh (bl s) D 68)
  rw [← hL] at hO hpl
  have hcv := BX W 100 9 5 underlying100 underlying5 underlying9 v L hO.sl
  obtain ⟨av, cv, rfl, _, _⟩ := hO.form
  have hRL : bsOf L = R := by rw [hL]; exact HR.out.symm
  rw [hRL] at hcv
  obtain ⟨n, hn⟩ := nXe (L.length)
  rw [← hn] at hcv bV
  have hcc := bV.cell
  obtain ⟨HI, HK⟩ := l2h hI hK
  clear hI hK hO hpl hL hn hRL bV hI0 bE hB0
  gi_wp2
  refine ⟨by simp, .inl ⟨_, _, rfl, run_takeDeferred HK.out, ?_⟩⟩
  exact ⟨_, results_tmp rfl _ _ _, rfl, (HBd.out.trans (HI.out.bel.mono HBd.out.size)).trans (belowK_b (w := w) nR W D2 _ _ (by have := HBd.out.size; omega) HK.out rfl rfl)⟩
 case stop =>
  rintro D c pre W _ _ h _
  exact h.elim
end KeyF
end Go.Proofs.YtceiajepcokacaaGreatDoor
