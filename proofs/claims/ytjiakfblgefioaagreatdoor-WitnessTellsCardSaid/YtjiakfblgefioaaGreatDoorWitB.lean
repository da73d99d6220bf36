/-
  WHAT IS PROVED: how long small numbers are, and a deed that is repeated. Condition: none.
-/
import Derived.Test.YtjiakfblgefioaaGreatDoorWitS
import Derived.Test.YtjiakfblgefioaaGreatDoorShelfB
import Derived.Test.YtjiakfblgefioaaGreatDoorEqHash
import Derived.IntWalk
namespace Go.Proofs.YtjiakfblgefioaaGreatDoor.WitB
open Go Go.RowKit Go.Shelf Go.Proofs.YtjiakfblgefioaaGreatDoor Go.Proofs.YtjiakfblgefioaaGreatDoor.OctetS Go.Proofs.YtjiakfblgefioaaGreatDoor.IdentS Go.Proofs.YtjiakfblgefioaaGreatDoor.EventS Go.Proofs.YtjiakfblgefioaaGreatDoor.EntS Go.Proofs.YtjiakfblgefioaaGreatDoor.OctP Go.Proofs.YtjiakfblgefioaaGreatDoor.OctQ Go.Proofs.YtjiakfblgefioaaGreatDoor.IdentP Go.Proofs.YtjiakfblgefioaaGreatDoor.IdentR Go.Proofs.YtjiakfblgefioaaGreatDoor.EventP Go.Proofs.YtjiakfblgefioaaGreatDoor.EventC Go.Proofs.YtjiakfblgefioaaGreatDoor.EventB Go.Proofs.YtjiakfblgefioaaGreatDoor.EntP Go.Proofs.YtjiakfblgefioaaGreatDoor.RowsX Go.Proofs.YtjiakfblgefioaaGreatDoor.WitS
set_option linter.unusedVariables false
set_option linter.unusedSimpArgs false

/-! ### Copying rows -/
section
variable {P : Program} (w : World)
theorem run_copy_rows (dT sT ty elem : TypeId) (size g o dLen dCap : Nat) (a : Addr) (sLen sCap : Nat) (cur : Array Value) (t : TypeId) (cs : List Value)
    (hu : P.underlying dT = some (.slice elem)) (hs : (P.info? elem).map (·.size) = some size)
    (hg : w.heap[g]? = some (.cells cur t (0, 0))) (hn : cs.length = Nat.min sLen dLen * size)
    (hsrc : ∀ j v, cs[j]? = some v → w.cell? (a.add j) = some v) (hfit : o + cs.length ≤ cur.size) (h1 : ∀ v ∈ cs, v.oneCell' = true) :
    (Builtin.copy_ #[dT, sT] ty #[.slice (some ⟨g, o, none⟩) dLen dCap, .slice (some a) sLen sCap]).run P w =
      .ok (goInt (Nat.min sLen dLen)) (w.setRow g (cur.toList.take o ++ cs ++ cur.toList.drop (o + cs.length)).toArray) := by
  have hl := run_loadCells_list (P := P) w a cs hsrc
  have hst := run_storeCells_at P g o t cs 0 cur w hg (by simpa using hfit) h1
  cases hq : P.info? elem with
  | none => simp [hq] at hs
  | some i =>
    have hi : i.size = size := by simpa [hq] using hs
    simp [Builtin.copy_, run_underlying hu, Builtin.lenOf, Builtin.firstCells, sizeOf, typeInfo, hq, hi, ← hn, hl, hst]
theorem wpList_copy_rows {ops : Array Oper} {rest : List Oper} {o : Oper} {a : Act} {Q : Exit → Act → World → Prop} (hgd : o.guard = none) (d s : Operand) (dT sT : TypeId)
    (ho : o.op = .call { callee := .builtin .copy, args := #[d, s], argTypes := #[dT, sT] }) (elem : TypeId) (size : Nat) (hu : P.underlying dT = some (.slice elem)) (hsz : (P.info? elem).map (·.size) = some size)
    (g off dLen dCap : Nat) (ad : Addr) (sLen sCap : Nat) (hd : a.eval d = .slice (some ⟨g, off, none⟩) dLen dCap) (hs : a.eval s = .slice (some ad) sLen sCap)
    (cur : Array Value) (t : TypeId) (hg : w.heap[g]? = some (.cells cur t (0, 0))) (cs : List Value) (hn : cs.length = Nat.min sLen dLen * size)
    (hsrc : ∀ j v, cs[j]? = some v → w.cell? (ad.add j) = some v) (hfit : off + cs.length ≤ cur.size) (h1 : ∀ v ∈ cs, v.oneCell' = true)
    (h : ∀ w', Hid (w' = w.setRow g (cur.toList.take off ++ cs ++ cur.toList.drop (off + cs.length)).toArray) → wpList P ops Q rest (a.put o.dst (goInt (Nat.min sLen dLen))) w') : wpList P ops Q (o :: rest) a w := by
  refine wpList_plain hgd fun K hK => ?_
  have hrun := run_copy_rows (P := P) w dT sT o.type elem size g off dLen dCap ad sLen sCap cur t cs hu hsz hg hn hsrc hfit h1
  have := hK _ _ (h _ (Lib.hid rfl))
  unfold Oper.wp
  simp only [execOp, ho, resolve, invoke, builtin, List.map_toArray, List.map_cons, List.map_nil, hd, hs, Sem.run_bind, Sem.run_pure, hrun, Result.andThen_ok]
  exact this
end

/-- The same, as one operation of a region that draws its order. -/
theorem wpOp_copy_rows {P : Program} {ops : Array Oper} {Q : Exit → Act → World → Prop} {i : Nat} {o : Oper} {a : Act} {w : World} {K : Act → World → Prop} (hi : ops[i]? = some o) (hwt : Region.wanted o (yielded ops a.tmps) = true) (d s : Operand) (dT sT : TypeId)
    (ho : o.op = .call { callee := .builtin .copy, args := #[d, s], argTypes := #[dT, sT] }) (elem : TypeId) (size : Nat) (hu : P.underlying dT = some (.slice elem)) (hsz : (P.info? elem).map (·.size) = some size)
    (g off dLen dCap : Nat) (ad : Addr) (sLen sCap : Nat) (hd : a.eval d = .slice (some ⟨g, off, none⟩) dLen dCap) (hs : a.eval s = .slice (some ad) sLen sCap)
    (cur : Array Value) (t : TypeId) (hg : w.heap[g]? = some (.cells cur t (0, 0))) (cs : List Value) (m : Nat) (hm : Nat.min sLen dLen = m) (hn : cs.length = m * size)
    (hsrc : ∀ j v, cs[j]? = some v → w.cell? (ad.add j) = some v) (hfit : off + cs.length ≤ cur.size) (h1 : ∀ v ∈ cs, v.oneCell' = true)
    (h : ∀ w', Hid (w' = w.setRow g (cur.toList.take off ++ cs ++ cur.toList.drop (off + cs.length)).toArray) → K (a.put o.dst (.int .i64 m)) w') : wpOp P ops Q i K a w := by
  subst hm
  have hrun := run_copy_rows (P := P) w dT sT o.type elem size g off dLen dCap ad sLen sCap cur t cs hu hsz hg hn hsrc hfit h1
  refine wpOp_run hi hwt (v := goInt (Nat.min sLen dLen)) (w' := w.setRow g (cur.toList.take off ++ cs ++ cur.toList.drop (off + cs.length)).toArray) ?_ (h _ (Lib.hid rfl))
  simp only [execOp, ho, resolve, invoke, builtin, List.map_toArray, List.map_cons, List.map_nil, hd, hs, Sem.run_bind, Sem.run_pure, hrun, Result.andThen_ok]

theorem mul1_ok (w : World) (d : Nat) (hd : d ≤ 100) : Calls Tryz.prog 65 #[.int .u64 1, .int .u64 d] w fun e w' => e = .returned (.tuple #[.int .u64 0, .int .u64 d]) ∧ w = w' := by
  refine (Tryz.bits_Mul 1 d (by omega) (by omega) w).mono ?_
  rintro e w' ⟨rfl, rfl⟩
  refine ⟨?_, rfl⟩
  rw [show 1 * d / 18446744073709551616 = 0 by omega, show 1 * d % 18446744073709551616 = d by omega]
  rfl

/-! ### A deed, so many times -/
def RepAt (g d n : Nat) (D : Dd) (w0 w : World) : Prop := Below w0.heap.size w0 w ∧ w0.heap.size ≤ g ∧ ∃ cur : Array Value, w.heap[g]? = some (.cells cur 49 (0, 0)) ∧ cur.size = d * 5 ∧ cur.toList.take (n * 5) = ddV (List.replicate n D)
theorem rep_len (n : Nat) (D : Dd) : (ddV (List.replicate n D)).length = n * 5 := by
  have := ddF.total (List.replicate n D)
  rw [List.length_replicate] at this
  exact this
theorem rep_add (n m : Nat) (D : Dd) : ddV (List.replicate (n + m) D) = ddV (List.replicate n D) ++ ddV (List.replicate m D) := by
  unfold ddV
  rw [← List.flatMap_append, List.replicate_append_replicate]
theorem rep_one (n : Nat) (D : Dd) : ∀ v ∈ ddV (List.replicate n D), v.oneCell' = true := by
  intro v hv
  obtain ⟨x, _, hx⟩ := List.mem_flatMap.1 hv
  exact ddF.one x v hx
theorem RepAt.sl {g d : Nat} {D : Dd} {w0 w : World} (h : RepAt g d d D w0 w) (hd : d ≤ 100) : Sl w (.slice (some ⟨g, 0, none⟩) d d) 5 d (ddV (List.replicate d D)) := by
  obtain ⟨_, _, cur, hg, hs, ht⟩ := h
  refine ⟨by rw [rep_len], .inr ⟨_, d, rfl, Nat.le_refl _, by unfold maxLen; omega, fun j u hu => ?_⟩⟩
  rw [Addr.add_mid, Nat.zero_add, cell_row hg]
  rw [← ht, List.getElem?_take] at hu
  split at hu
  · simpa using hu
  · cases hu
theorem RepAt.src {g d n m : Nat} {D : Dd} {w0 w : World} (h : RepAt g d n D w0 w) (hm : m ≤ n) (j : Nat) (u : Value) (hu : (ddV (List.replicate m D))[j]? = some u) : w.cell? ((⟨g, 0, none⟩ : Addr).add j) = some u := by
  obtain ⟨_, _, cur, hg, hs, ht⟩ := h
  rw [Addr.add_mid, Nat.zero_add, cell_row hg]
  have h1 : (ddV (List.replicate n D))[j]? = some u := by
    obtain ⟨k, rfl⟩ : ∃ k, n = m + k := ⟨n - m, by omega⟩
    rw [rep_add, List.getElem?_append_left (List.getElem?_eq_some_iff.1 hu).1]
    exact hu
  rw [← ht, List.getElem?_take] at h1
  split at h1
  · simpa using h1
  · cases h1
/-- m rows more, copied from the first ones. -/
theorem RepAt.more {g d n m : Nat} {D : Dd} {w0 w w' : World} (h : RepAt g d n D w0 w) (hm : n + m ≤ d) (cur : Array Value) (hg : w.heap[g]? = some (.cells cur 49 (0, 0))) (hw : w' = w.setRow g (cur.toList.take (n * 5) ++ ddV (List.replicate m D) ++ cur.toList.drop (n * 5 + (ddV (List.replicate m D)).length)).toArray) : RepAt g d (n + m) D w0 w' := by
  obtain ⟨hb, hgw, cur', hg', hs, ht⟩ := h
  rw [hg] at hg'
  cases hg'
  have hl := rep_len m D
  have hcl : cur.toList.length = d * 5 := by simpa using hs
  refine ⟨by rw [hw]; exact Steps.below_row hb hgw _, hgw, _, by rw [hw]; exact Steps.setRow_at hg, ?_, ?_⟩
  · simp only [List.size_toArray, List.length_append, List.length_take, List.length_drop, hl, hcl]
    omega
  · rw [ht, rep_add]
    have : (ddV (List.replicate n D) ++ ddV (List.replicate m D)).length = (n + m) * 5 := by rw [← rep_add, rep_len]
    simp only [List.append_assoc] at *
    rw [← List.append_assoc, ← this]
    exact List.take_left

set_option maxRecDepth 100000 in
set_option maxHeartbeats 4000000 in
theorem Repeat_ok (w : World) (v : Value) (D : Dd) (d : Nat) (hd1 : 1 ≤ d) (hd : d ≤ 100) (hv : Sl w v 5 1 D.cs) :
    Calls Tryz.prog 43 #[v, .int .i64 d] w fun e w' => ∃ v', e = .returned v' ∧ Below w.heap.size w w' ∧ Sl w' v' 5 d (ddV (List.replicate d D)) := by
  obtain ⟨a, cap, rfl, hcap, hm⟩ := hv.form
  obtain ⟨ab, ao, rfl, hlt, hc⟩ := hv.plain (by simp [Dd.cs])
  obtain ⟨i, hi, hz, hsize, hby⟩ := tyDeeds.ex
  obtain ⟨w1, hmk, hown, hgr⟩ := run_make_full (P := Tryz.prog) w w.heap.size 25 49 i ddZero 5 tyDeeds.ht hi hz hsize .i64 .i64 d (by rw [hby]; omega) (by unfold maxLen; omega) (Nat.le_refl _)
  obtain ⟨cur, hg, hcs⟩ : ∃ cur : Array Value, w1.heap[w.heap.size]? = some (.cells cur 49 (0, 0)) ∧ cur.size = d * 5 := by
    rcases hown.2 with ⟨h0, _⟩ | ⟨g, c, cur, h0, _, hg, _, _, hs, _⟩
    · cases h0
    · cases h0
      exact ⟨cur, hg, hs⟩
  have hb1 : Below w.heap.size w w1 := Bl.grown (Below.refl _ w) hgr (fun _ h => by cases h)
  have hR0 : RepAt w.heap.size d 0 D w w1 := ⟨hb1, Nat.le_refl _, cur, hg, hcs, by simp [ddV]⟩
  have hsrc : ∀ j u, D.cs[j]? = some u → w1.cell? (Addr.add ⟨ab, ao, none⟩ j) = some u := fun j u hu => by rw [Addr.add_mid]; exact (hb1.cell (p := ⟨ab, ao + j, none⟩) hlt).trans (hc j u hu)
  have hmul := mul1_ok w d hd
  have hsz : (Tryz.prog.info? 49).map (·.size) = some 5 := by kernel_rfl
  have hnn : D.cs.length = Nat.min 1 d * 5 := by rw [show Nat.min 1 d = 1 from Nat.min_eq_left hd1]; rfl
  have hff : 0 + D.cs.length ≤ cur.size := by rw [hcs]; simp [Dd.cs]; omega
  have HN := Lib.hid hnn
  have HF := Lib.hid hff
  clear hnn hff
  have HG := Lib.hid hg
  have HR0 := Lib.hid hR0
  have HSRC := Lib.hid hsrc
  have HM := Lib.hid hmul
  have HCS := Lib.hid hcs
  have HSZ := Lib.hid hsz
  clear hg hR0 hsrc hmul hv hc hi hz hsize hby hown hgr hb1 hcs hcap hm hsz
  have hl0 : 0 ≤ (d : Int) ∧ (d : Int) ≤ 100 := by omega
  go_enter Tryz.func43, Tryz.ntmps43
  go_wp2_with fail
  refine HM.out.mono ?_
  rintro e wz ⟨rfl, rfl⟩
  go_wp2_with (refine wpList_copy_rows _ rfl (.tmp 31) (.tmp 32) _ _ rfl 49 5 tyDeeds.ht HSZ.out w.heap.size 0 d d _ 1 cap rfl rfl cur _ HG.out D.cs HN.out HSRC.out HF.out (ddF.one D) ?_)
  intro w2 hw2
  have hR1 := HR0.out.more (n := 0) (m := 1) (w' := w2) (by omega) cur HG.out (by rw [hw2.out]; simp)
  have HR1 := Lib.hid hR1
  clear hR1 hw2 hmk
  go_wp2
  go_loopw [8] (fun i wr => ∃ n : Nat, i = .int .i64 n ∧ 1 ≤ n ∧ n ≤ d ∧ RepAt w.heap.size d n D w wr) (fun i _ => d - (intOf i).toNat)
  case atStart => exact ⟨1, rfl, by omega, by omega, HR1.out⟩
  case round =>
    obtain ⟨n, rfl, hn1, hn, hR⟩ := hrel
    have HR := Lib.hid hR
    clear hR
    by_cases hlt : n < d
    · have hnd : ¬ d = n := by omega
      have b1 : 0 ≤ (n : Int) ∧ (n : Int) < (d : Int) := by omega
      have b2 : (n : Int).toNat = n := by omega
      go_wp2_with fail
      refine wp_region_noPanic ?_
      refine Wr.region_K (S := (fun W => True)) (K := []) (by kernel_rfl) ?_
      change Wr.wpAnyK _ _ _ _ _ _ _ _ _ (World.drew wr)
      have hS0 : True := trivial
      have hBL0 : Below wr.heap.size wr (World.drew wr) := Bl.drew (Below.refl _ _)
      refine Wr.wpAnyK_take (i := 0) (v := ?_) rfl (by kernel_rfl) (fun _ _ _ h => h) (Or.inl ⟨by rfl, ?_⟩) hS0 ?_
      rotate_left
      · intro wq hSw
        go_simp
        rfl
      simp only [Act.put, List.getElem_toArray, List.getElem_cons_zero, List.getElem_cons_succ, List.setIfInBounds_toArray, List.set_cons_zero, List.set_cons_succ]
      refine Wr.wpAnyK_take (i := 1) (v := ?_) rfl (by kernel_rfl) (fun _ _ _ h => h) (Or.inl ⟨by rfl, ?_⟩) hS0 ?_
      rotate_left
      · intro wq hSw
        go_simp
        rfl
      simp only [Act.put, List.getElem_toArray, List.getElem_cons_zero, List.getElem_cons_succ, List.setIfInBounds_toArray, List.set_cons_zero, List.set_cons_succ]
      refine Wr.wpAnyK_take (i := 2) (v := ?_) rfl (by kernel_rfl) (fun _ _ _ h => h) (Or.inl ⟨by rfl, ?_⟩) hS0 ?_
      rotate_left
      · intro wq hSw
        go_simp
        rfl
      simp only [Act.put, List.getElem_toArray, List.getElem_cons_zero, List.getElem_cons_succ, List.setIfInBounds_toArray, List.set_cons_zero, List.set_cons_succ]
      refine Wr.wpAnyK_take (i := 3) (v := ?_) rfl (by kernel_rfl) (fun _ _ _ h => h) (Or.inl ⟨by rfl, ?_⟩) hS0 ?_
      rotate_left
      · intro wq hSw
        go_simp
        rfl
      simp only [Act.put, List.getElem_toArray, List.getElem_cons_zero, List.getElem_cons_succ, List.setIfInBounds_toArray, List.set_cons_zero, List.set_cons_succ]
      refine Wr.wpAnyK_take (i := 4) (v := ?_) rfl (by kernel_rfl) (fun _ _ _ h => h) (Or.inl ⟨by rfl, ?_⟩) hS0 ?_
      rotate_left
      · intro wq hSw
        go_simp
        rfl
      simp only [Act.put, List.getElem_toArray, List.getElem_cons_zero, List.getElem_cons_succ, List.setIfInBounds_toArray, List.set_cons_zero, List.set_cons_succ]
      refine Wr.wpAnyK_take (i := 5) (v := ?_) rfl (by kernel_rfl) (fun _ _ _ h => h) (Or.inl ⟨by rfl, ?_⟩) hS0 ?_
      rotate_left
      · intro wq hSw
        go_simp
        rfl
      simp only [Act.put, List.getElem_toArray, List.getElem_cons_zero, List.getElem_cons_succ, List.setIfInBounds_toArray, List.set_cons_zero, List.set_cons_succ]
      refine Wr.wpAnyK_take (i := 6) (v := ?_) rfl (by kernel_rfl) (fun _ _ _ h => h) (Or.inl ⟨by rfl, ?_⟩) hS0 ?_
      rotate_left
      · intro wq hSw
        go_simp
        rfl
      simp only [Act.put, List.getElem_toArray, List.getElem_cons_zero, List.getElem_cons_succ, List.setIfInBounds_toArray, List.set_cons_zero, List.set_cons_succ]
      obtain ⟨m, hm⟩ : ∃ m, m = Nat.min n (d - n) := ⟨_, rfl⟩
      have hm1 : m ≤ n := by rw [hm]; exact Nat.min_le_left _ _
      have hm2 : n + m ≤ d := by have h2 : m ≤ d - n := (by rw [hm]; exact Nat.min_le_right n (d - n)); omega
      have hm3 : 1 ≤ m := by have : 1 ≤ Nat.min n (d - n) := Nat.le_min.2 ⟨hn1, by omega⟩; rw [hm]; exact this
      obtain ⟨_, _, cu, hgu, hsu, _⟩ := HR.out
      refine Wr.wpAnyK_one (i := 7) (by kernel_rfl) ?_
      refine wpOp_copy_rows rfl (by rfl) (.tmp 41) (.tmp 44) _ _ rfl 49 5 tyDeeds.ht HSZ.out w.heap.size (n * 5) (d - n) (d - n) ⟨w.heap.size, 0, none⟩ n d rfl rfl cu _ hgu (ddV (List.replicate m D)) m hm.symm (rep_len m D) (fun j u hu => HR.out.src hm1 j u hu) (by rw [rep_len, hsu]; omega) (rep_one m D) ?_
      intro w2 hw2
      have HRD : RepAt w.heap.size d n D w wr.drew := ⟨Bl.drew HR.out.1, HR.out.2.1, HR.out.2.2⟩
      have hR2 := HRD.more (m := m) (w' := w2) hm2 cu hgu hw2.out
      have HR2 := Lib.hid hR2
      clear hR2 HRD hw2 hgu hsu hm HR HG HSRC
      refine ⟨trivial, ?_⟩
      simp only [Act.put, List.getElem_toArray, List.getElem_cons_zero, List.getElem_cons_succ, List.setIfInBounds_toArray, List.set_cons_zero, List.set_cons_succ]
      have hwr : IntKind.i64.wrap ((n : Int) + (m : Int)) = (n : Int) + (m : Int) := IntWalk.i64_in _ (by omega)
      refine Wr.wpAnyK_take (i := 8) (v := ?_) rfl (by kernel_rfl) (fun _ _ _ h => h) (Or.inl ⟨by rfl, ?_⟩) hS0 ?_
      rotate_left
      · intro wq hSw
        go_simp
        rfl
      simp only [Act.put, List.getElem_toArray, List.getElem_cons_zero, List.getElem_cons_succ, List.setIfInBounds_toArray, List.set_cons_zero, List.set_cons_succ]
      refine Wr.wpAnyK_take (i := 9) (v := ?_) rfl (by kernel_rfl) (fun _ _ _ h => h) (Or.inl ⟨by rfl, ?_⟩) hS0 ?_
      rotate_left
      · intro wq hSw
        go_simp
        rfl
      simp only [Act.put, List.getElem_toArray, List.getElem_cons_zero, List.getElem_cons_succ, List.setIfInBounds_toArray, List.set_cons_zero, List.set_cons_succ]
      refine Wr.wpAnyK_done (by kernel_rfl) (NoPanic.normal ?_) _
      clear hwr
      go_wp2
      go_roundw
      case rel => exact ⟨n + m, by go_num, by omega, hm2, HR2.out⟩
      case measure => simp [intOf]; omega
    · obtain rfl : n = d := by omega
      go_wp2
      go_ret
      exact ⟨_, rfl, HR.out.1, HR.out.sl hd⟩


end Go.Proofs.YtjiakfblgefioaaGreatDoor.WitB
