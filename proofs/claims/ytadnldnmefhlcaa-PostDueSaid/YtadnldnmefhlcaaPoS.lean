/-
  WHAT IS PROVED: whether two lists of mails are one, as the document asks it. Condition: both hold at most 256.
-/
import Derived.Test.YtadnldnmefhlcaaPoA
namespace Go.Proofs.Ytadnldnmefhlcaa.PoS
open Go Go.RowKit Go.Shelf Go.Conc Go.Proofs.Ytadnldnmefhlcaa Go.Proofs.Ytadnldnmefhlcaa.PostA Go.Proofs.Ytadnldnmefhlcaa.PostF Go.Proofs.Ytadnldnmefhlcaa.PostQ Go.Proofs.Ytadnldnmefhlcaa.RowsX Go.Proofs.Ytadnldnmefhlcaa.Lift Go.Proofs.Ytadnldnmefhlcaa.Steps Go.Proofs.Ytadnldnmefhlcaa.PoA
set_option linter.unusedVariables false
set_option linter.unusedSimpArgs false
attribute [-go_sem] Builtin.append_

/-- Whether two mails are one. -/
def oneB (x y : Lt) : Bool := decide (x.id = y.id) && (decide (x.to = y.to) && decide (x.text = y.text))
theorem same_cons (x y : Lt) (l m : List Lt) : sameB (x :: l) (y :: m) = (oneB x y && sameB l m) := rfl

set_option maxRecDepth 100000 in
set_option maxHeartbeats 4000000 in
theorem Same_ok (w : World) (u v : Value) (L M : List Lt) (hu : Sl w u 3 L.length (L.flatMap mc)) (hv : Sl w v 3 M.length (M.flatMap mc)) (hL : L.length ≤ 256) (hM : M.length ≤ 256) :
    Calls Try.prog 11 #[u, v] w fun e w' => e = .returned (.bool (sameB L M)) ∧ ∃ n, w' = w.drewN n := by
  obtain ⟨ua, uc, rfl, hucap, hum⟩ := hu.form
  obtain ⟨va, vc, rfl, hvcap, hvm⟩ := hv.form
  have HU := Lib.hid hu
  have HV := Lib.hid hv
  clear hu hv
  by_cases hne : L.length = M.length
  · obtain ⟨B, hB⟩ : ∃ B, B = sameB L M := ⟨_, rfl⟩
    have HDR := Lib.hid (show sameB (L.drop 0) (M.drop 0) = B by rw [hB]; rfl)
    rw [← hB]
    have HN := Lib.hid hne
    obtain ⟨m, hm⟩ : ∃ m, m = M.length := ⟨_, rfl⟩
    rw [← hm] at HV hM hvcap ⊢ hne
    have HM := Lib.hid hm
    subst hne
    clear hB hm
    go_enter Try.func11, Try.ntmps11
    go_wp2
    go_loopw [13] (fun i wr => ∃ (k n : Nat), i = .int .i64 k ∧ k ≤ L.length ∧ Hid (sameB (L.drop k) (M.drop k) = B) ∧ wr = w.drewN n) (fun i _ => L.length - (intOf i).toNat)
    case atStart => exact ⟨0, 0, rfl, by omega, HDR, rfl⟩
    case round =>
      obtain ⟨k, n, rfl, hk, hs, rfl⟩ := hrel
      by_cases hlt : k < L.length
      · obtain ⟨x, hx⟩ : ∃ x, L[k]? = some x := ⟨_, List.getElem?_eq_getElem hlt⟩
        obtain ⟨y, hy⟩ : ∃ y, M[k]? = some y := ⟨_, List.getElem?_eq_getElem (by have := HN.out; omega)⟩
        obtain ⟨ab, ao, rfl, hab, hc⟩ := row_cells mcF (by omega) HU.out hx
        have hV := HV.out
        have hmm := HM.out
        rw [hmm] at hV
        obtain ⟨bb, bo, rfl, hbb, hd⟩ := row_cells mcF (by omega) hV hy
        have hc' : ∀ (j : Nat) (u : Value), (mA x).toList[j]? = some u → w.cell? ⟨ab, ao + k * 3 + j, none⟩ = some u := hc
        have hd' : ∀ (j : Nat) (u : Value), (mA y).toList[j]? = some u → w.cell? ⟨bb, bo + k * 3 + j, none⟩ = some u := hd
        have hs' := hs.out
        have e1 : L.drop k = x :: L.drop (k + 1) := by rw [List.drop_eq_getElem_cons hlt]; congr 1; exact (List.getElem?_eq_some_iff.1 hx).2
        have e2 : M.drop k = y :: M.drop (k + 1) := by rw [List.drop_eq_getElem_cons (by have := HN.out; omega)]; congr 1; exact (List.getElem?_eq_some_iff.1 hy).2
        rw [e1, e2, same_cons] at hs'
        obtain ⟨q, hq⟩ : ∃ q, q = oneB x y := ⟨_, rfl⟩
        rw [← hq] at hs'
        have HS := Lib.hid hs'
        have HQ := Lib.hid hq
        have hcw : ∀ m, ∀ (j : Nat) (u : Value), (mA x).toList[j]? = some u → (w.drewN m).cell? ⟨ab, ao + k * 3 + j, none⟩ = some u := fun m => hc'
        have hdw : ∀ m, ∀ (j : Nat) (u : Value), (mA y).toList[j]? = some u → (w.drewN m).cell? ⟨bb, bo + k * 3 + j, none⟩ = some u := fun m => hd'
        have HC := Lib.hid hcw
        have HD := Lib.hid hdw
        clear hc hd hs' e1 e2 hx hy hV hs hq hc' hd' hcw hdw hmm
        go_wp2
        refine Uniform.region_chain (S := (fun W => ∃ m, W = w.drewN m)) (List.range 9) (by kernel_rfl) (by kernel_rfl) ⟨n + 1, rfl⟩ ?_
        refine ⟨_, ?_, rfl, Or.inl ⟨by rfl, fun wq hSw => Uniform.UStep.value (w' := wq) ?_ hSw⟩, ?_⟩
        rotate_left
        · go_simp
          rfl
        simp only [Act.put, List.getElem_toArray, List.getElem_cons_zero, List.getElem_cons_succ, List.setIfInBounds_toArray, List.set_cons_zero, List.set_cons_succ]
        refine ⟨_, ?_, rfl, Or.inl ⟨by rfl, fun wq hSw => Uniform.UStep.value (w' := wq) ?_ hSw⟩, ?_⟩
        rotate_left
        · go_simp
          rfl
        simp only [Act.put, List.getElem_toArray, List.getElem_cons_zero, List.getElem_cons_succ, List.setIfInBounds_toArray, List.set_cons_zero, List.set_cons_succ]
        refine ⟨_, ?_, rfl, Or.inl ⟨by rfl, fun wq hSw => Uniform.UStep.value (w' := wq) ?_ hSw⟩, ?_⟩
        rotate_left
        · go_simp
          rfl
        simp only [Act.put, List.getElem_toArray, List.getElem_cons_zero, List.getElem_cons_succ, List.setIfInBounds_toArray, List.set_cons_zero, List.set_cons_succ]
        refine ⟨_, _, rfl, Or.inl ⟨by rfl, fun wq hSw => Uniform.UStep.value (w' := wq) (exec_load_rowO 53 _ rfl ab (ao + k * 3) rfl (mA x) (by obtain ⟨mm, rfl⟩ := hSw; exact HC.out mm) Try.underlying53 rfl (by kernel_rfl)) hSw⟩, ?_⟩
        simp only [Act.put, List.getElem_toArray, List.getElem_cons_zero, List.getElem_cons_succ, List.setIfInBounds_toArray, List.set_cons_zero, List.set_cons_succ]
        refine ⟨_, ?_, rfl, Or.inl ⟨by rfl, fun wq hSw => Uniform.UStep.value (w' := wq) ?_ hSw⟩, ?_⟩
        rotate_left
        · go_simp
          rfl
        simp only [Act.put, List.getElem_toArray, List.getElem_cons_zero, List.getElem_cons_succ, List.setIfInBounds_toArray, List.set_cons_zero, List.set_cons_succ]
        refine ⟨_, ?_, rfl, Or.inl ⟨by rfl, fun wq hSw => Uniform.UStep.value (w' := wq) ?_ hSw⟩, ?_⟩
        rotate_left
        · go_simp
          rfl
        simp only [Act.put, List.getElem_toArray, List.getElem_cons_zero, List.getElem_cons_succ, List.setIfInBounds_toArray, List.set_cons_zero, List.set_cons_succ]
        refine ⟨_, ?_, rfl, Or.inl ⟨by rfl, fun wq hSw => Uniform.UStep.value (w' := wq) ?_ hSw⟩, ?_⟩
        rotate_left
        · go_simp
          rfl
        simp only [Act.put, List.getElem_toArray, List.getElem_cons_zero, List.getElem_cons_succ, List.setIfInBounds_toArray, List.set_cons_zero, List.set_cons_succ]
        refine ⟨_, _, rfl, Or.inl ⟨by rfl, fun wq hSw => Uniform.UStep.value (w' := wq) (exec_load_rowO 53 _ rfl bb (bo + k * 3) rfl (mA y) (by obtain ⟨mm, rfl⟩ := hSw; exact HD.out mm) Try.underlying53 rfl (by kernel_rfl)) hSw⟩, ?_⟩
        simp only [Act.put, List.getElem_toArray, List.getElem_cons_zero, List.getElem_cons_succ, List.setIfInBounds_toArray, List.set_cons_zero, List.set_cons_succ]
        refine ⟨_, .bool (!q), rfl, Or.inl ⟨by rfl, fun wq hSw => Uniform.UStep.value (w' := wq) ?_ hSw⟩, ?_⟩
        · rw [HQ.out]
          unfold oneB mA
          go_simp
          have ht : x.text.toList = y.text.toList ↔ x.text = y.text := ⟨fun h => ByteArray.ext (by simpa [ByteArray.toList_eq] using h), fun h => by rw [h]⟩
          by_cases h1 : x.id = y.id <;> by_cases h2 : x.to = y.to <;> by_cases h3 : x.text = y.text
          all_goals have h4 := ht
          all_goals simp [h1, h2, h3] at h4
          all_goals simp [h1, h2, h3, h4]
        simp only [Act.put, List.getElem_toArray, List.getElem_cons_zero, List.getElem_cons_succ, List.setIfInBounds_toArray, List.set_cons_zero, List.set_cons_succ]
        intro wz hSz
        obtain ⟨mz, rfl⟩ := hSz
        cases q
        · go_wp2
          go_ret
          exact ⟨by rw [← HS.out]; rfl, mz, rfl⟩
        · go_wp2
          go_roundw
          case rel => exact ⟨k + 1, mz, by go_num, by omega, Lib.hid (by rw [← HS.out]; rfl), rfl⟩
          case measure => simp [intOf]; omega
      · obtain rfl : k = L.length := by omega
        have hs' := hs.out
        rw [List.drop_length, List.drop_eq_nil_of_le (Nat.le_of_eq HN.out.symm)] at hs'
        have HS := Lib.hid hs'
        clear hs hs'
        go_wp2
        go_ret
        exact ⟨by rw [← HS.out]; rfl, n, rfl⟩
  · have d0 : decide (L.length = M.length) = false := decide_eq_false hne
    have hf : sameB L M = false := by
      clear hucap hum hvcap hvm HU HV hL hM d0
      induction L generalizing M with
      | nil => cases M with
        | nil => simp at hne
        | cons y m => rfl
      | cons x l ih => cases M with
        | nil => rfl
        | cons y m => rw [same_cons, ih m (by simpa using hne)]; simp
    rw [hf]
    go_enter Try.func11, Try.ntmps11
    go_wp2
    go_ret
    exact ⟨rfl, 0, rfl⟩

end Go.Proofs.Ytadnldnmefhlcaa.PoS
