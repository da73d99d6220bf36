/-
  WHAT IS PROVED: copies of lists of texts, and whether two are one. No condition beside those that each theorem names.
-/
import Derived.Test.YtoeohgplobbojaaNetB
namespace Go.Proofs.Ytoeohgplobbojaa.NetC
open Go Go.RowKit Go.ChangeShapes Go.WideShapes Go.ChangeAt Go.Proofs.Ytoeohgplobbojaa

theorem Clone_ok (w : World) (v : Value) (l : List ByteArray) (h : Sl w v 1 l.length (strV l)) (hl : l.length * 16 ≤ 140737488355328) :
    Calls Try.prog 40 #[v] w fun e w' => ∃ v', e = .returned v' ∧ w'.ownsRow w.heap.size 9 1 v' l.length (strV l) ∧ Below w.heap.size w w' := by
  rcases h.2 with ⟨rfl, h0⟩ | ⟨a, cap, rfl, hn, hm, hc⟩
  · have : l = [] := List.eq_nil_of_length_eq_zero h0
    subst this
    exact (Try.slices_Clone_string_nil 0 0 w).mono fun e w' ⟨he, hw⟩ => ⟨_, he, by rw [hw]; exact World.ownsRow_nil _ _ _ _, by rw [hw]; exact Below.refl _ _⟩
  · by_cases h0 : l.length = 0
    · have : l = [] := List.eq_nil_of_length_eq_zero h0
      subst this
      exact (Try.slices_Clone_string_zero a cap w).mono fun e w' ⟨v', he, h1, _, h2⟩ => ⟨v', he, h1, h2⟩
    · obtain ⟨b, off, spot⟩ := a
      have hc0 := hc 0 (.string l[0]) (by simp [strV])
      have hspot : spot = none := by simpa [Addr.add] using World.cell?_spot hc0
      subst hspot
      refine (Try.slices_Clone_string b off l.length cap l w (Nat.le_refl _) hl ?_).mono fun e w' ⟨v', he, h1, _, h2⟩ => ⟨v', he, by simpa [strV] using h1, h2⟩
      intro j hj
      have := hc j (.string l[j]) (by simp [strV, hj])
      rw [Addr.add_mid] at this
      simpa [List.getD, hj] using this

theorem All_ok (b base : Nat) (w : World) (v : Value) (l : List ByteArray) (room lost : Int) (h : NetA.NetR w b base v l room lost) :
    Calls Try.prog 21 #[.pointer (some ⟨b, 0, none⟩)] w fun e w' => ∃ v', e = .returned v' ∧ w'.ownsRow w.heap.size 9 1 v' l.length (strV l) ∧ Below w.heap.size w w' := by
  have hv := Sl.ofOwn h.own
  obtain ⟨a, cap, rfl, _, _⟩ := h.form
  have hc0 := h.cell0
  have hl : l.length * 16 ≤ 140737488355328 := by have := h.len; have := h.room0; omega
  clear h
  go_enter Try.func21, Try.ntmps21
  go_wp2_with fail
  refine (Clone_ok w _ l hv hl).mono ?_
  rintro e w' ⟨v', rfl, h1, h2⟩
  go_wp2
  go_ret
  exact ⟨v', rfl, h1, h2⟩

set_option maxHeartbeats 400000 in
theorem Same_ok (w : World) (v u : Value) (l r : List ByteArray) (hv : Sl w v 1 l.length (strV l)) (hu : Sl w u 1 r.length (strV r)) :
    Calls Try.prog 20 #[v, u] w fun e w' => e = .returned (.bool (decide (l = r))) ∧ ∃ n, w' = w.drewN n := by
  obtain ⟨a, cap, rfl, _, hm⟩ := hv.form
  obtain ⟨a2, cap2, rfl, _, hm2⟩ := hu.form
  have hl : l.length ≤ 9223372036854775807 := by unfold maxLen at hm; omega
  have hr : r.length ≤ 9223372036854775807 := by unfold maxLen at hm2; omega
  by_cases hlr : l.length = r.length
  · have hne : ((l.length : Int) != (r.length : Int)) = false := by rw [hlr]; simp
    have HLR := Lib.hid hlr
    clear hlr
    go_enter Try.func20, Try.ntmps20
    go_wp2
    go_loopw [13] (fun x wr => ∃ k : Nat, k ≤ l.length ∧ x = .int .i64 k ∧ (∃ n, wr = w.drewN n) ∧ ∀ c, c < k → l[c]? = r[c]?) (fun x _ => l.length - (intOf x).toNat)
    case atStart => exact ⟨0, Nat.zero_le _, rfl, ⟨0, rfl⟩, fun c hc => absurd hc (Nat.not_lt_zero _)⟩
    case round =>
      obtain ⟨k, hk, rfl, ⟨n, rfl⟩, hsame⟩ := hrel
      have HS := Lib.hid hsame
      clear hsame
      by_cases hlt : k < l.length
      · have hlt2 : k < r.length := by have := HLR.out; omega
        rcases hv.2 with ⟨_, h0⟩ | ⟨A, c, ha, _, _, hcell⟩
        · omega
        rcases hu.2 with ⟨_, h0⟩ | ⟨B, c', hb, _, _, hcell'⟩
        · omega
        cases ha
        cases hb
        obtain ⟨s, hs⟩ : ∃ s, l[k]? = some s := ⟨_, List.getElem?_eq_getElem hlt⟩
        obtain ⟨s', hs'⟩ : ∃ s, r[k]? = some s := ⟨_, List.getElem?_eq_getElem hlt2⟩
        have hA := hcell k (.string s) (by simp [strV, hs])
        have hB := hcell' k (.string s') (by simp [strV, hs'])
        have i0 : (0 : Int) ≤ (k : Int) := by omega
        have i1 : (k : Int) < (r.length : Int) := by omega
        have i2 : (k : Int) < (l.length : Int) := by omega
        have S1 := Lib.hid hs
        have S2 := Lib.hid hs'
        clear hcell hcell' hv hu hs hs'
        by_cases hss : s = s'
        · subst hss
          go_wp2_with fail
          go_quiet (fail)
          go_wp2
          go_roundw
          case rel =>
            refine ⟨k + 1, by omega, rfl, ⟨_, rfl⟩, fun c hc => ?_⟩
            by_cases hck : c = k
            · rw [hck, S1.out, S2.out]
            · exact HS.out c (by omega)
          case measure => simp [intOf]; omega
        · have hb1 : (s.toList == s'.toList) = false := str_ne hss
          have hd : decide (l = r) = false := by
            simp only [decide_eq_false_iff_not]
            intro e
            have := S1.out
            rw [e, S2.out] at this
            exact hss (Option.some.inj this).symm
          have HD := Lib.hid hd
          clear hd
          go_wp2_with fail
          go_quiet (fail)
          go_wp2
          go_ret
          exact ⟨by rw [HD.out]; rfl, _, World.drewN_drewN ..⟩
      · have hd : decide (l = r) = true := by
          simp only [decide_eq_true_eq]
          apply List.ext_getElem?
          intro c
          by_cases hc : c < k
          · exact HS.out c hc
          · have := HLR.out
            rw [List.getElem?_eq_none (by omega), List.getElem?_eq_none (by omega)]
        have HD := Lib.hid hd
        have hge : ¬ (k : Int) < (l.length : Int) := by omega
        clear hd
        go_wp2
        go_ret
        exact ⟨by rw [HD.out]; rfl, _, rfl⟩
  · have hne : ((l.length : Int) != (r.length : Int)) = true := by rw [bne_iff_ne]; omega
    have hd : decide (l = r) = false := by simp; intro h; exact hlr (by rw [h])
    have HD := Lib.hid hd
    clear hd hlr
    go_enter Try.func20, Try.ntmps20
    go_wp2
    go_ret
    exact ⟨by rw [HD.out]; rfl, 0, rfl⟩

end Go.Proofs.Ytoeohgplobbojaa.NetC
