/-
  WHAT IS PROVED: what the program's ident package reads: an identifier of a text; the server of one. Condition: the package's table of first bytes reads as its text lays it, and so do two of the library's errors ('VarsI').
-/
import Derived.Test.YtfodloepkgkilaaDoorIdentP
namespace Go.Proofs.YtfodloepkgkilaaDoor.IdentQ
open Go Go.RowKit Go.Proofs.YtfodloepkgkilaaDoor Go.Proofs.YtfodloepkgkilaaDoor.IdentS Go.Proofs.YtfodloepkgkilaaDoor.OctP Go.Proofs.YtfodloepkgkilaaDoor.IdentP
set_option linter.unusedVariables false
set_option linter.unusedSimpArgs false

/-- The number of digits, of 63 at most. -/
def pu (acc : Nat) : List UInt8 → Option Nat
  | [] => some acc
  | c :: r => if 48 ≤ c.toNat ∧ c.toNat ≤ 57 then (if 63 < acc * 10 + (c.toNat - 48) then none else pu (acc * 10 + (c.toNat - 48)) r) else none
def puAll (l : List UInt8) : Option Nat := if l = [] then none else pu 0 l
theorem pu_le : ∀ (l : List UInt8) (acc n : Nat), acc ≤ 63 → pu acc l = some n → n ≤ 63
  | [], acc, n, h, e => by simp [pu] at e; omega
  | c :: r, acc, n, h, e => by
    rw [pu] at e
    split at e
    · split at e
      · cases e
      · exact pu_le r _ n (by omega) e
    · cases e
theorem puAll_le {l : List UInt8} {n : Nat} (h : puAll l = some n) : n ≤ 63 := by
  unfold puAll at h
  split at h
  · cases h
  · exact pu_le l 0 n (by omega) h
theorem puAll_digits : ∀ n : Fin 64, puAll (digits n.val) = some n.val := by decide

def PuPost (l : List UInt8) (w : World) (e : Ending) (w' : World) : Prop :=
  (match puAll l with
    | some n => e = .returned (.tuple #[.int .u64 n, .nilIface])
    | none => ∃ (m k : Int), (k = 1 ∨ k = 2) ∧ e = .returned (.tuple #[.int .u64 m, .iface 134 (.int .i64 k)])) ∧ Below w.heap.size w w'
theorem PuPost.ok {l : List UInt8} {w w' : World} {n : Nat} (h : puAll l = some n) (hb : Below w.heap.size w w') : PuPost l w (.returned (.tuple #[.int .u64 n, .nilIface])) w' := by
  unfold PuPost
  rw [h]
  exact ⟨rfl, hb⟩
theorem PuPost.no {l : List UInt8} {w w' : World} {m k : Int} (h : puAll l = none) (hk : k = 1 ∨ k = 2) (hb : Below w.heap.size w w') : PuPost l w (.returned (.tuple #[.int .u64 m, .iface 134 (.int .i64 k)])) w' := by
  unfold PuPost
  rw [h]
  exact ⟨⟨m, k, hk, rfl⟩, hb⟩

set_option maxRecDepth 100000 in
set_option maxHeartbeats 8000000 in
theorem pu_in (w : World) (t : ByteArray) (ht : t.size ≤ 9223372036854775806) : Calls Tryd.prog 93 #[.string t, .int .i64 10, .int .i64 6] w (PuPost (bl t) w) := by
  by_cases hne : t.size = 0
  · have hb : bl t = [] := List.eq_nil_of_length_eq_zero (by rw [bl_length]; exact hne)
    obtain rfl : t = ByteArray.empty := by
      rw [← bsOf_bl t, hb]
      rfl
    have hp : puAll (bl ByteArray.empty) = none := rfl
    have Hp := Lib.hid hp
    clear hp hb hne
    go_enter Tryd.func93, Tryd.ntmps93
    go_wp2
    go_ret2
    exact PuPost.no Hp.out (.inr rfl) (Below.refl _ _)
  have hnil : bl t ≠ [] := fun e => hne (by rw [← bl_length, e]; rfl)
  have hall : puAll (bl t) = pu 0 (bl t) := if_neg hnil
  have hemp : t.toList.isEmpty = false := by
    rw [bl_toList, List.isEmpty_eq_false_iff]
    exact hnil
  have hcv := Go.Lib.run_convert_string_bytes (P := Tryd.prog) w 9 69 5 t (u := .string) Tryd.underlying9 Tryd.underlying69 Tryd.underlying5
  have hcell := (ow_bytes w (base := w.heap.size) 5 t (by unfold maxLen; omega) (Nat.le_refl _)).sl
  have hbel := below_bytes w 5 t
  obtain ⟨W1, hW1⟩ : ∃ W1, W1 = Go.Lib.bytesWorld w 5 t := ⟨_, rfl⟩
  rw [← hW1] at hcv hcell hbel
  clear hW1
  have hB : ∀ j (hj : j < t.size), W1.cell? ⟨w.heap.size, j, none⟩ = some (.int .u8 (t[j]).toNat) := by
    intro j hj
    rcases hcell.2 with ⟨h0, _⟩ | ⟨a, cap, h0, _, _, hc⟩
    · cases h0
    · cases h0
      have := hc j (.int .u8 (t[j]).toNat) (by
        have := bl_get t j hj
        unfold bl at this
        simp [byV, this])
      rwa [Addr.add_mid, Nat.zero_add] at this
  have hmv : IntKind.u64.wrap (IntKind.u64.wrap 64 - 1) = 63 := by
    rw [IntKind.wrap_u64, IntKind.wrap_u64]
    decide
  have HB := Lib.hid hB
  have Hall := Lib.hid hall
  clear hB hall hnil hcell
  go_enter Tryd.func93, Tryd.ntmps93
  go_wp2
  go_loop [12, 13, 101] (fun vu vn vi => ∃ (k acc : Nat) (a : Int), vu = .bool false ∧ vn = .int .u64 a ∧ vi = .int .i64 k ∧ k ≤ t.size ∧ 0 ≤ a ∧ a ≤ 63 ∧ Hid (a = acc ∧ pu 0 (bl t) = pu acc ((bl t).drop k))) (fun _ _ vi => t.size - (intOf vi).toNat)
  case atStart => exact ⟨0, 0, 0, rfl, rfl, rfl, by omega, by omega, by omega, Lib.hid ⟨rfl, rfl⟩⟩
  case round =>
    obtain ⟨k, acc, a, rfl, rfl, rfl, hk, ha0, ha1, hh⟩ := hrel
    obtain ⟨ha, hpu⟩ := hh.out
    have Ha := Lib.hid ha
    clear hh
    by_cases hlt : k < t.size
    · have hc := HB.out k hlt
      rw [bl_drop t k hlt, pu] at hpu
      generalize t[k] = c at hc hpu
      have hc8 := c.toNat_lt
      by_cases hdig : 48 ≤ c.toNat ∧ c.toNat ≤ 57
      · obtain ⟨hd0, hd1⟩ := hdig
        rw [if_pos ⟨hd0, hd1⟩] at hpu
        by_cases hov : 63 < acc * 10 + (c.toNat - 48)
        · rw [if_pos hov] at hpu
          have Hpu := Lib.hid (Hall.out.trans hpu)
          clear hpu
          have iov : 63 < a * 10 + ((c.toNat : Int) - 48) := by omega
          clear hov ha
          go_wp2
          go_ret2
          exact PuPost.no Hpu.out (.inl rfl) hbel
        · rw [if_neg hov] at hpu
          have Hpu := Lib.hid hpu
          clear hpu
          have iov : a * 10 + ((c.toNat : Int) - 48) ≤ 63 := by omega
          have Hx : Hid (a * 10 + ((c.toNat : Int) - 48) = ((acc * 10 + (c.toNat - 48) : Nat) : Int) ∧ pu 0 (bl t) = pu (acc * 10 + (c.toNat - 48)) ((bl t).drop (k + 1))) := Lib.hid ⟨by omega, Hpu.out⟩
          clear hov ha
          go_wp2
          go_round
          case rel => exact ⟨k + 1, acc * 10 + (c.toNat - 48), a * 10 + ((c.toNat : Int) - 48), rfl, by (first | rfl | (congr 1; omega)), by go_num, by omega, by omega, by omega, Hx⟩
          case measure => simp [intOf]; omega
      · rw [if_neg hdig] at hpu
        have Hpu := Lib.hid (Hall.out.trans hpu)
        clear hpu
        clear ha
        have hv0 := bits_lo_u8 .or (c.toNat : Int) 32
        have hv1 := bits_hi_u8 .or (c.toNat : Int) 32
        have hu0 := bits_lo_u8 .or 95 32
        have hu1 := bits_hi_u8 .or 95 32
        go_wp2_with (go_at_call 108; refine (Tryd.internal_strconv_lower _ _).mono ?_; rintro e w' ⟨rfl, rfl⟩)
        all_goals
          go_ret2
          exact PuPost.no Hpu.out (.inr rfl) hbel
    · obtain rfl : k = t.size := by omega
      rw [List.drop_of_length_le (by rw [bl_length]; omega), pu] at hpu
      have Hpu := Lib.hid (Hall.out.trans hpu)
      clear hpu ha
      go_wp2
      go_ret2
      have e := Ha.out
      subst e
      exact PuPost.ok Hpu.out hbel


def PuPost2 (l : List UInt8) (w : World) (e : Ending) (w' : World) : Prop :=
  (match puAll l with
    | some n => e = .returned (.tuple #[.int .u64 n, .nilIface])
    | none => ∃ (m : Int) (T : TypeId) (v : Value), e = .returned (.tuple #[.int .u64 m, .iface T v])) ∧ Below w.heap.size w w'

set_option maxHeartbeats 1000000 in
theorem pub_ok (w : World) (t : ByteArray) (hv : VarsI w) (ht : t.size ≤ 281474976710656) : Calls Tryd.prog 58 #[.string t, .int .i64 10, .int .i64 6] w (PuPost2 (bl t) w) := by
  have hin := pu_in w t (by omega)
  cases hp : puAll (bl t) with
  | some n =>
    have Hin : Hid (Calls Tryd.prog 93 #[.string t, .int .i64 10, .int .i64 6] w fun e w' => e = .returned (.tuple #[.int .u64 n, .nilIface]) ∧ Below w.heap.size w w') := Lib.hid (hin.mono fun e w' h => by
      unfold PuPost at h
      rw [hp] at h
      exact h)
    have Hp := Lib.hid hp
    clear hp hin hv
    go_enter Tryd.func58, Tryd.ntmps58
    go_wp2_with fail
    refine Hin.out.mono ?_
    rintro e w' ⟨rfl, hb⟩
    have HB := Lib.hid hb
    clear hb
    go_wp2
    go_ret2
    unfold PuPost2
    rw [Hp.out]
    exact ⟨rfl, HB.out⟩
  | none =>
    have Hin : Hid (Calls Tryd.prog 93 #[.string t, .int .i64 10, .int .i64 6] w fun e w' => (∃ (m k : Int), (k = 1 ∨ k = 2) ∧ e = .returned (.tuple #[.int .u64 m, .iface 134 (.int .i64 k)])) ∧ Below w.heap.size w w') := Lib.hid (hin.mono fun e w' h => by
      unfold PuPost at h
      rw [hp] at h
      exact h)
    have Hp := Lib.hid hp
    have HV := Lib.hid hv
    clear hp hin hv
    go_enter Tryd.func58, Tryd.ntmps58
    go_wp2_with fail
    refine Hin.out.mono ?_
    rintro e w1 ⟨⟨m, k, hk, rfl⟩, hb⟩
    have hv1 := HV.out.below hb
    rcases hk with rfl | rfl
    · obtain ⟨ev, he1, he2⟩ := hv1.e2
      have HB := Lib.hid hb
      have He1 := Lib.hid he1
      have He2 := Lib.hid he2
      clear hb hv1 he1 he2
      go_wp2_with fail
      refine (Tryd.strconv_toError_range _ t 10 6 ev w1 ht He1.out He2.out).mono ?_
      rintro e w2 ⟨N, rfl, _, _, hb2⟩
      have HB2 := Lib.hid (Bl.call HB.out hb2)
      clear hb2
      go_wp2
      go_ret2
      unfold PuPost2
      rw [Hp.out]
      exact ⟨⟨_, _, _, rfl⟩, HB2.out⟩
    · obtain ⟨ev, he1, he2⟩ := hv1.e1
      have HB := Lib.hid hb
      have He1 := Lib.hid he1
      have He2 := Lib.hid he2
      clear hb hv1 he1 he2
      go_wp2_with fail
      refine (Tryd.strconv_toError_syntax _ t 10 6 ev w1 ht He1.out He2.out).mono ?_
      rintro e w2 ⟨N, rfl, _, _, hb2⟩
      have HB2 := Lib.hid (Bl.call HB.out hb2)
      clear hb2
      go_wp2
      go_ret2
      unfold PuPost2
      rw [Hp.out]
      exact ⟨⟨_, _, _, rfl⟩, HB2.out⟩

/-! ### Parse -/
def readV : Option Idn → Value
  | some x => .tuple #[.agg #[.int .u8 x.kind, .string (bsOf x.name), .int .i64 x.server], .int .i64 0]
  | none => .tuple #[.agg #[.int .u8 0, .string ByteArray.empty, .int .i64 0], .int .i64 6]
def ReadPost (l : List UInt8) (w : World) (e : Ending) (w' : World) : Prop := e = .returned (readV (IdentS.parse l)) ∧ Below w.heap.size w w'

theorem parse_kind0 {s : List UInt8} (h : kindOf s = 0) : IdentS.parse s = none := by
  cases hp : IdentS.parse s with
  | none => rfl
  | some x =>
    obtain ⟨ho, hs⟩ := parse_iff.1 hp
    have hg := guess_of ⟨ho, hs⟩
    have hk : x.kind = 0 := by rw [← hg]; exact h
    have := (ok_spec ho).1
    omega
/-- The identifier that a text is of, were it one's: with the number that was read. -/
def cand (s : List UInt8) (n : Nat) : Idn := ⟨kindOf s, cutA 58 (s.drop 1), n⟩
theorem guess_cand {s : List UInt8} {x : Idn} (h : IdentS.parse s = some x) : x.kind = kindOf s ∧ x.name = cutA 58 (s.drop 1) ∧ cutB 58 (s.drop 1) = digits x.server.toNat ∧ 0 ≤ x.server ∧ x.server ≤ 63 := by
  obtain ⟨ho, hs⟩ := parse_iff.1 h
  have hg := guess_of ⟨ho, hs⟩
  obtain ⟨_, nx, s0, s1⟩ := ok_spec ho
  refine ⟨by rw [← hg]; rfl, by rw [← hg]; rfl, ?_, s0, s1⟩
  have hne : ∀ c ∈ x.name, (fun c : UInt8 => decide (c ≠ 58)) c = true := fun c hc => by simpa using letter_ne ((name_spec nx).1 c hc)
  rw [hs, textOf, List.drop_succ_cons, List.drop_zero]
  unfold cutB
  rw [List.dropWhile_append_of_pos hne]
  simp
theorem parse_no_number {s : List UInt8} (h : puAll (cutB 58 (s.drop 1)) = none) : IdentS.parse s = none := by
  cases hp : IdentS.parse s with
  | none => rfl
  | some x =>
    obtain ⟨_, _, h3, h4, h5⟩ := guess_cand hp
    rw [h3] at h
    have := puAll_digits ⟨x.server.toNat, by omega⟩
    simp only at this
    rw [this] at h
    cases h
theorem parse_cand {s : List UInt8} {n : Nat} (h : puAll (cutB 58 (s.drop 1)) = some n) : IdentS.parse s = if okB (cand s n) = true ∧ textOf (cand s n) = s then some (cand s n) else none := by
  split
  · rename_i hc
    exact parse_iff.2 ⟨hc.1, hc.2.symm⟩
  · rename_i hc
    cases hp : IdentS.parse s with
    | none => rfl
    | some x =>
      exfalso
      obtain ⟨h1, h2, h3, h4, h5⟩ := guess_cand hp
      rw [h3] at h
      have := puAll_digits ⟨x.server.toNat, by omega⟩
      simp only at this
      rw [this] at h
      simp only [Option.some.injEq] at h
      have hx : x = cand s n := by
        cases x
        simp only [cand, Idn.mk.injEq] at *
        exact ⟨h1, h2, by omega⟩
      obtain ⟨ho, hs⟩ := parse_iff.1 hp
      rw [hx] at ho hs
      exact hc ⟨ho, hs.symm⟩

end Go.Proofs.YtfodloepkgkilaaDoor.IdentQ
