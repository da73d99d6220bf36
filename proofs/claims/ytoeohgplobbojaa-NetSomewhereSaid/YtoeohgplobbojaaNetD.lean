/-
  WHAT IS PROVED: the program's and the reference's network, each call as one function of what is on its way. No condition beside those that each theorem names.
-/
import Derived.Test.YtoeohgplobbojaaNetC
namespace Go.Proofs.Ytoeohgplobbojaa.NetD
open Go Go.RowKit Go.ChangeShapes Go.WideShapes Go.ChangeAt Go.Proofs.Ytoeohgplobbojaa Go.Proofs.Ytoeohgplobbojaa.NetA
open Go.Proofs.Ytoeohgplobbojaa.NetB (refNet)

def putL (room : Int) (l : List ByteArray) (s : ByteArray) : List ByteArray := if (l.length : Int) = room then l else l ++ [s]
def putN (room : Int) (l : List ByteArray) (lost : Int) : Int := if (l.length : Int) = room then lost + 1 else lost
def putE (room : Int) (l : List ByteArray) : Int := if (l.length : Int) = room then 8 else 0
def isIn (l : List ByteArray) (i : Int) : Bool := decide (0 ≤ i ∧ i < l.length)
def takeL (l : List ByteArray) (i : Int) : List ByteArray := if isIn l i then l.eraseIdx i.toNat else l
def takeS (l : List ByteArray) (i : Int) : ByteArray := if isIn l i then l.getD i.toNat ByteArray.empty else ByteArray.empty
def takeE (l : List ByteArray) (i : Int) : Int := if isIn l i then 0 else 3
def dropN (l : List ByteArray) (i lost : Int) : Int := if isIn l i then lost + 1 else lost
def dupL (room : Int) (l : List ByteArray) (i : Int) : List ByteArray := if isIn l i then putL room l (l.getD i.toNat ByteArray.empty) else l
def dupN (room : Int) (l : List ByteArray) (i lost : Int) : Int := if isIn l i then putN room l lost else lost
def dupE (room : Int) (l : List ByteArray) (i : Int) : Int := if isIn l i then putE room l else 3

theorem isIn_no {l : List ByteArray} {i : Int} (h : isIn l i = false) : i < 0 ∨ (l.length : Int) ≤ i := by simp [isIn] at h; omega
theorem isIn_yes {l : List ByteArray} {i : Int} (h : isIn l i = true) : ∃ k : Nat, i = k ∧ k < l.length := by
  simp [isIn] at h
  exact ⟨i.toNat, by omega, by omega⟩
theorem notFoot {w : World} {b base : Nat} {v : Value} {l : List ByteArray} {room lost : Int} (h : NetR w b base v l room lost) (hb : base ≤ b) : ∀ k, k < base → ¬ Foot b v k := by
  intro k hk hf
  rcases hf with hf | hf
  · omega
  · have := (h.own.lt k hf).1; omega
theorem getD_in {l : List ByteArray} {k : Nat} (h : k < l.length) : l.getD k ByteArray.empty = l[k] := by simp [List.getD, h]

section
variable {w : World} {b base : Nat} {v : Value} {l : List ByteArray} {room lost : Int}

theorem Put_any (s : ByteArray) (h : NetR w b base v l room lost) (hb : base ≤ w.heap.size) (hlo : lost < 1000000) :
    Calls Try.prog 11 #[.pointer (some ⟨b, 0, none⟩), .string s] w fun e w' => e = .returned (.int .i64 (putE room l)) ∧ ∃ v', NetR w' b base v' (putL room l s) room (putN room l lost) ∧ Ext (Foot b v) w w' ∧ From w v v' := by
  by_cases hl : (l.length : Int) = room
  · simp only [putE, putL, putN, if_pos hl]
    exact (NetA.Put_full b base w v l room lost s h hl hlo).mono fun e w' ⟨he, h1, h2⟩ => ⟨he, v, h1, h2, From.refl _ _⟩
  · simp only [putE, putL, putN, if_neg hl]
    exact NetA.Put_room b base w v l room lost s h (by have := h.len; omega) hb

theorem Take_any (i : Int) (h : NetR w b base v l room lost) :
    Calls Try.prog 13 #[.pointer (some ⟨b, 0, none⟩), .int .i64 i] w fun e w' => e = .returned (.tuple #[.string (takeS l i), .int .i64 (takeE l i)]) ∧ ∃ v', NetR w' b base v' (takeL l i) room lost ∧ Ext (Foot b v) w w' ∧ From w v v' := by
  cases hi : isIn l i
  · simp only [takeS, takeE, takeL, hi]
    exact (NetA.Take_out b base w v l room lost i h (isIn_no hi)).mono fun e w' ⟨he, hw⟩ => ⟨he, v, by rw [← hw]; exact h, by rw [← hw]; exact Ext.refl _ _, From.refl _ _⟩
  · obtain ⟨k, rfl, hk⟩ := isIn_yes hi
    simp only [takeS, takeE, takeL, hi, if_true, Int.toNat_natCast, getD_in hk]
    exact NetA.Take_in b base w v l room lost k h hk

theorem Drop_any (i : Int) (h : NetR w b base v l room lost) (hlo : lost < 1000000) :
    Calls Try.prog 15 #[.pointer (some ⟨b, 0, none⟩), .int .i64 i] w fun e w' => e = .returned (.int .i64 (takeE l i)) ∧ ∃ v', NetR w' b base v' (takeL l i) room (dropN l i lost) ∧ Ext (Foot b v) w w' ∧ From w v v' := by
  cases hi : isIn l i
  · simp only [dropN, takeE, takeL, hi]
    exact (NetA.Drop_out b base w v l room lost i h (isIn_no hi)).mono fun e w' ⟨he, hw⟩ => ⟨he, v, by rw [← hw]; exact h, by rw [← hw]; exact Ext.refl _ _, From.refl _ _⟩
  · obtain ⟨k, rfl, hk⟩ := isIn_yes hi
    simp only [dropN, takeE, takeL, hi, if_true, Int.toNat_natCast]
    exact NetA.Drop_in b base w v l room lost k h hk hlo

theorem Double_any (i : Int) (h : NetR w b base v l room lost) (hb : base ≤ w.heap.size) (hlo : lost < 1000000) :
    Calls Try.prog 17 #[.pointer (some ⟨b, 0, none⟩), .int .i64 i] w fun e w' => e = .returned (.int .i64 (dupE room l i)) ∧ ∃ v', NetR w' b base v' (dupL room l i) room (dupN room l i lost) ∧ Ext (Foot b v) w w' ∧ From w v v' := by
  cases hi : isIn l i
  · simp only [dupE, dupL, dupN, hi]
    exact (NetA.Double_out b base w v l room lost i h (isIn_no hi)).mono fun e w' ⟨he, hw⟩ => ⟨he, v, by rw [← hw]; exact h, by rw [← hw]; exact Ext.refl _ _, From.refl _ _⟩
  · obtain ⟨k, rfl, hk⟩ := isIn_yes hi
    simp only [dupE, dupL, dupN, hi, if_true, Int.toNat_natCast, getD_in hk]
    by_cases hl : (l.length : Int) = room
    · simp only [putE, putL, putN, if_pos hl]
      exact (NetA.Double_full b base w v l room lost k h hk hl hlo).mono fun e w' ⟨he, h1, h2⟩ => ⟨he, v, h1, h2, From.refl _ _⟩
    · simp only [putE, putL, putN, if_neg hl]
      exact NetA.Double_room b base w v l room lost k h hk (by have := h.len; omega) hb
end

section
variable {w : World} {v : Value} {l : List ByteArray} {room lost : Int}
/-- A list of texts that is only read. -/
def Rd (w : World) (v : Value) (l : List ByteArray) : Prop := Sl w v 1 l.length (strV l)

def Fr2 (w w' : World) (v v' : Value) : Prop := ∀ k, v'.ownBlock = some k → v.ownBlock = some k ∨ (w.heap.size ≤ k ∧ k < w'.heap.size)
theorem Fr2.refl (w w' : World) (v : Value) : Fr2 w w' v v := fun _ h => .inl h
theorem from_new {w w' : World} {v v' : Value} {n : Nat} {xs : List Value} {e : TypeId} (h : w'.ownsRow w.heap.size e 1 v' n xs) : Fr2 w w' v v' := fun k hk => .inr (h.lt k hk)

theorem rPut_any (s : ByteArray) (h : Rd w v l) (hr : room ≤ 1024) (hl : (l.length : Int) ≤ room) (h0 : 0 ≤ lost) (h1 : lost ≤ 1000000) :
    Calls Try.prog 10 #[refNet room v lost, .string s] w fun e w' => ∃ v', e = .returned (.tuple #[refNet room v' (putN room l lost), .int .i64 (putE room l)]) ∧ Rd w' v' (putL room l s) ∧ Fr2 w w' v v' ∧ Below w.heap.size w w' := by
  by_cases hh : (l.length : Int) = room
  · simp only [putE, putL, putN, if_pos hh]
    exact (NetB.Put_full w v l s room lost h hh h0 h1).mono fun e w' ⟨he, hb⟩ => ⟨v, he, Sl.below h hb, Fr2.refl _ _ _, hb⟩
  · simp only [putE, putL, putN, if_neg hh]
    exact (NetB.Put_room w v l s room lost h (by omega) hr).mono fun e w' ⟨v', he, ho, hb⟩ => ⟨v', he, Sl.ofOwn ho, from_new ho, hb⟩

theorem rTake_any (i : Int) (h : Rd w v l) (hl : l.length ≤ 1024) :
    Calls Try.prog 12 #[refNet room v lost, .int .i64 i] w fun e w' => ∃ v', e = .returned (.tuple #[refNet room v' lost, .string (takeS l i), .int .i64 (takeE l i)]) ∧ Rd w' v' (takeL l i) ∧ Fr2 w w' v v' ∧ Below w.heap.size w w' := by
  cases hi : isIn l i
  · simp only [takeS, takeE, takeL, hi]
    exact (NetB.Take_out w v l room lost i h (isIn_no hi)).mono fun e w' ⟨he, hb⟩ => ⟨v, he, Sl.below h hb, Fr2.refl _ _ _, hb⟩
  · obtain ⟨k, rfl, hk⟩ := isIn_yes hi
    simp only [takeS, takeE, takeL, hi, if_true, Int.toNat_natCast, getD_in hk]
    exact (NetB.Take_in w v l room lost k h hk (by omega)).mono fun e w' ⟨v', he, ho, hb⟩ => ⟨v', he, Sl.ofOwn ho, from_new ho, hb⟩

theorem rDrop_any (i : Int) (h : Rd w v l) (hl : l.length ≤ 1024) (h0 : 0 ≤ lost) (h1 : lost ≤ 1000000) :
    Calls Try.prog 14 #[refNet room v lost, .int .i64 i] w fun e w' => ∃ v', e = .returned (.tuple #[refNet room v' (dropN l i lost), .int .i64 (takeE l i)]) ∧ Rd w' v' (takeL l i) ∧ Fr2 w w' v v' ∧ Below w.heap.size w w' := by
  cases hi : isIn l i
  · simp only [dropN, takeE, takeL, hi]
    exact (NetB.Drop_out w v l room lost i h (isIn_no hi)).mono fun e w' ⟨he, hb⟩ => ⟨v, he, Sl.below h hb, Fr2.refl _ _ _, hb⟩
  · obtain ⟨k, rfl, hk⟩ := isIn_yes hi
    simp only [dropN, takeE, takeL, hi, if_true, Int.toNat_natCast]
    exact (NetB.Drop_in w v l room lost k h hk (by omega) h0 h1).mono fun e w' ⟨v', he, ho, hb⟩ => ⟨v', he, Sl.ofOwn ho, from_new ho, hb⟩

theorem rDouble_any (i : Int) (h : Rd w v l) (hr : room ≤ 1024) (hl : (l.length : Int) ≤ room) (h0 : 0 ≤ lost) (h1 : lost ≤ 1000000) :
    Calls Try.prog 16 #[refNet room v lost, .int .i64 i] w fun e w' => ∃ v', e = .returned (.tuple #[refNet room v' (dupN room l i lost), .int .i64 (dupE room l i)]) ∧ Rd w' v' (dupL room l i) ∧ Fr2 w w' v v' ∧ Below w.heap.size w w' := by
  cases hi : isIn l i
  · simp only [dupN, dupE, dupL, hi]
    exact (NetB.Double_out w v l room lost i h (isIn_no hi)).mono fun e w' ⟨he, hb⟩ => ⟨v, he, Sl.below h hb, Fr2.refl _ _ _, hb⟩
  · obtain ⟨k, rfl, hk⟩ := isIn_yes hi
    simp only [dupN, dupE, dupL, hi, if_true, Int.toNat_natCast, getD_in hk]
    by_cases hh : (l.length : Int) = room
    · simp only [putE, putL, putN, if_pos hh]
      exact (NetB.Double_full w v l room lost k h hk hh h0 h1).mono fun e w' ⟨he, hb⟩ => ⟨v, he, Sl.below h hb, Fr2.refl _ _ _, hb⟩
    · simp only [putE, putL, putN, if_neg hh]
      exact (NetB.Double_room w v l room lost k h hk (by omega) hr).mono fun e w' ⟨v', he, ho, hb⟩ => ⟨v', he, Sl.ofOwn ho, from_new ho, hb⟩
end

set_option maxRecDepth 100000 in
set_option maxHeartbeats 1000000 in
theorem lives_ok (w : World) : Calls Try.prog 7 #[] w fun e w' => e = .returned (.bool true) ∧ Below w.heap.size w w' := by
  go_enter Try.func7, Try.ntmps7
  go_wp2_with fail
  refine (New_ok w 2 (by omega) (by omega) w.heap.size (Nat.le_refl _)).mono ?_
  rintro e w1 ⟨b, rfl, hb, hN, hB⟩
  go_wp2_with fail
  refine (New_no w1 0 (by omega)).mono ?_
  rintro e w2 ⟨rfl, rfl⟩
  go_wp2_with fail
  have hx1 := hB.size
  refine (NetA.Put_room b w.heap.size w1 _ [] 2 0 ⟨#[97]⟩ hN (by simp) (by omega)).mono ?_
  rintro e w2 ⟨rfl, v2, hN2, hE2, _⟩
  have hB2 : Below w.heap.size w w2 := Bl.ext hB hE2 (notFoot hN hb)
  have hx2 := hB2.size
  clear hN hE2
  go_wp2_with fail
  refine (NetA.Double_room b w.heap.size w2 _ [⟨#[97]⟩] 2 0 0 hN2 (by simp) (by simp) (by omega)).mono ?_
  rintro e w3 ⟨rfl, v3, hN3, hE3, _⟩
  have hB3 : Below w.heap.size w w3 := Bl.ext hB2 hE3 (notFoot hN2 hb)
  have hx3 := hB3.size
  clear hN2 hE3 hB2
  go_wp2_with fail
  refine (NetA.Put_full b w.heap.size w3 _ _ 2 0 ⟨#[98]⟩ hN3 (by simp) (by omega)).mono ?_
  rintro e w4 ⟨rfl, hN4, hE4⟩
  have hB4 : Below w.heap.size w w4 := Bl.ext hB3 hE4 (notFoot hN3 hb)
  clear hN3 hE4 hB3
  go_wp2_with fail
  refine (NetA.Drop_out b w.heap.size w4 _ _ 2 _ 2 hN4 (by simp)).mono ?_
  rintro e w5 ⟨rfl, rfl⟩
  go_wp2_with fail
  refine (NetA.Take_in b w.heap.size w4 _ _ 2 _ 1 hN4 (by simp)).mono ?_
  rintro e w5 ⟨rfl, v5, hN5, hE5, _⟩
  have hB5 : Below w.heap.size w w5 := Bl.ext hB4 hE5 (notFoot hN4 hb)
  clear hN4 hE5 hB4
  go_wp2_with fail
  refine (NetA.Drop_in b w.heap.size w5 _ _ 2 _ 0 hN5 (by simp) (by omega)).mono ?_
  rintro e w6 ⟨rfl, v6, hN6, hE6, _⟩
  have hB6 : Below w.heap.size w w6 := Bl.ext hB5 hE6 (notFoot hN5 hb)
  clear hN5 hE6 hB5
  go_wp2_with fail
  refine (NetA.Len_ok b w.heap.size w6 _ _ 2 _ hN6).mono ?_
  rintro e w7 ⟨rfl, rfl⟩
  go_wp2_with fail
  refine (NetA.Lost_ok b w.heap.size w6 _ _ 2 _ hN6).mono ?_
  rintro e w7 ⟨rfl, rfl⟩
  go_wp2_with fail
  refine (NetC.All_ok b w.heap.size w6 _ _ 2 _ hN6).mono ?_
  rintro e w7 ⟨v7, rfl, ho, hb7⟩
  obtain ⟨a7, c7, rfl, _, _⟩ := ownsRow_slice ho
  go_wp2
  go_ret
  exact ⟨rfl, Bl.call hB6 hb7⟩


/-- What the loop of the laws holds: the program's network at block b, the reference's value in the variable at block c. -/
structure Two (W : World) (w : World) (b c base : Nat) (room : Int) (v u : Value) (l : List ByteArray) (lost : Int) : Prop where
  net : NetR w b base v l room lost
  box : w.heap[c]? = some (.cells #[.int .i64 room, u, .int .i64 lost] 30 (0, 0))
  rd : Rd w u l
  bel : Below W.heap.size W w
  base1 : W.heap.size ≤ base
  b1 : base ≤ b
  c1 : W.heap.size ≤ c
  cb : c ≠ b
  cv : v.ownBlock ≠ some c
  ub : u.ownBlock ≠ some b
  uc : u.ownBlock ≠ some c
  uv : ∀ k, u.ownBlock = some k → v.ownBlock ≠ some k
  ult : ∀ k, u.ownBlock = some k → k < w.heap.size
  basew : base ≤ w.heap.size

/-- The acts: kind, number, text of each. -/
def actV (x : Int × Int × ByteArray) : List Value := [.int .i64 x.1, .int .i64 x.2.1, .string x.2.2]

theorem notFoot2 {W w : World} {b c base : Nat} {room : Int} {v u : Value} {l : List ByteArray} {lost : Int} (h : Two W w b c base room v u l lost) {k : Nat} (hk : w.heap.size ≤ k) : ¬ Foot b v k := by
  intro hf
  rcases hf with hf | hf
  · have := lt_row h.net.blk; omega
  · have := (h.net.own.lt k hf).2; omega
theorem notFoot3 {W w : World} {b c base : Nat} {room : Int} {v u : Value} {l : List ByteArray} {lost : Int} (h : Two W w b c base room v u l lost) : ¬ Foot b v c := by
  intro hf
  rcases hf with hf | hf
  · exact h.cb hf
  · exact h.cv hf

theorem Two.next {W w w4 wB w6 w7 : World} {b c base : Nat} {room : Int} {v u v' u' : Value} {l l' : List ByteArray} {lost lost' : Int} (h : Two W w b c base room v u l lost)
    (h4 : Below w.heap.size w w4) (hrd : Rd w4 u' l') (hu : Fr2 w w4 u u') (hB : Ext (fun _ => False) w4 wB) (hE : Ext (Foot b v) wB w6) (hN : NetR w6 b base v' l' room lost') (hF : From wB v v')
    (h7 : Ext (fun k => k = c) w6 w7) (hc7 : w7.heap[c]? = some (.cells #[.int .i64 room, u', .int .i64 lost'] 30 (0, 0))) : Two W w7 b c base room v' u' l' lost' := by
  have s4 := h4.size
  have sB := hB.size
  have s6 := hE.size
  have s7 := h7.size
  have hcw := lt_row h.box
  have hbw := lt_row h.net.blk
  have hvw : ∀ k, v.ownBlock = some k → k < w.heap.size := fun k hk => (h.net.own.lt k hk).2
  have huB : ∀ k, u'.ownBlock = some k → k < wB.heap.size := fun k hk => by
    rcases hu k hk with h' | h'
    · have := h.ult k h'; omega
    · omega
  have huF : ∀ k, u'.ownBlock = some k → ¬ Foot b v k := fun k hk hf => by
    rcases hf with hf | hf
    · rcases hu k hk with h' | h'
      · exact h.ub (hf ▸ h')
      · omega
    · rcases hu k hk with h' | h'
      · exact h.uv k h' hf
      · have := hvw k hf; omega
  have huc : ∀ k, u'.ownBlock = some k → k ≠ c := fun k hk e => by
    rcases hu k hk with h' | h'
    · exact h.uc (e ▸ h')
    · omega
  refine ⟨?_, hc7, ?_, ?_, h.base1, h.b1, h.c1, h.cb, ?_, ?_, ?_, ?_, ?_, ?_⟩
  · refine hN.ext h7 (fun e => h.cb e.symm) (fun k hk e => ?_)
    rcases hF k hk with h' | h'
    · exact h.cv (e ▸ h')
    · omega
  · exact ((hrd.ext hB (fun _ _ h => h)).ext hE huF).ext h7 huc
  · refine Bl.ext (Bl.ext (Bl.ext (Bl.call h.bel h4) hB (fun _ _ h => h)) hE (fun k hk hf => ?_)) h7 (fun k hk e => by have := h.c1; omega)
    have := notFoot h.net h.b1 k
    have := h.base1
    rcases hf with hf | hf
    · have := h.b1; omega
    · have := (h.net.own.lt k hf).1; omega
  · intro e
    rcases hF c e with h' | h'
    · exact h.cv h'
    · omega
  · intro e; exact huF b e (.inl rfl)
  · intro e; exact huc c e rfl
  · intro k hk e
    rcases hF k e with h' | h'
    · exact huF k hk (.inr h')
    · have := huB k hk; omega
  · intro k hk; have := huB k hk; omega
  · have := h.basew; omega

theorem Two.same {W w w' : World} {b c base : Nat} {room : Int} {v u : Value} {l : List ByteArray} {lost : Int} (h : Two W w b c base room v u l lost) (h' : Below w.heap.size w w') : Two W w' b c base room v u l lost :=
  ⟨h.net.ext (S := fun _ => False) (.of_below h') (fun h => h) (fun _ _ h => h), (h'.block _ (lt_row h.box)).trans h.box, Sl.below h.rd h', Bl.call h.bel h', h.base1, h.b1, h.c1, h.cb, h.cv, h.ub, h.uc, h.uv, fun k hk => Nat.lt_of_lt_of_le (h.ult k hk) h'.size, Nat.le_trans h.basew h'.size⟩

theorem set3 {w : World} {c : Nat} {x y z x' y' z' : Value} {t : TypeId} (h : w.heap[c]? = some (.cells #[x, y, z] t (0, 0))) :
    (((w.setCell ⟨c, 0, none⟩ x').setCell ⟨c, 1, none⟩ y').setCell ⟨c, 2, none⟩ z').heap[c]? = some (.cells #[x', y', z'] t (0, 0)) :=
  heap_setCell_same (heap_setCell_same (heap_setCell_same h x') y') z'
theorem ext3 (w : World) (c : Nat) (x y z : Value) : Ext (fun k => k = c) w (((w.setCell ⟨c, 0, none⟩ x).setCell ⟨c, 1, none⟩ y).setCell ⟨c, 2, none⟩ z) :=
  ((Ext.set1 w c 0 x).trans (Ext.set1 _ c 1 y)).trans (Ext.set1 _ c 2 z)

theorem act_cells {w : World} {a : Option Addr} {cap : Nat} {acts : List (Int × Int × ByteArray)} (h : Sl w (.slice a acts.length cap) 3 acts.length (acts.flatMap actV)) :
    ∀ k x, acts[k]? = some x → ∃ ab ao, a = some ⟨ab, ao, none⟩ ∧ ab < w.heap.size ∧ w.cell? ⟨ab, ao + k * 3, none⟩ = some (.int .i64 x.1) ∧ w.cell? ⟨ab, ao + k * 3 + 1, none⟩ = some (.int .i64 x.2.1) ∧ w.cell? ⟨ab, ao + k * 3 + 2, none⟩ = some (.string x.2.2) := by
  intro k x hx
  have hk : k < acts.length := (List.getElem?_eq_some_iff.1 hx).1
  obtain ⟨ab, ao, rfl, hlt, hc⟩ := h.plain (by rw [h.1]; omega)
  have g0 := hc (k * 3 + 0) _ ((flat_get actV 3 acts k 0 x (fun _ => rfl) hx (by omega)).trans rfl)
  have g1 := hc (k * 3 + 1) _ ((flat_get actV 3 acts k 1 x (fun _ => rfl) hx (by omega)).trans rfl)
  have g2 := hc (k * 3 + 2) _ ((flat_get actV 3 acts k 2 x (fun _ => rfl) hx (by omega)).trans rfl)
  exact ⟨ab, ao, rfl, hlt, g0, by rw [Nat.add_assoc]; exact g1, by rw [Nat.add_assoc]; exact g2⟩

set_option maxRecDepth 100000 in
set_option maxHeartbeats 4000000 in
theorem plays (W : World) (room : Int) (v : Value) (acts : List (Int × Int × ByteArray)) (hacts : Sl W v 3 acts.length (acts.flatMap actV)) :
    Calls Try.prog 3 #[.int .i64 room, v] W fun e W' => e = .returned (.bool true) ∧ Below W.heap.size W W' := by
  obtain ⟨a, cap, rfl, hcap, hm⟩ := hacts.form
  have hlen : acts.length ≤ 9223372036854775807 := by unfold maxLen at hm; omega
  have hact := act_cells hacts
  have HACT := Lib.hid hact
  clear hacts hact
  by_cases hr : 1 ≤ room ∧ room ≤ 1024
  · obtain ⟨hr1, hr2⟩ := hr
    go_enter Try.func3, Try.ntmps3
    go_wp2_with fail
    refine (lives_ok W).mono ?_
    rintro e w1 ⟨rfl, hb1⟩
    go_wp2_with fail
    refine (New_ok w1 room hr1 hr2 w1.heap.size (Nat.le_refl _)).mono ?_
    rintro e w2 ⟨b, rfl, hb, hN, hb2⟩
    go_wp2_with fail
    refine (NetB.New_yes w2 room hr1 hr2).mono ?_
    rintro e w3 ⟨rfl, hb3⟩
    have hN3 := hN.ext (S := fun _ => False) (.of_below hb3) (fun h => h) (fun _ _ h => h)
    have hB := Bl.call (Bl.call hb1 hb2) hb3
    have hB1 := hb1.size
    have hbl := (lt_row hN3.blk)
    clear hN hb1 hb2 hb3
    by_cases hl : 100 < (acts.length : Int)
    · go_wp2
      go_ret
      exact ⟨rfl, by repeat (first | exact hB | refine Bl.new ?_ _)⟩
    · go_wp2_with fail
      have Hbl := Lib.hid hbl
      have HB := Lib.hid hB
      have HN3 := Lib.hid hN3
      have hw1 : W.heap.size ≤ w1.heap.size := hB1
      have hw3 : w1.heap.size ≤ w3.heap.size := by omega
      clear hbl hB hN3
      go_loopw [61] (fun x wr => ∃ k : Nat, k ≤ acts.length ∧ x = .int .i64 k ∧ ∃ v u l lost, Two W wr b w3.heap.size w1.heap.size room v u l lost ∧ lost ≤ k) (fun x _ => acts.length - (intOf x).toNat)
      case atStart =>
        refine ⟨0, Nat.zero_le _, rfl, .slice none 0 0, .slice none 0 0, [], 0, ⟨?_, ?_, ?_, ?_, ?_, ?_, ?_, ?_, ?_, ?_, ?_, ?_, ?_, ?_⟩, by omega⟩
        · exact HN3.out.ext (S := fun _ => False) ((Ext.refl _ _).alloc _) (fun h => h) (fun _ _ h => h)
        · exact heap_new _ _
        · exact Sl.nil _ _
        · exact Bl.new HB.out _
        · exact hw1
        · exact hb
        · omega
        · have := Hbl.out; omega
        · simp [Value.ownBlock]
        · simp [Value.ownBlock]
        · simp [Value.ownBlock]
        · simp [Value.ownBlock]
        · simp [Value.ownBlock]
        · simp; omega
      case round =>
        obtain ⟨k, hk, rfl, v, u, l, lost, h2, hlost⟩ := hrel
        by_cases hlt : k < acts.length
        · obtain ⟨⟨kind, num, text⟩, hx⟩ : ∃ x, acts[k]? = some x := ⟨_, List.getElem?_eq_getElem hlt⟩
          obtain ⟨ab, ao, rfl, habw, g0, g1, g2⟩ := HACT.out k _ hx
          have q0 := h2.bel.cell (p := ⟨ab, ao + k * 3, none⟩) habw
          have q1 := h2.bel.cell (p := ⟨ab, ao + k * 3 + 1, none⟩) habw
          have q2 := h2.bel.cell (p := ⟨ab, ao + k * 3 + 2, none⟩) habw
          rw [g0] at q0
          rw [g1] at q1
          rw [g2] at q2
          obtain ⟨ua, uc, rfl, _, _⟩ := h2.rd.form
          obtain ⟨hx0, hx1⟩ := row_facts h2.box
          have i0 : (0 : Int) ≤ (k : Int) := by omega
          have i1 : (k : Int) < (acts.length : Int) := by omega
          have H2 := Lib.hid h2
          have hcw := lt_row h2.box
          clear h2 g0 g1 g2 hx
          by_cases k0 : kind = 0
          · subst k0
            go_wp2_with fail
            refine (rPut_any text (Sl.below H2.out.rd (Bl.new (Below.refl _ _) _)) hr2 H2.out.net.len H2.out.net.lost0.1 H2.out.net.lost0.2).mono ?_
            rintro e w4 ⟨u1, rfl, hrd, hfr, hb4⟩
            obtain ⟨a4, c4, rfl, _, _⟩ := hrd.form
            have h4 : Below wr.heap.size wr w4 := Bl.call (Bl.new (Below.refl _ _) _) hb4
            have hfr' : Fr2 wr w4 (.slice ua l.length uc) (.slice a4 (putL room l text).length c4) := fun k hk => (hfr k hk).imp id (fun h => ⟨by have := h.1; simp at this; omega, h.2⟩)
            obtain ⟨_, y0, y1⟩ := live (.of_below (S := fun _ => False) hb4) (heap_new wr _) (fun h => h)
            have z4 := hb4.size
            simp only [World.size_alloc] at z4
            have n4 : ¬ wr.heap.size = w4.heap.size := by omega
            have l4 : wr.heap.size < w4.heap.size := by omega
            have H4 := Lib.hid h4
            have HF := Lib.hid hfr'
            have HR := Lib.hid hrd
            clear hfr hfr' hb4 h4 hrd hx0 hx1
            go_wp2_with fail
            refine (Put_any text ((H2.out.net.ext (S := fun _ => False) (.of_below H4.out) (fun h => h) (fun _ _ h => h)).ext (S := fun _ => False) ((Ext.refl _ _).alloc _) (fun h => h) (fun _ _ h => h)) (by have := H2.out.basew; have := H4.out.size; simp; omega) (by omega)).mono ?_
            rintro e w6 ⟨rfl, v6, hN6, hE6, hF6⟩
            obtain ⟨_, x0, x1⟩ := live hE6 (heap_new w4 _) (notFoot2 H2.out (by omega))
            obtain ⟨hbx, p0, p1⟩ := live hE6 (heap_at ((H4.out.block _ (lt_row H2.out.box)).trans H2.out.box) _) (notFoot3 H2.out)
            have HBX := Lib.hid hbx
            have HN6 := Lib.hid hN6
            have HE6 := Lib.hid hE6
            have HF6 := Lib.hid hF6
            have l6 : w4.heap.size < w6.heap.size := by have := hE6.size; simp at this; omega
            clear hbx hN6 hE6 hF6 y0 y1 n4
            go_wp2_with fail
            have H7 := Two.next H2.out H4.out HR.out HF.out ((Ext.refl _ _).alloc _) HE6.out HN6.out HF6.out (ext3 w6 w3.heap.size _ _ _) (set3 HBX.out)
            obtain ⟨w7, hw7⟩ : ∃ w7, w7 = ((w6.setCell ⟨w3.heap.size, 0, none⟩ (.int .i64 room)).setCell ⟨w3.heap.size, 1, none⟩ (.slice a4 (putL room l text).length c4)).setCell ⟨w3.heap.size, 2, none⟩ (.int .i64 (putN room l lost)) := ⟨_, rfl⟩
            rw [← hw7] at H7 ⊢
            have hl7 : putN room l lost ≤ (k : Int) + 1 := by unfold putN; split <;> omega
            clear hw7 HBX HN6 HE6 HF6 x0 x1 p0 p1 HF HR H4
            generalize (putL room l text) = l7 at *
            generalize (putN room l lost) = lost7 at *
            have hc7 : w3.heap.size < w7.drew.heap.size := lt_row H7.box
            obtain ⟨hx0, hx1⟩ := row_facts H7.box
            have sA : w7.cell? ⟨w3.heap.size, 1, none⟩ = some (.slice a4 l7.length c4) := hx0 1
            have sB : w7.cell? ⟨w3.heap.size, 2, none⟩ = some (.int .i64 lost7) := hx0 2
            have HD := Lib.hid (H7.net.ext (S := fun _ => False) (Ext.refl _ w7).drew (fun h => h) (fun _ _ h => h))
            have HRD := Lib.hid (Sl.below H7.rd (Bl.drew (Below.refl _ w7)))
            have HH := Lib.hid H7
            clear H7 hx0 hx1
            go_region_held3 (fun w' => w'.cell? ⟨w3.heap.size, 1, none⟩ = some (.slice a4 l7.length c4) ∧ w'.cell? ⟨w3.heap.size, 2, none⟩ = some (.int .i64 lost7))
              (first
                | (go_keep; done)
                | (refine ⟨?_, ?_⟩ <;> (rw [hb8.cell (p := ⟨w3.heap.size, _, none⟩) hc7]; assumption)))
              (first
                | (go_at_call 18; refine (Len_ok b w1.heap.size w7.drew v6 l7 room lost7 HD.out).mono ?_; rintro e w' ⟨rfl, rfl⟩)
                | (go_at_call 19; refine (Lost_ok b w1.heap.size w7.drew v6 l7 room lost7 HD.out).mono ?_; rintro e w' ⟨rfl, rfl⟩)
                | (go_at_call 21; refine (NetC.All_ok b w1.heap.size w7.drew v6 l7 room lost7 HD.out).mono ?_; rintro e w8 ⟨v8, rfl, ho8, hb8⟩; obtain ⟨a8, c8, rfl, _, _⟩ := ownsRow_slice ho8)
                | (go_at_call 20; refine (NetC.Same_ok w8 _ _ l7 l7 (Sl.ofOwn ho8) (Sl.below HRD.out hb8)).mono ?_; rintro e w9 ⟨rfl, n9, rfl⟩))
            go_wp2
            go_roundw
            case rel => exact ⟨k + 1, by omega, by go_num, v6, _, l7, lost7, HH.out.same (Bl.drewN (Bl.call (Bl.drew (Below.refl _ w7)) hb8) n9), by omega⟩
            case measure => simp [intOf]; omega
          · skip
            by_cases k1 : kind = 1
            · subst k1
              go_wp2_with fail
              refine (rTake_any num (Sl.below H2.out.rd (Bl.new (Below.refl _ _) _)) (by have := H2.out.net.len; omega)).mono ?_
              rintro e w4 ⟨u1, rfl, hrd, hfr, hb4⟩
              obtain ⟨a4, c4, rfl, _, _⟩ := hrd.form
              have h4 : Below wr.heap.size wr w4 := Bl.call (Bl.new (Below.refl _ _) _) hb4
              have hfr' : Fr2 wr w4 (.slice ua l.length uc) (.slice a4 (takeL l num).length c4) := fun k hk => (hfr k hk).imp id (fun h => ⟨by have := h.1; simp at this; omega, h.2⟩)
              obtain ⟨_, y0, y1⟩ := live (.of_below (S := fun _ => False) hb4) (heap_new wr _) (fun h => h)
              have z4 := hb4.size
              simp only [World.size_alloc] at z4
              have n4 : ¬ wr.heap.size = w4.heap.size := by omega
              have l4 : wr.heap.size < w4.heap.size := by omega
              have H4 := Lib.hid h4
              have HF := Lib.hid hfr'
              have HR := Lib.hid hrd
              clear hfr hfr' hb4 h4 hrd hx0 hx1
              go_wp2_with fail
              refine (Take_any num ((H2.out.net.ext (S := fun _ => False) (.of_below H4.out) (fun h => h) (fun _ _ h => h)).ext (S := fun _ => False) ((Ext.refl _ _).alloc _) (fun h => h) (fun _ _ h => h))).mono ?_
              rintro e w6 ⟨rfl, v6, hN6, hE6, hF6⟩
              obtain ⟨_, x0, x1⟩ := live hE6 (heap_new w4 _) (notFoot2 H2.out (by omega))
              obtain ⟨hbx, p0, p1⟩ := live hE6 (heap_at ((H4.out.block _ (lt_row H2.out.box)).trans H2.out.box) _) (notFoot3 H2.out)
              have HBX := Lib.hid hbx
              have HN6 := Lib.hid hN6
              have HE6 := Lib.hid hE6
              have HF6 := Lib.hid hF6
              have l6 : w4.heap.size < w6.heap.size := by have := hE6.size; simp at this; omega
              clear hbx hN6 hE6 hF6 y0 y1 n4
              go_wp2_with fail
              have H7 := Two.next H2.out H4.out HR.out HF.out ((Ext.refl _ _).alloc _) HE6.out HN6.out HF6.out (ext3 w6 w3.heap.size _ _ _) (set3 HBX.out)
              obtain ⟨w7, hw7⟩ : ∃ w7, w7 = ((w6.setCell ⟨w3.heap.size, 0, none⟩ (.int .i64 room)).setCell ⟨w3.heap.size, 1, none⟩ (.slice a4 (takeL l num).length c4)).setCell ⟨w3.heap.size, 2, none⟩ (.int .i64 (lost)) := ⟨_, rfl⟩
              rw [← hw7] at H7 ⊢
              have hl7 : lost ≤ (k : Int) + 1 := by omega
              clear hw7 HBX HN6 HE6 HF6 x0 x1 p0 p1 HF HR H4
              generalize (takeL l num) = l7 at *
              generalize (lost) = lost7 at *
              have hc7 : w3.heap.size < w7.drew.heap.size := lt_row H7.box
              obtain ⟨hx0, hx1⟩ := row_facts H7.box
              have sA : w7.cell? ⟨w3.heap.size, 1, none⟩ = some (.slice a4 l7.length c4) := hx0 1
              have sB : w7.cell? ⟨w3.heap.size, 2, none⟩ = some (.int .i64 lost7) := hx0 2
              have HD := Lib.hid (H7.net.ext (S := fun _ => False) (Ext.refl _ w7).drew (fun h => h) (fun _ _ h => h))
              have HRD := Lib.hid (Sl.below H7.rd (Bl.drew (Below.refl _ w7)))
              have HH := Lib.hid H7
              clear H7 hx0 hx1
              go_region_held3 (fun w' => w'.cell? ⟨w3.heap.size, 1, none⟩ = some (.slice a4 l7.length c4) ∧ w'.cell? ⟨w3.heap.size, 2, none⟩ = some (.int .i64 lost7))
                (first
                  | (go_keep; done)
                  | (refine ⟨?_, ?_⟩ <;> (rw [hb8.cell (p := ⟨w3.heap.size, _, none⟩) hc7]; assumption)))
                (first
                  | (go_at_call 18; refine (Len_ok b w1.heap.size w7.drew v6 l7 room lost7 HD.out).mono ?_; rintro e w' ⟨rfl, rfl⟩)
                  | (go_at_call 19; refine (Lost_ok b w1.heap.size w7.drew v6 l7 room lost7 HD.out).mono ?_; rintro e w' ⟨rfl, rfl⟩)
                  | (go_at_call 21; refine (NetC.All_ok b w1.heap.size w7.drew v6 l7 room lost7 HD.out).mono ?_; rintro e w8 ⟨v8, rfl, ho8, hb8⟩; obtain ⟨a8, c8, rfl, _, _⟩ := ownsRow_slice ho8)
                  | (go_at_call 20; refine (NetC.Same_ok w8 _ _ l7 l7 (Sl.ofOwn ho8) (Sl.below HRD.out hb8)).mono ?_; rintro e w9 ⟨rfl, n9, rfl⟩))
              go_wp2
              go_roundw
              case rel => exact ⟨k + 1, by omega, by go_num, v6, _, l7, lost7, HH.out.same (Bl.drewN (Bl.call (Bl.drew (Below.refl _ w7)) hb8) n9), by omega⟩
              case measure => simp [intOf]; omega
            · skip
              by_cases k2 : kind = 2
              · subst k2
                go_wp2_with fail
                refine (rDrop_any num (Sl.below H2.out.rd (Bl.new (Below.refl _ _) _)) (by have := H2.out.net.len; omega) H2.out.net.lost0.1 H2.out.net.lost0.2).mono ?_
                rintro e w4 ⟨u1, rfl, hrd, hfr, hb4⟩
                obtain ⟨a4, c4, rfl, _, _⟩ := hrd.form
                have h4 : Below wr.heap.size wr w4 := Bl.call (Bl.new (Below.refl _ _) _) hb4
                have hfr' : Fr2 wr w4 (.slice ua l.length uc) (.slice a4 (takeL l num).length c4) := fun k hk => (hfr k hk).imp id (fun h => ⟨by have := h.1; simp at this; omega, h.2⟩)
                obtain ⟨_, y0, y1⟩ := live (.of_below (S := fun _ => False) hb4) (heap_new wr _) (fun h => h)
                have z4 := hb4.size
                simp only [World.size_alloc] at z4
                have n4 : ¬ wr.heap.size = w4.heap.size := by omega
                have l4 : wr.heap.size < w4.heap.size := by omega
                have H4 := Lib.hid h4
                have HF := Lib.hid hfr'
                have HR := Lib.hid hrd
                clear hfr hfr' hb4 h4 hrd hx0 hx1
                go_wp2_with fail
                refine (Drop_any num ((H2.out.net.ext (S := fun _ => False) (.of_below H4.out) (fun h => h) (fun _ _ h => h)).ext (S := fun _ => False) ((Ext.refl _ _).alloc _) (fun h => h) (fun _ _ h => h)) (by omega)).mono ?_
                rintro e w6 ⟨rfl, v6, hN6, hE6, hF6⟩
                obtain ⟨_, x0, x1⟩ := live hE6 (heap_new w4 _) (notFoot2 H2.out (by omega))
                obtain ⟨hbx, p0, p1⟩ := live hE6 (heap_at ((H4.out.block _ (lt_row H2.out.box)).trans H2.out.box) _) (notFoot3 H2.out)
                have HBX := Lib.hid hbx
                have HN6 := Lib.hid hN6
                have HE6 := Lib.hid hE6
                have HF6 := Lib.hid hF6
                have l6 : w4.heap.size < w6.heap.size := by have := hE6.size; simp at this; omega
                clear hbx hN6 hE6 hF6 y0 y1 n4
                go_wp2_with fail
                have H7 := Two.next H2.out H4.out HR.out HF.out ((Ext.refl _ _).alloc _) HE6.out HN6.out HF6.out (ext3 w6 w3.heap.size _ _ _) (set3 HBX.out)
                obtain ⟨w7, hw7⟩ : ∃ w7, w7 = ((w6.setCell ⟨w3.heap.size, 0, none⟩ (.int .i64 room)).setCell ⟨w3.heap.size, 1, none⟩ (.slice a4 (takeL l num).length c4)).setCell ⟨w3.heap.size, 2, none⟩ (.int .i64 (dropN l num lost)) := ⟨_, rfl⟩
                rw [← hw7] at H7 ⊢
                have hl7 : dropN l num lost ≤ (k : Int) + 1 := by unfold dropN; split <;> omega
                clear hw7 HBX HN6 HE6 HF6 x0 x1 p0 p1 HF HR H4
                generalize (takeL l num) = l7 at *
                generalize (dropN l num lost) = lost7 at *
                have hc7 : w3.heap.size < w7.drew.heap.size := lt_row H7.box
                obtain ⟨hx0, hx1⟩ := row_facts H7.box
                have sA : w7.cell? ⟨w3.heap.size, 1, none⟩ = some (.slice a4 l7.length c4) := hx0 1
                have sB : w7.cell? ⟨w3.heap.size, 2, none⟩ = some (.int .i64 lost7) := hx0 2
                have HD := Lib.hid (H7.net.ext (S := fun _ => False) (Ext.refl _ w7).drew (fun h => h) (fun _ _ h => h))
                have HRD := Lib.hid (Sl.below H7.rd (Bl.drew (Below.refl _ w7)))
                have HH := Lib.hid H7
                clear H7 hx0 hx1
                go_region_held3 (fun w' => w'.cell? ⟨w3.heap.size, 1, none⟩ = some (.slice a4 l7.length c4) ∧ w'.cell? ⟨w3.heap.size, 2, none⟩ = some (.int .i64 lost7))
                  (first
                    | (go_keep; done)
                    | (refine ⟨?_, ?_⟩ <;> (rw [hb8.cell (p := ⟨w3.heap.size, _, none⟩) hc7]; assumption)))
                  (first
                    | (go_at_call 18; refine (Len_ok b w1.heap.size w7.drew v6 l7 room lost7 HD.out).mono ?_; rintro e w' ⟨rfl, rfl⟩)
                    | (go_at_call 19; refine (Lost_ok b w1.heap.size w7.drew v6 l7 room lost7 HD.out).mono ?_; rintro e w' ⟨rfl, rfl⟩)
                    | (go_at_call 21; refine (NetC.All_ok b w1.heap.size w7.drew v6 l7 room lost7 HD.out).mono ?_; rintro e w8 ⟨v8, rfl, ho8, hb8⟩; obtain ⟨a8, c8, rfl, _, _⟩ := ownsRow_slice ho8)
                    | (go_at_call 20; refine (NetC.Same_ok w8 _ _ l7 l7 (Sl.ofOwn ho8) (Sl.below HRD.out hb8)).mono ?_; rintro e w9 ⟨rfl, n9, rfl⟩))
                go_wp2
                go_roundw
                case rel => exact ⟨k + 1, by omega, by go_num, v6, _, l7, lost7, HH.out.same (Bl.drewN (Bl.call (Bl.drew (Below.refl _ w7)) hb8) n9), by omega⟩
                case measure => simp [intOf]; omega
              · skip
                by_cases k3 : kind = 3
                · subst k3
                  go_wp2_with fail
                  refine (rDouble_any num (Sl.below H2.out.rd (Bl.new (Below.refl _ _) _)) hr2 H2.out.net.len H2.out.net.lost0.1 H2.out.net.lost0.2).mono ?_
                  rintro e w4 ⟨u1, rfl, hrd, hfr, hb4⟩
                  obtain ⟨a4, c4, rfl, _, _⟩ := hrd.form
                  have h4 : Below wr.heap.size wr w4 := Bl.call (Bl.new (Below.refl _ _) _) hb4
                  have hfr' : Fr2 wr w4 (.slice ua l.length uc) (.slice a4 (dupL room l num).length c4) := fun k hk => (hfr k hk).imp id (fun h => ⟨by have := h.1; simp at this; omega, h.2⟩)
                  obtain ⟨_, y0, y1⟩ := live (.of_below (S := fun _ => False) hb4) (heap_new wr _) (fun h => h)
                  have z4 := hb4.size
                  simp only [World.size_alloc] at z4
                  have n4 : ¬ wr.heap.size = w4.heap.size := by omega
                  have l4 : wr.heap.size < w4.heap.size := by omega
                  have H4 := Lib.hid h4
                  have HF := Lib.hid hfr'
                  have HR := Lib.hid hrd
                  clear hfr hfr' hb4 h4 hrd hx0 hx1
                  go_wp2_with fail
                  refine (Double_any num ((H2.out.net.ext (S := fun _ => False) (.of_below H4.out) (fun h => h) (fun _ _ h => h)).ext (S := fun _ => False) ((Ext.refl _ _).alloc _) (fun h => h) (fun _ _ h => h)) (by have := H2.out.basew; have := H4.out.size; simp; omega) (by omega)).mono ?_
                  rintro e w6 ⟨rfl, v6, hN6, hE6, hF6⟩
                  obtain ⟨_, x0, x1⟩ := live hE6 (heap_new w4 _) (notFoot2 H2.out (by omega))
                  obtain ⟨hbx, p0, p1⟩ := live hE6 (heap_at ((H4.out.block _ (lt_row H2.out.box)).trans H2.out.box) _) (notFoot3 H2.out)
                  have HBX := Lib.hid hbx
                  have HN6 := Lib.hid hN6
                  have HE6 := Lib.hid hE6
                  have HF6 := Lib.hid hF6
                  have l6 : w4.heap.size < w6.heap.size := by have := hE6.size; simp at this; omega
                  clear hbx hN6 hE6 hF6 y0 y1 n4
                  go_wp2_with fail
                  have H7 := Two.next H2.out H4.out HR.out HF.out ((Ext.refl _ _).alloc _) HE6.out HN6.out HF6.out (ext3 w6 w3.heap.size _ _ _) (set3 HBX.out)
                  obtain ⟨w7, hw7⟩ : ∃ w7, w7 = ((w6.setCell ⟨w3.heap.size, 0, none⟩ (.int .i64 room)).setCell ⟨w3.heap.size, 1, none⟩ (.slice a4 (dupL room l num).length c4)).setCell ⟨w3.heap.size, 2, none⟩ (.int .i64 (dupN room l num lost)) := ⟨_, rfl⟩
                  rw [← hw7] at H7 ⊢
                  have hl7 : dupN room l num lost ≤ (k : Int) + 1 := by unfold dupN putN; split <;> (try split) <;> omega
                  clear hw7 HBX HN6 HE6 HF6 x0 x1 p0 p1 HF HR H4
                  generalize (dupL room l num) = l7 at *
                  generalize (dupN room l num lost) = lost7 at *
                  have hc7 : w3.heap.size < w7.drew.heap.size := lt_row H7.box
                  obtain ⟨hx0, hx1⟩ := row_facts H7.box
                  have sA : w7.cell? ⟨w3.heap.size, 1, none⟩ = some (.slice a4 l7.length c4) := hx0 1
                  have sB : w7.cell? ⟨w3.heap.size, 2, none⟩ = some (.int .i64 lost7) := hx0 2
                  have HD := Lib.hid (H7.net.ext (S := fun _ => False) (Ext.refl _ w7).drew (fun h => h) (fun _ _ h => h))
                  have HRD := Lib.hid (Sl.below H7.rd (Bl.drew (Below.refl _ w7)))
                  have HH := Lib.hid H7
                  clear H7 hx0 hx1
                  go_region_held3 (fun w' => w'.cell? ⟨w3.heap.size, 1, none⟩ = some (.slice a4 l7.length c4) ∧ w'.cell? ⟨w3.heap.size, 2, none⟩ = some (.int .i64 lost7))
                    (first
                      | (go_keep; done)
                      | (refine ⟨?_, ?_⟩ <;> (rw [hb8.cell (p := ⟨w3.heap.size, _, none⟩) hc7]; assumption)))
                    (first
                      | (go_at_call 18; refine (Len_ok b w1.heap.size w7.drew v6 l7 room lost7 HD.out).mono ?_; rintro e w' ⟨rfl, rfl⟩)
                      | (go_at_call 19; refine (Lost_ok b w1.heap.size w7.drew v6 l7 room lost7 HD.out).mono ?_; rintro e w' ⟨rfl, rfl⟩)
                      | (go_at_call 21; refine (NetC.All_ok b w1.heap.size w7.drew v6 l7 room lost7 HD.out).mono ?_; rintro e w8 ⟨v8, rfl, ho8, hb8⟩; obtain ⟨a8, c8, rfl, _, _⟩ := ownsRow_slice ho8)
                      | (go_at_call 20; refine (NetC.Same_ok w8 _ _ l7 l7 (Sl.ofOwn ho8) (Sl.below HRD.out hb8)).mono ?_; rintro e w9 ⟨rfl, n9, rfl⟩))
                  go_wp2
                  go_roundw
                  case rel => exact ⟨k + 1, by omega, by go_num, v6, _, l7, lost7, HH.out.same (Bl.drewN (Bl.call (Bl.drew (Below.refl _ w7)) hb8) n9), by omega⟩
                  case measure => simp [intOf]; omega
                · skip
                  go_wp2_with fail
                  have H7 := H2.out.same (Bl.new (Below.refl _ wr) (.cells #[.int .i64 kind, .int .i64 num, .string text] 34))
                  obtain ⟨w7, hw7⟩ : ∃ w7, w7 = wr.alloc (.cells #[.int .i64 kind, .int .i64 num, .string text] 34) := ⟨_, rfl⟩
                  rw [← hw7] at H7 ⊢
                  clear hw7 hx0 hx1
                  have hc7 : w3.heap.size < w7.drew.heap.size := lt_row H7.box
                  obtain ⟨hx0, hx1⟩ := row_facts H7.box
                  have sA : w7.cell? ⟨w3.heap.size, 1, none⟩ = some (.slice ua l.length uc) := hx0 1
                  have sB : w7.cell? ⟨w3.heap.size, 2, none⟩ = some (.int .i64 lost) := hx0 2
                  have HD := Lib.hid (H7.net.ext (S := fun _ => False) (Ext.refl _ w7).drew (fun h => h) (fun _ _ h => h))
                  have HRD := Lib.hid (Sl.below H7.rd (Bl.drew (Below.refl _ w7)))
                  have HH := Lib.hid H7
                  clear H7 hx0 hx1
                  go_region_held3 (fun w' => w'.cell? ⟨w3.heap.size, 1, none⟩ = some (.slice ua l.length uc) ∧ w'.cell? ⟨w3.heap.size, 2, none⟩ = some (.int .i64 lost))
                    (first
                      | (go_keep; done)
                      | (refine ⟨?_, ?_⟩ <;> (rw [hb8.cell (p := ⟨w3.heap.size, _, none⟩) hc7]; assumption)))
                    (first
                      | (go_at_call 18; refine (Len_ok b w1.heap.size w7.drew v l room lost HD.out).mono ?_; rintro e w' ⟨rfl, rfl⟩)
                      | (go_at_call 19; refine (Lost_ok b w1.heap.size w7.drew v l room lost HD.out).mono ?_; rintro e w' ⟨rfl, rfl⟩)
                      | (go_at_call 21; refine (NetC.All_ok b w1.heap.size w7.drew v l room lost HD.out).mono ?_; rintro e w8 ⟨v8, rfl, ho8, hb8⟩; obtain ⟨a8, c8, rfl, _, _⟩ := ownsRow_slice ho8)
                      | (go_at_call 20; refine (NetC.Same_ok w8 _ _ l l (Sl.ofOwn ho8) (Sl.below HRD.out hb8)).mono ?_; rintro e w9 ⟨rfl, n9, rfl⟩))
                  go_wp2
                  go_roundw
                  case rel => exact ⟨k + 1, by omega, by go_num, v, _, l, lost, HH.out.same (Bl.drewN (Bl.call (Bl.drew (Below.refl _ w7)) hb8) n9), by omega⟩
                  case measure => simp [intOf]; omega
        · have hge : ¬ (k : Int) < (acts.length : Int) := by omega
          have HB2 := Lib.hid h2.bel
          clear h2
          go_wp2
          go_ret
          exact ⟨rfl, HB2.out⟩
  · have hr' : room < 1 ∨ 1024 < room := by omega
    go_enter Try.func3, Try.ntmps3
    go_wp2_with fail
    refine (lives_ok W).mono ?_
    rintro e w1 ⟨rfl, hb1⟩
    go_wp2_with fail
    refine (New_no w1 room hr').mono ?_
    rintro e w2 ⟨rfl, rfl⟩
    go_wp2_with fail
    refine (NetB.New_no w1 room hr').mono ?_
    rintro e w3 ⟨rfl, hb3⟩
    have hB := Bl.call hb1 hb3
    clear hr' hr hb1 hb3
    go_wp2
    go_ret
    exact ⟨rfl, Bl.new hB _⟩

end Go.Proofs.Ytoeohgplobbojaa.NetD
