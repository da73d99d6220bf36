/-
  WHAT IS PROVED: a message was taken back by the last redaction that names it, just if one of the entries behind it does. No program is in sight. Condition: there are not more entries than the theorem says.
-/
import Derived.Test.YtjiakfblgefioaaGreatDoorTgone
namespace Go.Proofs.YtjiakfblgefioaaGreatDoor.T38S
open Go Go.RowKit Go.Shelf Go.Proofs.YtjiakfblgefioaaGreatDoor Go.Proofs.YtjiakfblgefioaaGreatDoor.OctetS Go.Proofs.YtjiakfblgefioaaGreatDoor.IdentS Go.Proofs.YtjiakfblgefioaaGreatDoor.EventS Go.Proofs.YtjiakfblgefioaaGreatDoor.ShaS Go.Proofs.YtjiakfblgefioaaGreatDoor.RedactS Go.Proofs.YtjiakfblgefioaaGreatDoor.OctP Go.Proofs.YtjiakfblgefioaaGreatDoor.IdentP Go.Proofs.YtjiakfblgefioaaGreatDoor.EventP Go.Proofs.YtjiakfblgefioaaGreatDoor.Tread Go.Proofs.YtjiakfblgefioaaGreatDoor.Ttake Go.Proofs.YtjiakfblgefioaaGreatDoor.Tmsg Go.Proofs.YtjiakfblgefioaaGreatDoor.Tof Go.Proofs.YtjiakfblgefioaaGreatDoor.Tgone Go.Proofs.YtjiakfblgefioaaGreatDoor.Tlist Go.Proofs.YtjiakfblgefioaaGreatDoor.Tline
set_option linter.unusedVariables false
set_option linter.unusedSimpArgs false

/-- Whether an entry's event is a redaction with this body. -/
def takes (s : List UInt8) (x : En) : Bool := match EventS.parse (bl x.ev) with
  | some r => decide (r.kind = 7) && decide (r.body = s)
  | none => false
def goneR (s : List UInt8) (l : List En) : Bool := l.any (takes s)
def later (n : Nat) : Option Nat → Bool
  | some j => decide (n < j)
  | none => false
theorem goneAt_later (T : List Rd) (x : Rd) : goneAt T x = later x.1.1 (lastOf (hex (refSum x.1.2)) T) := by
  unfold goneAt later
  rfl
theorem step_one (s : List UInt8) (i : Nat) (hi : i ≤ 1099511627776) (x : En) (r : Option Nat) : (oneE i x).foldl (lastStep s) r = if takes s x then some i else r := by
  unfold takes
  cases h : EventS.parse (bl x.ev) with
  | none => rw [one_none h]; rfl
  | some e =>
    rw [one_some h hi]
    simp only [List.foldl_cons, List.foldl_nil, lastStep]
    by_cases h7 : e.kind = 7 <;> by_cases hs : e.body = s <;> simp [h7, hs]
theorem last_behind (s : List UInt8) (n : Nat) : ∀ (l : List En) (i : Nat) (r : Option Nat), i + l.length ≤ 1099511627776 → n < i → later n ((rdE i l).foldl (lastStep s) r) = (later n r || goneR s l)
  | [], i, r, _, _ => by simp [rdE, goneR]
  | x :: t, i, r, hi, hn => by
    have hi' : i + 1 + t.length ≤ 1099511627776 := by simp only [List.length_cons] at hi; omega
    rw [rdE, List.foldl_append, step_one s i (by omega), last_behind s n t (i + 1) _ hi' (by omega)]
    unfold goneR
    rw [List.any_cons]
    by_cases h : takes s x
    · rw [if_pos h, h]
      simp [later, hn]
    · rw [if_neg h]
      simp [h]
theorem last_ahead (s : List UInt8) (n : Nat) : ∀ (l : List En) (i : Nat) (r : Option Nat), i + l.length ≤ n + 1 → n ≤ 1099511627776 → later n r = false → later n ((rdE i l).foldl (lastStep s) r) = false
  | [], i, r, _, _, h => by simpa [rdE] using h
  | x :: t, i, r, hi, hn, h => by
    have hi' : i + 1 + t.length ≤ n + 1 := by simp only [List.length_cons] at hi; omega
    rw [rdE, List.foldl_append, step_one s i (by omega)]
    refine last_ahead s n t (i + 1) _ hi' hn ?_
    split
    · simp [later]; omega
    · exact h
/-- A message was taken back just if an entry behind it says so. -/
theorem gone_is (L : List En) (hL : L.length ≤ 1099511627776) (x : Rd) (hx : x.1.1 < L.length) : goneAt (rdE 0 L) x = goneR (hex (refSum x.1.2)) (L.drop (x.1.1 + 1)) := by
  have e : rdE 0 L = rdE 0 (L.take (x.1.1 + 1)) ++ rdE (x.1.1 + 1) (L.drop (x.1.1 + 1)) := by
    have h := rdE_app 0 (L.take (x.1.1 + 1)) (L.drop (x.1.1 + 1))
    rw [List.take_append_drop, List.length_take, Nat.min_eq_left (by omega), Nat.zero_add] at h
    exact h
  rw [goneAt_later, e]
  unfold lastOf
  rw [List.foldl_append, last_behind _ _ _ _ _ (by rw [List.length_drop]; omega) (by omega), last_ahead _ _ _ _ _ (by rw [List.length_take]; omega) (by omega) rfl, Bool.false_or]

/-! ### The lists, entry by entry -/
def msgsK (L : List En) (k : Nat) : List Mg := (rdE 0 (L.take k)).flatMap (mgOf (rdE 0 L))
theorem msgsK_all (L : List En) : msgsK L L.length = msgs L := by unfold msgsK msgs; rw [List.take_length]
theorem msgsK_len (L : List En) (k : Nat) : (msgsK L k).length ≤ k := by
  have h1 := mg_len (rdE 0 L) (rdE 0 (L.take k))
  have h2 := rdE_len 0 (L.take k)
  rw [List.length_take] at h2
  unfold msgsK
  omega
theorem take_one (L : List En) (k : Nat) (x : En) (hx : L[k]? = some x) : rdE 0 (L.take (k + 1)) = rdE 0 (L.take k) ++ oneE k x := by
  obtain ⟨hk, rfl⟩ := List.getElem?_eq_some_iff.1 hx
  rw [List.take_succ_eq_append_getElem hk, rdE_app, List.length_take, Nat.min_eq_left (by omega), Nat.zero_add]
  simp [rdE]
/-- The message that an entry has. -/
def oneM (L : List En) (k : Nat) (x : En) : List Mg := match EventS.parse (bl x.ev) with
  | some e => if e.kind = 6 then [⟨k, e, goneR (hex (refSum e)) (L.drop (k + 1))⟩] else []
  | none => []
theorem msgsK_succ (L : List En) (hL : L.length ≤ 1099511627776) (k : Nat) (x : En) (hx : L[k]? = some x) : msgsK L (k + 1) = msgsK L k ++ oneM L k x := by
  have hk := (List.getElem?_eq_some_iff.1 hx).1
  unfold msgsK oneM
  rw [take_one L k x hx, List.flatMap_append]
  congr 1
  cases h : EventS.parse (bl x.ev) with
  | none => rw [one_none h]; rfl
  | some e =>
    rw [one_some h (by omega)]
    simp only [List.flatMap_cons, List.flatMap_nil, List.append_nil]
    unfold mgOf
    rw [gone_is L hL _ (by exact hk)]

end Go.Proofs.YtjiakfblgefioaaGreatDoor.T38S
