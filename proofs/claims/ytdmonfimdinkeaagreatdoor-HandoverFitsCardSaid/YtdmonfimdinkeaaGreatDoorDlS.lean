/-
  WHAT IS PROVED: plain laws of deals: what is signed, their coding, and which answers fit. Condition: what each theorem names.
-/
import Derived.Test.YtdmonfimdinkeaaGreatDoorCore
import Derived.Test.YtdmonfimdinkeaaGreatDoorWireS
import Derived.BigRegionIn
import Derived.Handy
import Derived.Laws.CopyRow
import Derived.LoopIn
import Derived.LoopNIn
import Derived.RangeFuncBound
import Derived.RangeFuncBox
import Derived.RangeFuncLeaves
import Derived.Shelf.Abstract
import Derived.Shelf.RegionOpen
import Derived.TacticsInMore
import Derived.Test.YtdmonfimdinkeaaGreatDoorRows
import Derived.Test.YtdmonfimdinkeaaGreatDoorShelf
namespace Go.Proofs.YtdmonfimdinkeaaGreatDoor.DlS
open Go.Proofs.YtdmonfimdinkeaaGreatDoor Go.Proofs.YtdmonfimdinkeaaGreatDoor.OctetS Go.Proofs.YtdmonfimdinkeaaGreatDoor.IdentS Go.Proofs.YtdmonfimdinkeaaGreatDoor.ShaS Go.Proofs.YtdmonfimdinkeaaGreatDoor.EntS Go.Proofs.YtdmonfimdinkeaaGreatDoor.WireS
set_option linter.unusedVariables false

structure Right (e : Dl) : Prop where
  kind : e.kind = 1 ∨ e.kind = 2
  room : roomB e.room = true
  sig : e.sig.length ≤ 8192
  ep0 : 0 ≤ e.ep
  ep1 : e.ep ≤ 4096
  ix0 : 0 ≤ e.ix
  ix1 : e.ix ≤ 4096
  hub0 : 0 ≤ e.hub
  hub1 : e.hub ≤ 63
  next0 : 0 ≤ e.next
  next1 : e.next ≤ 63
  ne : e.hub ≠ e.next
theorem check_iff {e : Dl} : checkD e = true ↔ Right e := by
  unfold checkD
  simp only [Bool.and_eq_true, Bool.or_eq_true, place_iff, decide_eq_true_eq]
  exact ⟨fun ⟨a, b, c, d, f, g1, g2, g3, g4, g5⟩ => ⟨a, b, c, d.1, d.2, f.1, f.2, g1, g2, g3, g4, g5⟩, fun h => ⟨h.kind, h.room, h.sig, ⟨h.ep0, h.ep1⟩, ⟨h.ix0, h.ix1⟩, h.hub0, h.hub1, h.next0, h.next1, h.ne⟩⟩
def parts (e : Dl) : List (List UInt8) := [wordD e.kind, e.room, num e.ep.toNat, num e.ix.toNat, num e.hub.toNat, num e.next.toNat]
def text (e : Dl) : List UInt8 := OctetS.list (parts e)
def textOf (e : Dl) : List UInt8 := if checkD e then text e else []
theorem word_len (k : Int) : (wordD k).length ≤ 6 := by
  unfold wordD
  split
  · simp
  · split <;> simp
theorem kind_word {k : Int} (h : k = 1 ∨ k = 2) : kindD (wordD k) = k := by
  rcases h with rfl | rfl <;> rfl
theorem word_kind {s : List UInt8} (h : kindD s = 1 ∨ kindD s = 2) : wordD (kindD s) = s := by
  unfold kindD at h ⊢
  split
  · rename_i h1
    rw [h1]
    rfl
  · rename_i h1
    rw [if_neg h1] at h
    split
    · rename_i h2
      rw [h2]
      rfl
    · rename_i h2
      rw [if_neg h2] at h
      rcases h with h | h <;> cases h
theorem Right.fits {e : Dl} (h : Right e) : fits (parts e) = true := by
  rw [fits_iff]
  refine ⟨by simp [parts], fun t ht => ?_⟩
  have hw := word_len e.kind
  have hr := room_length h.room
  have h1 := num_place h.ep0 h.ep1
  have h2 := num_place h.ix0 h.ix1
  have h3 := num_place h.hub0 (by have := h.hub1; omega)
  have h4 := num_place h.next0 (by have := h.next1; omega)
  simp only [parts, List.mem_cons, List.not_mem_nil, or_false] at ht
  rcases ht with rfl | rfl | rfl | rfl | rfl | rfl <;> omega
def bytesE (e : Dl) : List UInt8 := list [text e, e.sig]
def bytesW (e : Dl) : List UInt8 × Int := if checkD e = true then (if (text e).length ≤ 8192 then (bytesE e, 0) else ([], 7)) else ([], 2)
theorem toNat_cast {n : Int} (h : 0 ≤ n) : ((n.toNat : Nat) : Int) = n := by omega
theorem read_text {e : Dl} (h : Right e) : readD (text e) = some { e with sig := [] } := by
  unfold readD text
  rw [all_list h.fits]
  simp only [if_true, parts, readDL]
  rw [small_num (by unfold maxNum; omega) (by have := h.ep0; have := h.ep1; omega), small_num (by unfold maxNum; omega) (by have := h.ix0; have := h.ix1; omega),
    small_num (by unfold maxNum; omega) (by have := h.hub0; have := h.hub1; omega), small_num (by unfold maxNum; omega) (by have := h.next0; have := h.next1; omega)]
  simp only [Option.bind_some]
  rw [toNat_cast h.ep0, toNat_cast h.ix0, toNat_cast h.hub0, toNat_cast h.next0, kind_word h.kind]
  exact if_pos ((check_iff (e := ⟨e.kind, e.room, e.ep, e.ix, e.hub, e.next, []⟩)).2 ⟨h.kind, h.room, Nat.zero_le _, h.ep0, h.ep1, h.ix0, h.ix1, h.hub0, h.hub1, h.next0, h.next1, h.ne⟩)
theorem bytes_fits {e : Dl} (h : Right e) (ht : (text e).length ≤ 8192) : OctetS.fits [text e, e.sig] = true := by
  rw [fits_iff]
  have := h.sig
  refine ⟨by simp, fun t hm => ?_⟩
  simp only [List.mem_cons, List.not_mem_nil, or_false] at hm
  rcases hm with rfl | rfl
  · exact ht
  · exact this
/-- A right deal is read from its bytes. -/
theorem parse_bytes {e : Dl} (h : Right e) (ht : (text e).length ≤ 8192) : parseD (bytesE e) = some e := by
  unfold parseD bytesE
  rw [all_list (bytes_fits h ht)]
  simp only [if_true, parseDL, read_text h, Option.map_some, withSigD]
/-- What is read without a signature. -/
theorem read_ok {s : List UInt8} {e : Dl} (h : readD s = some e) : Right e ∧ e.sig = [] ∧ text e = s := by
  unfold readD at h
  split at h
  · rename_i h0
    obtain ⟨l, y, ha⟩ : ∃ l y, all s = (l, y) := ⟨_, _, rfl⟩
    rw [ha] at h h0
    simp only at h h0
    subst h0
    obtain ⟨hfit, hlist⟩ := all_ok ha
    match l, h with
    | [k, r, a, b, c, d], h =>
      simp only [readDL] at h
      cases hx : small 4096 a with
      | none => rw [hx] at h; cases h
      | some x =>
        cases hy : small 4096 b with
        | none => rw [hx, hy] at h; cases h
        | some y =>
          cases hz : small 4096 c with
          | none => rw [hx, hy, hz] at h; cases h
          | some z =>
            cases hu : small 4096 d with
            | none => rw [hx, hy, hz, hu] at h; cases h
            | some u =>
              rw [hx, hy, hz, hu] at h
              simp only [Option.bind_some] at h
              split at h
              · rename_i hc
                cases h
                have hR := check_iff.1 hc
                refine ⟨hR, rfl, ?_⟩
                rw [← hlist]
                unfold text
                simp only [parts, Int.toNat_natCast]
                rw [(small_spec hx).2, (small_spec hy).2, (small_spec hz).2, (small_spec hu).2, word_kind hR.kind]
              · cases h
    | [], h => simp [readDL] at h
    | [_], h => simp [readDL] at h
    | [_, _], h => simp [readDL] at h
    | [_, _, _], h => simp [readDL] at h
    | [_, _, _, _], h => simp [readDL] at h
    | [_, _, _, _, _], h => simp [readDL] at h
    | _ :: _ :: _ :: _ :: _ :: _ :: _ :: _, h => simp [readDL] at h
  · cases h
/-- What is read has the bytes. -/
theorem parse_ok {s : List UInt8} {e : Dl} (h : parseD s = some e) : Right e ∧ (text e).length ≤ 8192 ∧ bytesE e = s := by
  unfold parseD at h
  split at h
  · rename_i h0
    obtain ⟨l, y, ha⟩ : ∃ l y, all s = (l, y) := ⟨_, _, rfl⟩
    rw [ha] at h h0
    simp only at h h0
    subst h0
    obtain ⟨hfit, hlist⟩ := all_ok ha
    match l, h with
    | [t, g], h =>
      simp only [parseDL] at h
      cases hx : readD t with
      | none => rw [hx] at h; cases h
      | some x =>
        rw [hx] at h
        simp only [Option.map_some, Option.some.injEq] at h
        obtain ⟨hR, hs, ht⟩ := read_ok hx
        have hf := (fits_iff.1 hfit).2
        have hg := hf g (by simp)
        have htl := hf t (by simp)
        subst h
        refine ⟨⟨hR.kind, hR.room, hg, hR.ep0, hR.ep1, hR.ix0, hR.ix1, hR.hub0, hR.hub1, hR.next0, hR.next1, hR.ne⟩, ?_, ?_⟩
        · show (text x).length ≤ 8192
          rw [ht]; exact htl
        · rw [← hlist]
          show list [text x, g] = _
          rw [ht]
    | [], h => simp [parseDL] at h
    | [_], h => simp [parseDL] at h
    | _ :: _ :: _ :: _, h => simp [parseDL] at h
  · cases h
/-- An offer's answer, and why there is none. -/
def answer (e : Dl) : Dl := { e with kind := 2, sig := [] }
def answerW (e : Dl) : Int := if checkD e = true then (if e.kind = 1 then 0 else 11) else 2

end Go.Proofs.YtdmonfimdinkeaaGreatDoor.DlS
