/-
  WHAT IS PROVED: plain laws of heads: what is signed, and their coding. Condition: what each theorem names.
-/
import Derived.Test.YtdmonfimdinkeaaGreatDoorWireT
namespace Go.Proofs.YtdmonfimdinkeaaGreatDoor.HdS
open Go.Proofs.YtdmonfimdinkeaaGreatDoor Go.Proofs.YtdmonfimdinkeaaGreatDoor.OctetS Go.Proofs.YtdmonfimdinkeaaGreatDoor.IdentS Go.Proofs.YtdmonfimdinkeaaGreatDoor.ShaS Go.Proofs.YtdmonfimdinkeaaGreatDoor.EntS Go.Proofs.YtdmonfimdinkeaaGreatDoor.WireS Go.Proofs.YtdmonfimdinkeaaGreatDoor.WireT
set_option linter.unusedVariables false

structure Right (e : Hd) : Prop where
  room : roomB e.room = true
  ep0 : 0 ≤ e.ep
  ep1 : e.ep ≤ 4096
  ix0 : 0 ≤ e.ix
  ix1 : e.ix ≤ 4096
  sig : e.sig.length ≤ 8192
theorem check_iff {e : Hd} : checkH e = true ↔ Right e := by
  unfold checkH
  simp only [Bool.and_eq_true, place_iff, decide_eq_true_eq]
  exact ⟨fun ⟨a, b, c, d⟩ => ⟨a, b.1, b.2, c.1, c.2, d⟩, fun h => ⟨h.room, ⟨h.ep0, h.ep1⟩, ⟨h.ix0, h.ix1⟩, h.sig⟩⟩
def parts (e : Hd) : List (List UInt8) := [markH, e.room, num e.ep.toNat, num e.ix.toNat, e.sum]
def text (e : Hd) : List UInt8 := OctetS.list (parts e)
def textOf (e : Hd) : List UInt8 := if checkH e then text e else []
theorem Right.fits {e : Hd} (h : Right e) (hp : e.sum.length = 32) : fits (parts e) = true := by
  rw [fits_iff]
  refine ⟨by simp [parts], fun t ht => ?_⟩
  have hr := room_length h.room
  have h1 := num_place h.ep0 h.ep1
  have h2 := num_place h.ix0 h.ix1
  simp only [parts, List.mem_cons, List.not_mem_nil, or_false] at ht
  rcases ht with rfl | rfl | rfl | rfl | rfl
  · simp [markH]
  · omega
  · omega
  · omega
  · omega
/-- A right head's bytes, where what is signed is short enough. -/
def bytesE (e : Hd) : List UInt8 := list [text e, e.sig]
def bytesW (e : Hd) : List UInt8 × Int := if checkH e = true then (if (text e).length ≤ 8192 then (bytesE e, 0) else ([], 7)) else ([], 2)
theorem read_text {e : Hd} (h : Right e) (hp : e.sum.length = 32) : readH (text e) = some { e with sig := [] } := by
  unfold readH HdS.text
  rw [all_list (h.fits hp)]
  simp only [if_true, HdS.parts, readHL]
  rw [small_num (by unfold maxNum; omega) (by have := h.ep0; have := h.ep1; omega), small_num (by unfold maxNum; omega) (by have := h.ix0; have := h.ix1; omega)]
  simp only [Option.bind_some]
  rw [if_pos ⟨hp, h.room⟩]
  have h1 : ((e.ep.toNat : Nat) : Int) = e.ep := by have := h.ep0; omega
  have h2 : ((e.ix.toNat : Nat) : Int) = e.ix := by have := h.ix0; omega
  rw [h1, h2]
theorem bytes_fits {e : Hd} (h : Right e) (ht : (text e).length ≤ 8192) : fits [text e, e.sig] = true := by
  rw [fits_iff]
  have := h.sig
  refine ⟨by simp, fun t hm => ?_⟩
  simp only [List.mem_cons, List.not_mem_nil, or_false] at hm
  rcases hm with rfl | rfl
  · exact ht
  · exact this
/-- A right head is read from its bytes. -/
theorem parse_bytes {e : Hd} (h : Right e) (hp : e.sum.length = 32) (ht : (text e).length ≤ 8192) : parseH (bytesE e) = some e := by
  unfold parseH bytesE
  rw [all_list (bytes_fits h ht)]
  simp only [if_true, parseHL, read_text h hp, Option.map_some, withSigH]
/-- What is read without a signature. -/
theorem read_ok {s : List UInt8} {e : Hd} (h : readH s = some e) : Right e ∧ e.sum.length = 32 ∧ e.sig = [] ∧ text e = s := by
  unfold readH at h
  split at h
  · rename_i h0
    obtain ⟨l, y, ha⟩ : ∃ l y, all s = (l, y) := ⟨_, _, rfl⟩
    rw [ha] at h h0
    simp only at h h0
    subst h0
    obtain ⟨hfit, hlist⟩ := all_ok ha
    match l, h with
    | [k, r, a, b, p], h =>
      simp only [readHL] at h
      split at h
      · rename_i hk
        cases hx : small 4096 a with
        | none => rw [hx] at h; cases h
        | some x =>
          cases hy : small 4096 b with
          | none => rw [hx, hy] at h; cases h
          | some y =>
            rw [hx, hy] at h
            simp only [Option.bind_some] at h
            split at h
            · rename_i hc
              cases h
              obtain ⟨hx1, hx2⟩ := small_spec hx
              obtain ⟨hy1, hy2⟩ := small_spec hy
              refine ⟨⟨hc.2, ?_, ?_, ?_, ?_, by simp⟩, hc.1, rfl, ?_⟩
              · exact Int.natCast_nonneg _
              · show (x : Int) ≤ 4096; omega
              · exact Int.natCast_nonneg _
              · show (y : Int) ≤ 4096; omega
              · rw [← hlist, hk]
                unfold HdS.text
                simp only [HdS.parts, Int.toNat_natCast]
                rw [hx2, hy2]
            · cases h
      · cases h
    | [], h => simp [readHL] at h
    | [_], h => simp [readHL] at h
    | [_, _], h => simp [readHL] at h
    | [_, _, _], h => simp [readHL] at h
    | [_, _, _, _], h => simp [readHL] at h
    | _ :: _ :: _ :: _ :: _ :: _ :: _, h => simp [readHL] at h
  · cases h
/-- What is read has the bytes. -/
theorem parse_ok {s : List UInt8} {e : Hd} (h : parseH s = some e) : Right e ∧ e.sum.length = 32 ∧ (text e).length ≤ 8192 ∧ bytesE e = s := by
  unfold parseH at h
  split at h
  · rename_i h0
    obtain ⟨l, y, ha⟩ : ∃ l y, all s = (l, y) := ⟨_, _, rfl⟩
    rw [ha] at h h0
    simp only at h h0
    subst h0
    obtain ⟨hfit, hlist⟩ := all_ok ha
    match l, h with
    | [t, g], h =>
      simp only [parseHL] at h
      cases hx : readH t with
      | none => rw [hx] at h; cases h
      | some x =>
        rw [hx] at h
        simp only [Option.map_some, Option.some.injEq] at h
        obtain ⟨hR, hp, hs, ht⟩ := read_ok hx
        have hf := (fits_iff.1 hfit).2
        have hg := hf g (by simp)
        have htl := hf t (by simp)
        subst h
        refine ⟨⟨hR.room, hR.ep0, hR.ep1, hR.ix0, hR.ix1, hg⟩, hp, ?_, ?_⟩
        · show (text x).length ≤ 8192
          rw [ht]; exact htl
        · rw [← hlist]
          show list [text x, g] = _
          rw [ht]
    | [], h => simp [parseHL] at h
    | [_], h => simp [parseHL] at h
    | _ :: _ :: _ :: _, h => simp [parseHL] at h
  · cases h

end Go.Proofs.YtdmonfimdinkeaaGreatDoor.HdS
