/-
  WHAT IS PROVED: plain laws of entries as bytes: an entry is read from its bytes, and what is read has these: no program. Condition: what each theorem names.
-/
import Derived.Test.YtdmonfimdinkeaaGreatDoorWireS
namespace Go.Proofs.YtdmonfimdinkeaaGreatDoor.EntB
open Go.Proofs.YtdmonfimdinkeaaGreatDoor Go.Proofs.YtdmonfimdinkeaaGreatDoor.OctetS Go.Proofs.YtdmonfimdinkeaaGreatDoor.IdentS Go.Proofs.YtdmonfimdinkeaaGreatDoor.ShaS Go.Proofs.YtdmonfimdinkeaaGreatDoor.EntS Go.Proofs.YtdmonfimdinkeaaGreatDoor.WireS
set_option linter.unusedVariables false

/-- A right entry's bytes, where what is signed is short enough. -/
def bytesE (e : Ent) : List UInt8 := list [text e, e.sig]
def textW (e : Ent) : List UInt8 × Int := if checkB e = true then (text e, 0) else ([], 2)
def sumW (e : Ent) : List UInt8 × Int := if checkB e = true then (sum (text e), 0) else (List.replicate 32 0, 2)
def bytesW (e : Ent) : List UInt8 × Int := if checkB e = true then (if (text e).length ≤ 8192 then (bytesE e, 0) else ([], 7)) else ([], 2)
theorem read_text {e : Ent} (h : Right e) (hp : e.prev.length = 32) : WireS.read (text e) = some { e with sig := [] } := by
  unfold WireS.read EntS.text
  rw [all_list (h.fits hp)]
  simp only [if_true, EntS.parts, readL]
  rw [small_num (by unfold maxNum; omega) (by have := h.ep0; have := h.ep1; omega), small_num (by unfold maxNum; omega) (by have := h.ix0; have := h.ix1; omega)]
  simp only [Option.bind_some]
  rw [if_pos ⟨hp, h.room⟩]
  have h1 : ((e.ep.toNat : Nat) : Int) = e.ep := by have := h.ep0; omega
  have h2 : ((e.ix.toNat : Nat) : Int) = e.ix := by have := h.ix0; omega
  rw [h1, h2]
theorem bytes_fits {e : Ent} (h : Right e) (ht : (text e).length ≤ 8192) : fits [text e, e.sig] = true := by
  rw [fits_iff]
  have := h.sig
  refine ⟨by simp, fun t hm => ?_⟩
  simp only [List.mem_cons, List.not_mem_nil, or_false] at hm
  rcases hm with rfl | rfl
  · exact ht
  · exact this
/-- A right entry is read from its bytes. -/
theorem parse_bytes {e : Ent} (h : Right e) (hp : e.prev.length = 32) (ht : (text e).length ≤ 8192) : WireS.parse (bytesE e) = some e := by
  unfold WireS.parse bytesE
  rw [all_list (bytes_fits h ht)]
  simp only [if_true, parseL, read_text h hp, Option.map_some, withSig]
/-- What is read without a signature. -/
theorem read_ok {s : List UInt8} {e : Ent} (h : WireS.read s = some e) : Right e ∧ e.prev.length = 32 ∧ e.sig = [] ∧ text e = s := by
  unfold WireS.read at h
  split at h
  · rename_i h0
    obtain ⟨l, y, ha⟩ : ∃ l y, all s = (l, y) := ⟨_, _, rfl⟩
    rw [ha] at h h0
    simp only at h h0
    subst h0
    obtain ⟨hfit, hlist⟩ := all_ok ha
    match l, h with
    | [k, r, a, b, p, v], h =>
      simp only [readL] at h
      split at h
      · rename_i hk
        cases hx : small 4096 a with
        | none => rw [hx] at h; cases h
        | some x =>
          cases hy : small 4096 b with
          | none => rw [hx, hy] at h; cases h
          | some y =>
            rw [hx, hy] at h
            simp only [Option.bind_some] at h
            split at h
            · rename_i hc
              cases h
              obtain ⟨hx1, hx2⟩ := small_spec hx
              obtain ⟨hy1, hy2⟩ := small_spec hy
              have hv := (fits_iff.1 hfit).2 v (by simp)
              refine ⟨⟨hc.2, ?_, ?_, ?_, ?_, hv, by simp⟩, hc.1, rfl, ?_⟩
              · exact Int.natCast_nonneg _
              · show (x : Int) ≤ 4096; omega
              · exact Int.natCast_nonneg _
              · show (y : Int) ≤ 4096; omega
              · rw [← hlist, hk]
                unfold EntS.text
                simp only [EntS.parts, Int.toNat_natCast]
                rw [hx2, hy2]
            · cases h
      · cases h
    | [], h => simp [readL] at h
    | [_], h => simp [readL] at h
    | [_, _], h => simp [readL] at h
    | [_, _, _], h => simp [readL] at h
    | [_, _, _, _], h => simp [readL] at h
    | [_, _, _, _, _], h => simp [readL] at h
    | _ :: _ :: _ :: _ :: _ :: _ :: _ :: _, h => simp [readL] at h
  · cases h
/-- What is read has the bytes. -/
theorem parse_ok {s : List UInt8} {e : Ent} (h : WireS.parse s = some e) : Right e ∧ e.prev.length = 32 ∧ (text e).length ≤ 8192 ∧ bytesE e = s := by
  unfold WireS.parse at h
  split at h
  · rename_i h0
    obtain ⟨l, y, ha⟩ : ∃ l y, all s = (l, y) := ⟨_, _, rfl⟩
    rw [ha] at h h0
    simp only at h h0
    subst h0
    obtain ⟨hfit, hlist⟩ := all_ok ha
    match l, h with
    | [t, g], h =>
      simp only [parseL] at h
      cases hx : WireS.read t with
      | none => rw [hx] at h; cases h
      | some x =>
        rw [hx] at h
        simp only [Option.map_some, Option.some.injEq] at h
        obtain ⟨hR, hp, hs, ht⟩ := read_ok hx
        have hf := (fits_iff.1 hfit).2
        have hg := hf g (by simp)
        have htl := hf t (by simp)
        subst h
        refine ⟨⟨hR.room, hR.ep0, hR.ep1, hR.ix0, hR.ix1, hR.ev, hg⟩, hp, ?_, ?_⟩
        · show (text x).length ≤ 8192
          rw [ht]; exact htl
        · rw [← hlist]
          show list [text x, g] = _
          rw [ht]
    | [], h => simp [parseL] at h
    | [_], h => simp [parseL] at h
    | _ :: _ :: _ :: _, h => simp [parseL] at h
  · cases h
/-- What is signed tells all but the signature. -/
theorem text_inj {e f : Ent} (he : Right e) (hf : Right f) (hpe : e.prev.length = 32) (hpf : f.prev.length = 32) (h : text e = text f) : { e with sig := [] } = ({ f with sig := [] } : Ent) := by
  have h1 := read_text he hpe
  rw [h, read_text hf hpf] at h1
  exact (Option.some.inj h1).symm

end Go.Proofs.YtdmonfimdinkeaaGreatDoor.EntB
