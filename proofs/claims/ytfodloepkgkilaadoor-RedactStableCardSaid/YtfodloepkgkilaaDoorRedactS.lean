/-
  WHAT IS PROVED: plain laws of what is left of an event, and of the texts that are summed of it. No program, no condition beside those that each theorem names.
-/
import Derived.Test.YtfodloepkgkilaaDoorEventS
import Derived.Test.YtfodloepkgkilaaDoorShaS
namespace Go.Proofs.YtfodloepkgkilaaDoor.RedactS
open Go.Proofs.YtfodloepkgkilaaDoor Go.Proofs.YtfodloepkgkilaaDoor.OctetS Go.Proofs.YtfodloepkgkilaaDoor.IdentS Go.Proofs.YtfodloepkgkilaaDoor.EventS Go.Proofs.YtfodloepkgkilaaDoor.ShaS

/-- What is left. -/
def redact (e : Ev) : Ev := if e.kind = 6 ∨ e.kind = 5 then { e with body := [] } else e

theorem redact_kind (e : Ev) : (redact e).kind = e.kind := by unfold redact; split <;> rfl
theorem redact_sender (e : Ev) : (redact e).sender = e.sender := by unfold redact; split <;> rfl
theorem redact_room (e : Ev) : (redact e).room = e.room := by unfold redact; split <;> rfl
theorem redact_key (e : Ev) : (redact e).key = e.key := by unfold redact; split <;> rfl
theorem redact_nonce (e : Ev) : (redact e).nonce = e.nonce := by unfold redact; split <;> rfl
theorem redact_body (e : Ev) : (redact e).body = e.body ∨ (redact e).body = [] := by unfold redact; split <;> simp
theorem redact_redact (e : Ev) : redact (redact e) = redact e := by
  unfold redact
  by_cases h : e.kind = 6 ∨ e.kind = 5
  · simp [h]
  · simp [h]
theorem keyB_redact (e : Ev) : keyB (redact e) = keyB e := by unfold keyB; rw [redact_kind, redact_key]
theorem right_redact {e : Ev} (h : Right e) : Right (redact e) := by
  refine ⟨by rw [redact_room]; exact h.room, by rw [redact_sender]; exact h.sender, by rw [redact_kind]; exact h.kind, by rw [keyB_redact]; exact h.key, ?_, by rw [redact_nonce]; exact h.nonce0, by rw [redact_nonce]; exact h.nonce1⟩
  rcases redact_body e with hb | hb
  · rw [hb]; exact h.body
  · rw [hb]; simp

/-- The sum of what is left, and of all. -/
def refSum (e : Ev) : List UInt8 := sum (6 :: EventS.bytes (redact e))
def allSum (e : Ev) : List UInt8 := sum (7 :: EventS.bytes e)
theorem refSum_redact (e : Ev) : refSum (redact e) = refSum e := by unfold refSum; rw [redact_redact]
theorem refSum_length (e : Ev) : (refSum e).length = 32 := sum_length _
theorem allSum_length (e : Ev) : (allSum e).length = 32 := sum_length _

/-- Two right events that are not one have two texts. -/
theorem text_apart {e f : Ev} (he : Right e) (hf : Right f) (h : e ≠ f) : (7 :: EventS.bytes e : List UInt8) ≠ 7 :: EventS.bytes f := by
  intro h'
  simp only [List.cons.injEq, true_and] at h'
  exact h (bytes_inj he hf h')

end Go.Proofs.YtfodloepkgkilaaDoor.RedactS
