/-
  WHAT IS PROVED: plain laws of events and their bytes: an event is read from its bytes, and bytes are of one event at most. No program, no condition beside those that each theorem names.
-/
import Derived.Test.YtfodloepkgkilaaDoorOctetS
import Derived.Test.YtfodloepkgkilaaDoorIdentS
namespace Go.Proofs.YtfodloepkgkilaaDoor.EventS
open Go.Proofs.YtfodloepkgkilaaDoor Go.Proofs.YtfodloepkgkilaaDoor.OctetS Go.Proofs.YtfodloepkgkilaaDoor.IdentS

/-- An event. -/
structure Ev where
  room : List UInt8
  sender : List UInt8
  kind : Int
  key : List UInt8
  body : List UInt8
  nonce : Int

/-- A kind's word. -/
def wordN : Nat → List UInt8
  | 1 => [99, 114, 101, 97, 116, 101]
  | 2 => [109, 101, 109, 98, 101, 114]
  | 3 => [112, 111, 119, 101, 114]
  | 4 => [114, 117, 108, 101]
  | 5 => [110, 97, 109, 101]
  | 6 => [109, 101, 115, 115, 97, 103, 101]
  | 7 => [114, 101, 100, 97, 99, 116]
  | 8 => [104, 97, 110, 100, 111, 118, 101, 114]
  | _ => []
def word (k : Int) : List UInt8 := wordN k.toNat
def known (k : Int) : Bool := decide (0 < k) && decide (k < 9)
/-- A word's kind. -/
def kindW (s : List UInt8) : Int :=
  if wordN 1 = s then 1 else if wordN 2 = s then 2 else if wordN 3 = s then 3 else if wordN 4 = s then 4 else if wordN 5 = s then 5 else if wordN 6 = s then 6 else if wordN 7 = s then 7 else if wordN 8 = s then 8 else 0

theorem known_spec {k : Int} (h : known k = true) : 0 < k ∧ k < 9 := by simpa [known] using h
theorem known_cases {k : Int} (h : known k = true) : k = 1 ∨ k = 2 ∨ k = 3 ∨ k = 4 ∨ k = 5 ∨ k = 6 ∨ k = 7 ∨ k = 8 := by
  obtain ⟨h1, h2⟩ := known_spec h
  omega
theorem kindW_word {k : Int} (h : known k = true) : kindW (word k) = k := by
  rcases known_cases h with rfl | rfl | rfl | rfl | rfl | rfl | rfl | rfl <;> decide
theorem word_kindW {s : List UInt8} (h : known (kindW s) = true) : word (kindW s) = s := by
  unfold kindW at h ⊢
  repeat (split; · (rename_i e; exact e))
  revert h
  rw [if_neg ‹_›, if_neg ‹_›, if_neg ‹_›, if_neg ‹_›, if_neg ‹_›, if_neg ‹_›, if_neg ‹_›, if_neg ‹_›]
  intro h
  exact absurd h (by decide)
theorem word_length (k : Int) : (word k).length ≤ 8 := by
  unfold word wordN
  split <;> simp

def keyB (e : Ev) : Bool := if e.kind = 2 then userB e.key else decide (e.key = [])
def checkB (e : Ev) : Bool :=
  roomB e.room && (userB e.sender && (known e.kind && (keyB e && (decide (e.body.length ≤ 512) && (decide (0 ≤ e.nonce) && decide (e.nonce ≤ 1099511627776))))))

structure Right (e : Ev) : Prop where
  room : roomB e.room = true
  sender : userB e.sender = true
  kind : known e.kind = true
  key : keyB e = true
  body : e.body.length ≤ 512
  nonce0 : 0 ≤ e.nonce
  nonce1 : e.nonce ≤ 1099511627776
theorem check_iff {e : Ev} : checkB e = true ↔ Right e := by
  unfold checkB
  simp only [Bool.and_eq_true, decide_eq_true_eq]
  exact ⟨fun ⟨a, b, c, d, e, f, g⟩ => ⟨a, b, c, d, e, f, g⟩, fun h => ⟨h.room, h.sender, h.kind, h.key, h.body, h.nonce0, h.nonce1⟩⟩

def parts (e : Ev) : List (List UInt8) := [e.room, e.sender, word e.kind, e.key, e.body, num e.nonce.toNat]
def bytes (e : Ev) : List UInt8 := list (parts e)

theorem Right.key_length {e : Ev} (h : Right e) : e.key.length ≤ 20 := by
  have := h.key
  unfold keyB at this
  split at this
  · exact user_length this
  · simp only [decide_eq_true_eq] at this
    rw [this]
    simp
theorem Right.num_length {e : Ev} (h : Right e) : (num e.nonce.toNat).length ≤ 7 := OctetS.num_length (by have := h.nonce1; have := h.nonce0; unfold maxNum; omega)
theorem Right.fits {e : Ev} (h : Right e) : fits (parts e) = true := by
  rw [fits_iff]
  refine ⟨by simp [parts], fun t ht => ?_⟩
  have h1 := room_length h.room
  have h2 := user_length h.sender
  have h3 := word_length e.kind
  have h4 := h.key_length
  have h5 := h.body
  have h6 := h.num_length
  simp only [parts, List.mem_cons, List.not_mem_nil, or_false] at ht
  rcases ht with rfl | rfl | rfl | rfl | rfl | rfl <;> omega
theorem text_le {t : List UInt8} {n : Nat} (h : t.length ≤ n) (hn : n ≤ 8192) : (text t).length ≤ n + 2 := by
  have := num_length2 (n := t.length) (by omega)
  simp only [text, List.length_append]
  omega
theorem Right.length {e : Ev} (h : Right e) : (bytes e).length ≤ 600 + 20 := by
  have h1 := text_le (room_length h.room) (by omega)
  have h2 := text_le (user_length h.sender) (by omega)
  have h3 := text_le (word_length e.kind) (by omega)
  have h4 := text_le h.key_length (by omega)
  have h5 := text_le h.body (by omega)
  have h6 := text_le h.num_length (by omega)
  have h7 : (num (parts e).length).length ≤ 2 := num_length2 (by simp [parts])
  simp only [bytes, list, List.length_append, parts, List.flatMap_cons, List.flatMap_nil, List.length_nil] at h7 ⊢
  omega

/-- The event of parts. -/
def ofParts (l : List (List UInt8)) : Ev := ⟨l.getD 0 [], l.getD 1 [], kindW (l.getD 2 []), l.getD 3 [], l.getD 4 [], ((getNum (l.getD 5 [])).1 : Nat)⟩
def partsB (l : List (List UInt8)) : Bool := decide (l.length = 6) && (decide ((getNum (l.getD 5 [])).2.2 = 0) && decide ((l.getD 5 []).length ≤ (getNum (l.getD 5 [])).2.1))
def parse (s : List UInt8) : Option Ev :=
  if (all s).2 = 0 && (partsB (all s).1 && checkB (ofParts (all s).1)) then some (ofParts (all s).1) else none

theorem parse_ok {s : List UInt8} {e : Ev} (h : parse s = some e) : Right e ∧ bytes e = s := by
  unfold parse at h
  split at h
  · rename_i hc
    simp only [Bool.and_eq_true, decide_eq_true_eq] at hc
    obtain ⟨h0, h1, h2⟩ := hc
    simp only [Option.some.injEq] at h
    have hr := check_iff.1 h2
    rw [h] at hr
    refine ⟨hr, ?_⟩
    obtain ⟨_, hl⟩ := all_ok (s := s) (l := (all s).1) (by rw [← h0])
    rw [← hl, bytes]
    congr 1
    simp only [partsB, Bool.and_eq_true, decide_eq_true_eq] at h1
    obtain ⟨h6, hn, hu⟩ := h1
    generalize (all s).1 = l at *
    match l, h6 with
    | [a, b, c, d, f, g], _ =>
      simp only [ofParts, List.getD_cons_zero, List.getD_cons_succ] at h hn hu
      subst h
      obtain ⟨_, _, u3, u4, _⟩ := getNum_ok (s := g) (n := (getNum g).1) (u := (getNum g).2.1) (by rw [← hn])
      have hw := word_kindW hr.kind
      simp only [parts, Int.toNat_natCast]
      rw [u4, List.take_of_length_le hu, hw]
  · cases h

theorem parse_bytes {e : Ev} (h : Right e) : parse (bytes e) = some e := by
  have ha := all_list h.fits
  have hn := getNum_num (n := e.nonce.toNat) (by have := h.nonce1; have := h.nonce0; unfold maxNum; omega) []
  rw [List.append_nil] at hn
  have ho : ofParts (parts e) = e := by
    have h0 := h.nonce0
    have hk := kindW_word h.kind
    cases e
    simp only [ofParts, parts, List.getD_cons_zero, List.getD_cons_succ] at hk hn ⊢
    rw [hn, hk]
    simp only [Ev.mk.injEq, true_and]
    simp only at h0
    omega
  have hp : partsB (parts e) = true := by
    simp only [partsB, parts, List.getD_cons_zero, List.getD_cons_succ, List.length_cons, List.length_nil]
    rw [hn]
    simp
  unfold parse
  rw [bytes, ha]
  simp only [decide_true, Bool.true_and, hp, ho, check_iff.2 h, if_true]

theorem bytes_inj {e f : Ev} (he : Right e) (hf : Right f) (h : bytes e = bytes f) : e = f := by
  have a := parse_bytes he
  rw [h, parse_bytes hf] at a
  simpa using a.symm

end Go.Proofs.YtfodloepkgkilaaDoor.EventS
