/-
  WHAT IS PROVED: plain laws of identifiers and their texts: a text is of one identifier at most. No program, no condition beside those that each theorem names.
-/
import Derived.WalkKit
namespace Go.Proofs.YtfodloepkgkilaaDoor.IdentS

def letterB (c : UInt8) : Bool := decide (97 ≤ c.toNat ∧ c.toNat ≤ 122) || decide (48 ≤ c.toNat ∧ c.toNat ≤ 57) || decide (c.toNat = 95) || decide (c.toNat = 45)
def nameB (l : List UInt8) : Bool := l.all letterB && (!l.isEmpty && decide (l.length ≤ 16))

/-- An identifier. -/
structure Idn where
  kind : Int
  name : List UInt8
  server : Int

def digits (n : Nat) : List UInt8 := if n < 10 then [UInt8.ofNat (48 + n)] else [UInt8.ofNat (48 + n / 10), UInt8.ofNat (48 + n % 10)]
def sign (k : Int) : UInt8 := if k = 2 then 33 else 64
def okB (x : Idn) : Bool := (decide (x.kind = 1) || decide (x.kind = 2)) && (nameB x.name && (decide (0 ≤ x.server) && decide (x.server ≤ 63)))
def textOf (x : Idn) : List UInt8 := sign x.kind :: (x.name ++ 58 :: digits x.server.toNat)

/-- The text is that of the identifier. -/
def Has (x : Idn) (s : List UInt8) : Prop := okB x = true ∧ s = textOf x

theorem ok_spec {x : Idn} (h : okB x = true) : (x.kind = 1 ∨ x.kind = 2) ∧ nameB x.name = true ∧ 0 ≤ x.server ∧ x.server ≤ 63 := by
  simp only [okB, Bool.and_eq_true, Bool.or_eq_true, decide_eq_true_eq] at h
  exact ⟨h.1, h.2.1, h.2.2.1, h.2.2.2⟩

theorem letter_ne {c : UInt8} (h : letterB c = true) : c ≠ 58 := by
  intro e
  subst e
  revert h
  decide

theorem name_spec {l : List UInt8} (h : nameB l = true) : (∀ c ∈ l, letterB c = true) ∧ l ≠ [] ∧ l.length ≤ 16 := by
  simp only [nameB, Bool.and_eq_true, List.all_eq_true, Bool.not_eq_true', decide_eq_true_eq] at h
  refine ⟨h.1, ?_, h.2.2⟩
  intro e
  rw [e] at h
  simp at h

/-- Ahead of the first colon there is the name, behind it are the digits. -/
theorem split_colon {a b c d : List UInt8} (ha : ∀ x ∈ a, x ≠ 58) (hb : ∀ x ∈ b, x ≠ 58) (h : a ++ 58 :: c = b ++ 58 :: d) : a = b ∧ c = d := by
  induction a generalizing b with
  | nil =>
    cases b with
    | nil => simpa using h
    | cons y b => simp at h; exact absurd h.1.symm (hb y (List.mem_cons_self ..))
  | cons x a ih =>
    cases b with
    | nil => simp at h; exact absurd h.1 (ha x (List.mem_cons_self ..))
    | cons y b =>
      simp only [List.cons_append, List.cons.injEq] at h
      obtain ⟨h1, h2⟩ := ih (fun z hz => ha z (List.mem_cons_of_mem _ hz)) (fun z hz => hb z (List.mem_cons_of_mem _ hz)) h.2
      exact ⟨by rw [h.1, h1], h2⟩

theorem digits_inj : ∀ n m : Fin 64, digits n.val = digits m.val → n = m := by decide

theorem has_unique {x y : Idn} {s : List UInt8} (hx : Has x s) (hy : Has y s) : x = y := by
  obtain ⟨ox, rfl⟩ := hx
  obtain ⟨oy, h⟩ := hy
  obtain ⟨kx, nx, sx0, sx1⟩ := ok_spec ox
  obtain ⟨ky, ny, sy0, sy1⟩ := ok_spec oy
  obtain ⟨xk, xn, xs⟩ := x
  obtain ⟨yk, yn, ys⟩ := y
  simp only at *
  simp only [textOf, List.cons.injEq] at h
  obtain ⟨h1, h2⟩ := h
  have hk : xk = yk := by
    unfold sign at h1
    rcases kx with rfl | rfl <;> rcases ky with rfl | rfl <;> first | rfl | (exfalso; revert h1; decide)
  obtain ⟨hn, hd⟩ := split_colon (fun c hc => letter_ne ((name_spec nx).1 c hc)) (fun c hc => letter_ne ((name_spec ny).1 c hc)) h2
  have := digits_inj ⟨xs.toNat, by omega⟩ ⟨ys.toNat, by omega⟩ hd
  simp only [Fin.mk.injEq] at this
  rw [hk, hn, show xs = ys by omega]



/-- What digits come to. -/
def numOf (l : List UInt8) : Nat := l.foldl (fun n c => 10 * n + (c.toNat - 48)) 0
def kindOf : List UInt8 → Int
  | 64 :: _ => 1
  | 33 :: _ => 2
  | _ => 0
/-- The identifier that a text is of, were it one's. -/
def guess (s : List UInt8) : Idn := ⟨kindOf s, (s.drop 1).takeWhile (fun c => decide (c ≠ 58)), numOf (((s.drop 1).dropWhile (fun c => decide (c ≠ 58))).drop 1)⟩
def parse (s : List UInt8) : Option Idn := if okB (guess s) && decide (s = textOf (guess s)) then some (guess s) else none

theorem numOf_digits : ∀ n : Fin 64, numOf (digits n.val) = n.val := by decide

theorem guess_of {x : Idn} {s : List UInt8} (h : Has x s) : guess s = x := by
  obtain ⟨ox, rfl⟩ := h
  obtain ⟨kx, nx, sx0, sx1⟩ := ok_spec ox
  have hne : ∀ c ∈ x.name, (fun c : UInt8 => decide (c ≠ 58)) c = true := fun c hc => by simpa using letter_ne ((name_spec nx).1 c hc)
  have h1 : (x.name ++ 58 :: digits x.server.toNat).takeWhile (fun c => decide (c ≠ 58)) = x.name := by
    rw [List.takeWhile_append_of_pos hne]
    simp
  have h2 : (x.name ++ 58 :: digits x.server.toNat).dropWhile (fun c => decide (c ≠ 58)) = 58 :: digits x.server.toNat := by
    rw [List.dropWhile_append_of_pos hne]
    simp
  have h3 := numOf_digits ⟨x.server.toNat, by omega⟩
  simp only at h3
  unfold guess textOf
  rw [List.drop_succ_cons, List.drop_zero, h1, h2, List.drop_succ_cons, List.drop_zero, h3]
  have hk : kindOf (sign x.kind :: (x.name ++ 58 :: digits x.server.toNat)) = x.kind := by
    rcases kx with h | h <;> rw [h] <;> simp [sign, kindOf]
  rw [hk]
  cases x
  simp only [Idn.mk.injEq, true_and]
  simp only at sx0
  omega

theorem parse_iff {x : Idn} {s : List UInt8} : parse s = some x ↔ Has x s := by
  unfold parse
  constructor
  · intro h
    split at h
    · rename_i hc
      simp only [Bool.and_eq_true, decide_eq_true_eq] at hc
      simp only [Option.some.injEq] at h
      subst h
      exact hc
    · cases h
  · intro h
    rw [guess_of h, if_pos]
    simp only [Bool.and_eq_true, decide_eq_true_eq]
    exact h
theorem parse_text {x : Idn} (h : okB x = true) : parse (textOf x) = some x := parse_iff.2 ⟨h, rfl⟩
theorem parse_none {s : List UInt8} (h : parse s = none) (x : Idn) : ¬ Has x s := fun hx => by rw [parse_iff.2 hx] at h; cases h

/-- The server of a text of a kind. -/
def serverOf (k : Int) (s : List UInt8) : Option Int := (parse s).bind fun x => if x.kind = k then some x.server else none
def userB (s : List UInt8) : Bool := (serverOf 1 s).isSome
def roomB (s : List UInt8) : Bool := (serverOf 2 s).isSome

theorem text_length {x : Idn} (h : okB x = true) : (textOf x).length ≤ 20 := by
  obtain ⟨_, nx, _, _⟩ := ok_spec h
  have := (name_spec nx).2.2
  have hd : ∀ n, (digits n).length ≤ 2 := by intro n; unfold digits; split <;> simp
  have := hd x.server.toNat
  simp only [textOf, List.length_cons, List.length_append]
  omega
theorem parse_length {s : List UInt8} {x : Idn} (h : parse s = some x) : s.length ≤ 20 := by
  obtain ⟨h1, rfl⟩ := parse_iff.1 h
  exact text_length h1
theorem user_length {s : List UInt8} (h : userB s = true) : s.length ≤ 20 := by
  unfold userB serverOf at h
  cases hp : parse s with
  | none => rw [hp] at h; simp at h
  | some x => exact parse_length hp
theorem room_length {s : List UInt8} (h : roomB s = true) : s.length ≤ 20 := by
  unfold roomB serverOf at h
  cases hp : parse s with
  | none => rw [hp] at h; simp at h
  | some x => exact parse_length hp

end Go.Proofs.YtfodloepkgkilaaDoor.IdentS
