/-
  WHAT IS PROVED: plain laws of signatures that are made once, of trees of sums, and of keys: what is signed is recovered, and a leaf's path leads to the root. No program. Condition: what each theorem names.
-/
import Derived.Test.YtdmonfimdinkeaaGreatDoorPlain
namespace Go.Proofs.YtdmonfimdinkeaaGreatDoor.KeyS
open Go.Proofs.YtdmonfimdinkeaaGreatDoor.ShaS
set_option linter.unusedVariables false

/-! ### Signatures that are made once -/
def digs4 (n : Nat) : List Nat := [n % 4, n / 4 % 4, n / 16 % 4, n / 64 % 4]
def lackOf (l : List Nat) : Nat := (l.map fun d => 3 - d).sum
def digM (t : List UInt8) : List Nat := (mid t).flatMap fun x => digs4 x.toNat
/-- A text's digits. -/
def digits (t : List UInt8) : List Nat := digM t ++ digs4 (lackOf (digM t))
/-- So many steps on. -/
def on : Nat → List UInt8 → List UInt8
  | 0, x => x
  | n + 1, x => on n (mid (2 :: x))
def start (seed : List UInt8) (j : Nat) : List UInt8 := mid (3 :: UInt8.ofNat j :: seed)
def pubT (seed : List UInt8) (n : Nat) : List UInt8 := 4 :: (List.range n).flatMap fun j => on 3 (start seed j)
/-- A seed's sum. -/
def pub (seed : List UInt8) : List UInt8 := sum (pubT seed 68)
def signN (seed : List UInt8) (d : List Nat) (n : Nat) : List UInt8 := (List.range n).flatMap fun j => on (d.getD j 0) (start seed j)
def sign (seed text : List UInt8) : List UInt8 := signN seed (digits text) 68
def recT (sig : List UInt8) (d : List Nat) (n : Nat) : List UInt8 := 4 :: (List.range n).flatMap fun j => on (3 - d.getD j 0) ((sig.drop (16 * j)).take 16)
/-- What a signature comes to. -/
def recover (text sig : List UInt8) : List UInt8 := sum (recT sig (digits text) 68)

theorem on_add (m : Nat) : ∀ (n : Nat) (x : List UInt8), on (n + m) x = on m (on n x)
  | 0, x => by rw [Nat.zero_add]; rfl
  | n + 1, x => by rw [Nat.succ_add]; exact on_add m n _
theorem on_succ (n : Nat) (x : List UInt8) : on (n + 1) x = mid (2 :: on n x) := on_add 1 n x
theorem on_length {x : List UInt8} (h : x.length = 16) : ∀ n, (on n x).length = 16
  | 0 => h
  | n + 1 => by rw [on_succ]; exact mid_length _
theorem start_length (seed : List UInt8) (j : Nat) : (start seed j).length = 16 := mid_length _
theorem digs4_le (n : Nat) : ∀ d ∈ digs4 n, d ≤ 3 := by
  intro d hd
  simp only [digs4, List.mem_cons, List.not_mem_nil, or_false] at hd
  omega
theorem digM_length (t : List UInt8) : (digM t).length = 64 := by
  have : ∀ l : List UInt8, (l.flatMap fun x => digs4 x.toNat).length = 4 * l.length := by
    intro l
    induction l with
    | nil => rfl
    | cons x r ih => rw [List.flatMap_cons, List.length_append, ih, List.length_cons]; show 4 + _ = _; omega
  rw [digM, this, mid_length]
theorem digits_length (t : List UInt8) : (digits t).length = 68 := by
  rw [digits, List.length_append, digM_length]
  rfl
theorem digM_le (t : List UInt8) : ∀ d ∈ digM t, d ≤ 3 := by
  intro d hd
  obtain ⟨x, _, hx⟩ := List.mem_flatMap.1 hd
  exact digs4_le _ d hx
theorem digits_le (t : List UInt8) : ∀ d ∈ digits t, d ≤ 3 := by
  intro d hd
  rcases List.mem_append.1 hd with h | h
  · exact digM_le t d h
  · exact digs4_le _ d h
theorem getD_le {l : List Nat} (h : ∀ d ∈ l, d ≤ 3) (j : Nat) : l.getD j 0 ≤ 3 := by
  rw [List.getD_eq_getElem?_getD]
  cases hx : l[j]? with
  | none => exact Nat.zero_le _
  | some x => exact h x (List.mem_of_getElem? hx)
theorem lackOf_le : ∀ (l : List Nat), lackOf l ≤ 3 * l.length
  | [] => Nat.le_refl _
  | d :: r => by
    have := lackOf_le r
    simp only [lackOf, List.map_cons, List.sum_cons, List.length_cons] at this ⊢
    omega
theorem lackOf_snoc (l : List Nat) (d : Nat) : lackOf (l ++ [d]) = lackOf l + (3 - d) := by simp [lackOf]
theorem range_flat {f : Nat → List UInt8} (h : ∀ j, (f j).length = 16) : ∀ n, ((List.range n).flatMap f).length = 16 * n
  | 0 => rfl
  | n + 1 => by rw [List.range_succ, List.flatMap_append, List.length_append, range_flat h n]; simp [h]; omega
theorem signN_length (seed : List UInt8) (d : List Nat) (n : Nat) : (signN seed d n).length = 16 * n := range_flat (fun j => on_length (start_length seed j) _) n
theorem sign_length (seed text : List UInt8) : (sign seed text).length = 1088 := signN_length _ _ _
theorem pubT_length (seed : List UInt8) (n : Nat) : (pubT seed n).length = 16 * n + 1 := by
  rw [pubT, List.length_cons, range_flat (fun j => on_length (start_length seed j) 3)]
theorem recT_succ (sig : List UInt8) (d : List Nat) (n : Nat) : recT sig d (n + 1) = recT sig d n ++ on (3 - d.getD n 0) ((sig.drop (16 * n)).take 16) := by
  unfold recT
  rw [List.range_succ, List.flatMap_append, List.flatMap_singleton]
  rfl
theorem piece {f : Nat → List UInt8} (h : ∀ j, (f j).length = 16) : ∀ (n j : Nat), j < n → ((((List.range n).flatMap f).drop (16 * j)).take 16) = f j
  | 0, j, hj => by omega
  | n + 1, j, hj => by
    rw [List.range_succ, List.flatMap_append, List.flatMap_singleton]
    have hl := range_flat h n
    by_cases hx : j < n
    · rw [List.drop_append_of_le_length (by omega), List.take_append_of_le_length (by rw [List.length_drop]; omega)]
      exact piece h n j hx
    · obtain rfl : j = n := by omega
      rw [← hl, List.drop_left, List.take_of_length_le (by rw [h]; omega)]
theorem flat_same (f g : Nat → List UInt8) : ∀ l : List Nat, (∀ j ∈ l, f j = g j) → l.flatMap f = l.flatMap g
  | [], _ => rfl
  | x :: r, h => by rw [List.flatMap_cons, List.flatMap_cons, h x (by simp), flat_same f g r (fun j hj => h j (by simp [hj]))]
/-- What is signed is recovered. -/
theorem recover_sign (seed text : List UInt8) : recover text (sign seed text) = pub seed := by
  have h : recT (sign seed text) (digits text) 68 = pubT seed 68 := by
    unfold recT pubT sign signN
    refine congrArg (List.cons 4) (flat_same _ _ _ (fun j hj => ?_))
    rw [piece (fun k => on_length (start_length seed k) _) 68 j (by simpa using hj), ← on_add]
    have := getD_le (digits_le text) j
    rw [show (digits text).getD j 0 + (3 - (digits text).getD j 0) = 3 by omega]
  unfold recover pub
  rw [h]

/-! ### Trees -/
abbrev Hs := List (List UInt8)
def above (l r : List UInt8) : List UInt8 := sum (1 :: (l ++ r))
def up : Hs → Hs
  | a :: b :: r => above a b :: up r
  | _ => []
def root : Nat → Hs → List UInt8
  | 0, l => l.headD []
  | h + 1, l => root h (up l)
def sib (i : Nat) : Nat := if i % 2 = 0 then i + 1 else i - 1
def path : Nat → Hs → Nat → Hs
  | 0, _, _ => []
  | h + 1, l, i => l.getD (sib i) [] :: path h (up l) (i / 2)
def climb : List UInt8 → Nat → Hs → List UInt8
  | x, _, [] => x
  | x, i, p :: r => climb (if i % 2 = 0 then above x p else above p x) (i / 2) r
theorem up_length : ∀ (n : Nat) (l : Hs), l.length = 2 * n → (up l).length = n
  | 0, l, h => by
    match l, h with
    | [], _ => rfl
  | n + 1, l, h => by
    match l, h with
    | a :: b :: r, h => rw [up, List.length_cons, up_length n r (by simp at h; omega)]
    | [_], h => simp at h; omega
    | [], h => simp at h
theorem up_get : ∀ (n : Nat) (l : Hs) (i : Nat), l.length = 2 * n → i < n → (up l).getD i [] = above (l.getD (2 * i) []) (l.getD (2 * i + 1) [])
  | 0, l, i, h, hi => by omega
  | n + 1, l, i, h, hi => by
    match l, h with
    | a :: b :: r, h =>
      rw [up]
      cases i with
      | zero => rfl
      | succ i =>
        have := up_get n r i (by simp at h; omega) (by omega)
        rw [show 2 * (i + 1) = 2 * i + 1 + 1 by omega]
        simpa using this
    | [_], h => simp at h; omega
    | [], h => simp at h
/-- A leaf's path leads to the root. -/
theorem climb_path : ∀ (h : Nat) (l : Hs) (i : Nat), l.length = 2 ^ h → i < 2 ^ h → climb (l.getD i []) i (path h l i) = root h l
  | 0, l, i, hl, hi => by
    obtain rfl : i = 0 := by simp at hi; exact hi
    match l, hl with
    | [x], _ => rfl
  | h + 1, l, i, hl, hi => by
    rw [Nat.pow_succ] at hl hi
    have hu := up_length (2 ^ h) l (by omega)
    have hg := up_get (2 ^ h) l (i / 2) (by omega) (by omega)
    rw [path, climb, root, ← climb_path h (up l) (i / 2) hu (by omega), hg]
    congr 1
    unfold sib
    by_cases h2 : i % 2 = 0
    · rw [if_pos h2, if_pos h2, show 2 * (i / 2) = i by omega]
    · rw [if_neg h2, if_neg h2, show 2 * (i / 2) + 1 = i by omega, show 2 * (i / 2) = i - 1 by omega]
theorem above_length (l r : List UInt8) : (above l r).length = 32 := sum_length _
theorem path_length : ∀ (h : Nat) (l : Hs) (i : Nat), (path h l i).length = h
  | 0, _, _ => rfl
  | h + 1, l, i => by rw [path, List.length_cons, path_length h]
theorem up_32 : ∀ (l : Hs), ∀ x ∈ up l, x.length = 32
  | a :: b :: r, x, hx => by
    rw [up] at hx
    rcases List.mem_cons.1 hx with rfl | h
    · exact above_length _ _
    · exact up_32 r x h
  | [], x, hx => by cases hx
  | [_], x, hx => by cases hx

/-! ### Keys -/
def placeSeed (seed : List UInt8) (i : Nat) : List UInt8 := mid (5 :: UInt8.ofNat i :: seed)
def leavesN (seed : List UInt8) (n : Nat) : Hs := (List.range n).map fun i => pub (placeSeed seed i)
def rootOf (seed : List UInt8) (h : Nat) : List UInt8 := root h (leavesN seed (2 ^ h))
def sigOf (seed : List UInt8) (h i : Nat) (text : List UInt8) : List UInt8 := UInt8.ofNat i :: (sign (placeSeed seed i) text ++ (path h (leavesN seed (2 ^ h)) i).flatten)
/-- The texts of 32 bytes that a text is. -/
def parts : Nat → List UInt8 → Hs
  | 0, _ => []
  | n + 1, s => s.take 32 :: parts n (s.drop 32)
def climbOf (h : Nat) (text sig : List UInt8) : List UInt8 := climb (recover text ((sig.drop 1).take 1088)) (sig.headD 0).toNat (parts h (sig.drop 1089))
def sigB (h : Nat) (sig : List UInt8) : Bool := decide (sig.length = 1089 + 32 * h) && decide ((sig.headD 0).toNat < 2 ^ h)
def verify (rt : List UInt8) (h : Nat) (text sig : List UInt8) : Int := if sigB h sig = true then (if climbOf h text sig = rt then 0 else 9) else 2
theorem leavesN_length (seed : List UInt8) (n : Nat) : (leavesN seed n).length = n := by simp [leavesN]
theorem leavesN_get (seed : List UInt8) {n i : Nat} (h : i < n) : (leavesN seed n).getD i [] = pub (placeSeed seed i) := by
  unfold leavesN
  rw [List.getD_eq_getElem?_getD, List.getElem?_map, List.getElem?_range h, Option.map_some, Option.getD_some]
theorem leavesN_32 (seed : List UInt8) (n : Nat) : ∀ x ∈ leavesN seed n, x.length = 32 := by
  intro x hx
  simp only [leavesN, List.mem_map] at hx
  obtain ⟨i, _, rfl⟩ := hx
  exact sum_length _
theorem flatten_32 : ∀ (l : Hs), (∀ x ∈ l, x.length = 32) → l.flatten.length = 32 * l.length
  | [], _ => rfl
  | x :: r, h => by
    have h1 := h x (by simp)
    have h2 := flatten_32 r (fun y hy => h y (by simp [hy]))
    rw [List.flatten_cons, List.length_append, h1, h2, List.length_cons]
    omega
theorem parts_flatten : ∀ (l : Hs), (∀ x ∈ l, x.length = 32) → parts l.length l.flatten = l
  | [], _ => rfl
  | x :: r, h => by
    have h1 := h x (by simp)
    have h2 := parts_flatten r (fun y hy => h y (by simp [hy]))
    rw [List.length_cons, parts, List.flatten_cons]
    rw [List.take_append_of_le_length (by omega), List.take_of_length_le (by omega), ← h1, List.drop_left, h2]
theorem path_32 : ∀ (h : Nat) (l : Hs) (i : Nat), l.length = 2 ^ h → (∀ x ∈ l, x.length = 32) → i < 2 ^ h → ∀ x ∈ path h l i, x.length = 32
  | 0, _, _, _, _, _, x, hx => by cases hx
  | h + 1, l, i, hl, h3, hi, x, hx => by
    rw [path] at hx
    rw [Nat.pow_succ] at hl hi
    rcases List.mem_cons.1 hx with rfl | hx
    · have hs : sib i < l.length := by unfold sib; split <;> omega
      rw [List.getD_eq_getElem?_getD, List.getElem?_eq_getElem hs, Option.getD_some]
      exact h3 _ (List.getElem_mem hs)
    · exact path_32 h (up l) (i / 2) (up_length (2 ^ h) l (by omega)) (up_32 l) (by omega) x hx
theorem sigOf_length {seed : List UInt8} {h i : Nat} (hi : i < 2 ^ h) (text : List UInt8) : (sigOf seed h i text).length = 1089 + 32 * h := by
  unfold sigOf
  rw [List.length_cons, List.length_append, sign_length, flatten_32 _ (path_32 h _ i (leavesN_length _ _) (leavesN_32 _ _) hi), path_length]
  omega
theorem sigOf_head {h i : Nat} (hi : i < 2 ^ h) (hh : h ≤ 7) (seed text : List UInt8) : ((sigOf seed h i text).headD 0).toNat = i := by
  have : 2 ^ h ≤ 2 ^ 7 := Nat.pow_le_pow_right (by omega) hh
  show (UInt8.ofNat i).toNat = i
  rw [UInt8.toNat_ofNat']
  omega
/-- What a signature of one place leads to, with whatever text: what is recovered of it, up. -/
theorem climbOf_sig {h i : Nat} (hi : i < 2 ^ h) (hh : h ≤ 7) (seed text other : List UInt8) : climbOf h other (sigOf seed h i text) = climb (recover other (sign (placeSeed seed i) text)) i (path h (leavesN seed (2 ^ h)) i) := by
  have h32 := path_32 h _ i (leavesN_length seed _) (leavesN_32 seed _) hi
  have hp := parts_flatten _ h32
  rw [path_length] at hp
  unfold climbOf
  rw [sigOf_head hi hh]
  have e1 : ((sigOf seed h i text).drop 1).take 1088 = sign (placeSeed seed i) text := by
    unfold sigOf
    rw [List.drop_one, List.tail_cons, List.take_append_of_le_length (by rw [sign_length]; omega), List.take_of_length_le (by rw [sign_length]; omega)]
  have e2 : (sigOf seed h i text).drop 1089 = (path h (leavesN seed (2 ^ h)) i).flatten := by
    unfold sigOf
    rw [List.drop_succ_cons, show 1088 = (sign (placeSeed seed i) text).length from (sign_length _ _).symm, List.drop_left]
  rw [e1, e2, hp]
theorem verify_sig {h i : Nat} (hi : i < 2 ^ h) (hh : h ≤ 7) (seed text : List UInt8) : verify (rootOf seed h) h text (sigOf seed h i text) = 0 := by
  have hb : sigB h (sigOf seed h i text) = true := by
    unfold sigB
    rw [sigOf_length hi, sigOf_head hi hh, decide_eq_true rfl, decide_eq_true hi]
    rfl
  unfold verify
  rw [if_pos hb, climbOf_sig hi hh, recover_sign, if_pos]
  rw [← leavesN_get seed hi]
  exact climb_path h _ i (leavesN_length _ _) hi

end Go.Proofs.YtdmonfimdinkeaaGreatDoor.KeyS
