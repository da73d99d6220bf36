/-
  WHAT IS PROVED: contracts and plain laws. Condition: each names its own.
-/
import Derived.Test.YtceiajepcokacaaGreatDoorS0
import Derived.Test.YtceiajepcokacaaGreatDoorZHF05
import Derived.TacticsIn
set_option linter.unusedVariables false
set_option linter.unusedSimpArgs false
set_option maxRecDepth 100000
set_option maxHeartbeats 4000000
namespace Go.Proofs.YtceiajepcokacaaGreatDoor
open Go.Proofs.Tryz
namespace EventP
open Go Go.RowKit IdentS EventS OctP IdentP IdentQ IdentR
def RB (v : Value) (w : World) (e : Ending) (w' : World) : Prop := e = .returned v ∧ Below w.heap.size w w'
theorem IA (w0 : World) (s : ByteArray) (hs : s.size ≤ 140737488351232) : ∃ n : Int, ∀ w, Am w → Calls Tryz.prog 63 #[.string s] w (RB (.tuple #[.int .i64 n, .bool (DF (bl s))]) w) := by
 unfold DF
 cases h : BZ 2 (bl s) with
 | none => exact ⟨0, fun w hv => by have := Ic w s hv hs; unfold Ef at this; rw [h] at this; exact this⟩
 | some n => exact ⟨n, fun w hv => by have := Ic w s hv hs; unfold Ef at this; rw [h] at this; exact this⟩
end EventP
namespace EventC
open Go Go.RowKit IdentS EventS OctP IdentP IdentQ IdentR EventP
def CW (b : Bool) : Int := if b then 0 else 2
end EventC
namespace EventB
open Go Go.RowKit OctetS IdentS EventS OctP OctQ IdentP EventP EventC
theorem EW {w : World} {b n : Nat} {cs : Array Value} {t : TypeId} (h : w.heap[b]? = some (.cells cs t (0, 0))) (hn : n = cs.size) (hm : n ≤ maxLen) : Sl w (.slice (some ⟨b, 0, none⟩) n n) 1 n cs.toList := by
 subst hn
 refine ⟨by simp, .inr ⟨⟨b, 0, none⟩, cs.size, rfl, Nat.le_refl _, hm, fun j u hu => ?_⟩⟩
 rw [show (Addr.add ⟨b, 0, none⟩ j : Addr) = ⟨b, j, none⟩ by unfold Addr.add; cases j <;> simp]
 rw [AO h]
 simpa using hu
def bytesOf (x : Ev) : List UInt8 := if BD x then EventS.bytes x else []
end EventB
namespace KeyS
open ShaS
/-! ### Signatures that are made once -/
def CR (n : Nat) : List Nat := [n % 4, n / 4 % 4, n / 16 % 4, n / 64 % 4]
def De (l : List Nat) : Nat := (l.map fun d => 3 - d).sum
def digM (t : List UInt8) : List Nat := (mid t).flatMap fun x => CR x.toNat
def digits (t : List UInt8) : List Nat := digM t ++ CR (De (digM t))
def on : Nat → List UInt8 → List UInt8
 | 0, x => x
 | n + 1, x => on n (mid (2 :: x))
def start (seed : List UInt8) (j : Nat) : List UInt8 := mid (3 :: UInt8.ofNat j :: seed)
def PW (seed : List UInt8) (n : Nat) : List UInt8 := 4 :: (List.range n).flatMap fun j => on 3 (start seed j)
def QX (seed : List UInt8) : List UInt8 := sum (PW seed 68)
def Nh (seed : List UInt8) (d : List Nat) (n : Nat) : List UInt8 := (List.range n).flatMap fun j => on (d.getD j 0) (start seed j)
def sign (seed text : List UInt8) : List UInt8 := Nh seed (digits text) 68
def recT (sig : List UInt8) (d : List Nat) (n : Nat) : List UInt8 := 4 :: (List.range n).flatMap fun j => on (3 - d.getD j 0) ((sig.drop (16 * j)).take 16)
def recover (text sig : List UInt8) : List UInt8 := sum (recT sig (digits text) 68)
theorem Qb (m : Nat) : ∀ (n : Nat) (x : List UInt8), on (n + m) x = on m (on n x)
 | 0, x => by rw [Nat.zero_add]; rfl
 | n + 1, x => by rw [Nat.succ_add]; exact Qb m n _
theorem U0 (n : Nat) (x : List UInt8) : on (n + 1) x = mid (2 :: on n x) := Qb 1 n x
theorem DD {x : List UInt8} (h : x.length = 16) : ∀ n, (on n x).length = 16
 | 0 => h
 | n + 1 => by rw [U0]; exact Cx _
theorem EN (seed : List UInt8) (j : Nat) : (start seed j).length = 16 := Cx _
theorem QA (n : Nat) : ∀ d ∈ CR n, d ≤ 3 := by
 intro d hd
 simp only [CR, List.mem_cons, List.not_mem_nil, or_false] at hd
 omega
theorem F3 (t : List UInt8) : (digM t).length = 64 := by
 have : ∀ l : List UInt8, (l.flatMap fun x => CR x.toNat).length = 4 * l.length := by
  intro l
  induction l with
  | nil => rfl
  | cons x r ih => rw [List.flatMap_cons, List.length_append, ih, List.length_cons]; show 4 + _ = _; omega
 rw [digM, this, Cx]
theorem digits_length (t : List UInt8) : (digits t).length = 68 := by
 rw [digits, List.length_append, F3]
 rfl
theorem digM_le (t : List UInt8) : ∀ d ∈ digM t, d ≤ 3 := by
 intro d hd
 obtain ⟨x, _, hx⟩ := List.mem_flatMap.1 hd
 exact QA _ d hx
theorem GM (t : List UInt8) : ∀ d ∈ digits t, d ≤ 3 := by
 intro d hd
 rcases List.mem_append.1 hd with h | h
 ·exact digM_le t d h
 ·exact QA _ d h
theorem VN {l : List Nat} (h : ∀ d ∈ l, d ≤ 3) (j : Nat) : l.getD j 0 ≤ 3 := by
 rw [List.getD_eq_getElem?_getD]
 cases hx : l[j]? with
 | none => exact Nat.zero_le _
 | some x => exact h x (List.mem_of_getElem? hx)
theorem lackOf_le : ∀ (l : List Nat), De l ≤ 3 * l.length
 | [] => Nat.le_refl _
 | d :: r => by
   have := lackOf_le r
   simp only [De, List.map_cons, List.sum_cons, List.length_cons] at this ⊢
   omega
theorem Pt (l : List Nat) (d : Nat) : De (l ++ [d]) = De l + (3 - d) := by simp [De]
theorem FJ {f : Nat → List UInt8} (h : ∀ j, (f j).length = 16) : ∀ n, ((List.range n).flatMap f).length = 16 * n
 | 0 => rfl
 | n + 1 => by rw [List.range_succ, List.flatMap_append, List.length_append, FJ h n]; simp [h]; omega
theorem G7 (seed : List UInt8) (d : List Nat) (n : Nat) : (Nh seed d n).length = 16 * n := FJ (fun j => DD (EN seed j) _) n
theorem EF (seed text : List UInt8) : (sign seed text).length = 1088 := G7 _ _ _
theorem PV (seed : List UInt8) (n : Nat) : (PW seed n).length = 16 * n + 1 := by
 rw [PW, List.length_cons, FJ (fun j => DD (EN seed j) 3)]
theorem recT_succ (sig : List UInt8) (d : List Nat) (n : Nat) : recT sig d (n + 1) = recT sig d n ++ on (3 - d.getD n 0) ((sig.drop (16 * n)).take 16) := by
 unfold recT
 rw [List.range_succ, List.flatMap_append, List.flatMap_singleton]
 rfl
theorem piece {f : Nat → List UInt8} (h : ∀ j, (f j).length = 16) : ∀ (n j : Nat), j < n → ((((List.range n).flatMap f).drop (16 * j)).take 16) = f j
 | 0, j, hj => by omega
 | n + 1, j, hj => by
   rw [List.range_succ, List.flatMap_append, List.flatMap_singleton]
   have hl := FJ h n
   by_cases hx : j < n
   ·rw [List.drop_append_of_le_length (by omega), List.take_append_of_le_length (by rw [List.length_drop]; omega)]
    exact piece h n j hx
   ·obtain rfl : j = n := by omega
    rw [← hl, List.drop_left, List.take_of_length_le (by rw [h]; omega)]
theorem NL (f g : Nat → List UInt8) : ∀ l : List Nat, (∀ j ∈ l, f j = g j) → l.flatMap f = l.flatMap g
 | [], _ => rfl
 | x :: r, h => by rw [List.flatMap_cons, List.flatMap_cons, h x (by simp), NL f g r (fun j hj => h j (by simp [hj]))]
theorem Ov (seed text : List UInt8) : recover text (sign seed text) = QX seed := by
 have h : recT (sign seed text) (digits text) 68 = PW seed 68 := by
  unfold recT PW sign Nh
  refine congrArg (List.cons 4) (NL _ _ _ (fun j hj => ?_))
  rw [piece (fun k => DD (EN seed k) _) 68 j (by simpa using hj), ← Qb]
  have := VN (GM text) j
  rw [show (digits text).getD j 0 + (3 - (digits text).getD j 0) = 3 by omega]
 unfold recover QX
 rw [h]
/-! ### Trees -/
abbrev Hs := List (List UInt8)
def above (l r : List UInt8) : List UInt8 := sum (1 :: (l ++ r))
def up : Hs → Hs
 | a :: b :: r => above a b :: up r
 | _ => []
def root : Nat → Hs → List UInt8
 | 0, l => l.headD []
 | h + 1, l => root h (up l)
def Re (i : Nat) : Nat := if i % 2 = 0 then i + 1 else i - 1
def path : Nat → Hs → Nat → Hs
 | 0, _, _ => []
 | h + 1, l, i => l.getD (Re i) [] :: path h (up l) (i / 2)
def climb : List UInt8 → Nat → Hs → List UInt8
 | x, _, [] => x
 | x, i, p :: r => climb (if i % 2 = 0 then above x p else above p x) (i / 2) r
theorem GD : ∀ (n : Nat) (l : Hs), l.length = 2 * n → (up l).length = n
 | 0, l, h => by
   match l, h with
   | [], _ => rfl
 | n + 1, l, h => by
   match l, h with
   | a :: b :: r, h => rw [up, List.length_cons, GD n r (by simp at h; omega)]
   | [_], h => simp at h; omega
   | [], h => simp at h
theorem QN : ∀ (n : Nat) (l : Hs) (i : Nat), l.length = 2 * n → i < n → (up l).getD i [] = above (l.getD (2 * i) []) (l.getD (2 * i + 1) [])
 | 0, l, i, h, hi => by omega
 | n + 1, l, i, h, hi => by
   match l, h with
   | a :: b :: r, h =>
     rw [up]
     cases i with
     | zero => rfl
     | succ i =>
       have := QN n r i (by simp at h; omega) (by omega)
       rw [show 2 * (i + 1) = 2 * i + 1 + 1 by omega]
       simpa using this
   | [_], h => simp at h; omega
   | [], h => simp at h
theorem N9 : ∀ (h : Nat) (l : Hs) (i : Nat), l.length = 2 ^ h → i < 2 ^ h → climb (l.getD i []) i (path h l i) = root h l
 | 0, l, i, hl, hi => by
   obtain rfl : i = 0 := by simp at hi; exact hi
   match l, hl with
   | [x], _ => rfl
 | h + 1, l, i, hl, hi => by
   rw [Nat.pow_succ] at hl hi
   have hu := GD (2 ^ h) l (by omega)
   have hg := QN (2 ^ h) l (i / 2) (by omega) (by omega)
   rw [path, climb, root, ← N9 h (up l) (i / 2) hu (by omega), hg]
   congr 1
   unfold Re
   by_cases h2 : i % 2 = 0
   ·rw [if_pos h2, if_pos h2, show 2 * (i / 2) = i by omega]
   ·rw [if_neg h2, if_neg h2, show 2 * (i / 2) + 1 = i by omega, show 2 * (i / 2) = i - 1 by omega]
theorem Ia (l r : List UInt8) : (above l r).length = 32 := Bb _
theorem Fs : ∀ (h : Nat) (l : Hs) (i : Nat), (path h l i).length = h
 | 0, _, _ => rfl
 | h + 1, l, i => by rw [path, List.length_cons, Fs h]
theorem Vt : ∀ (l : Hs), ∀ x ∈ up l, x.length = 32
 | a :: b :: r, x, hx => by
   rw [up] at hx
   rcases List.mem_cons.1 hx with rfl | h
   ·exact Ia _ _
   ·exact Vt r x h
 | [], x, hx => by cases hx
 | [_], x, hx => by cases hx
/-! ### Keys -/
def Az (seed : List UInt8) (i : Nat) : List UInt8 := mid (5 :: UInt8.ofNat i :: seed)
def Db (seed : List UInt8) (n : Nat) : Hs := (List.range n).map fun i => QX (Az seed i)
def rootOf (seed : List UInt8) (h : Nat) : List UInt8 := root h (Db seed (2 ^ h))
def Dq (seed : List UInt8) (h i : Nat) (text : List UInt8) : List UInt8 := UInt8.ofNat i :: (sign (Az seed i) text ++ (path h (Db seed (2 ^ h)) i).flatten)
def parts : Nat → List UInt8 → Hs
 | 0, _ => []
 | n + 1, s => s.take 32 :: parts n (s.drop 32)
def FR (h : Nat) (text sig : List UInt8) : List UInt8 := climb (recover text ((sig.drop 1).take 1088)) (sig.headD 0).toNat (parts h (sig.drop 1089))
def sigB (h : Nat) (sig : List UInt8) : Bool := decide (sig.length = 1089 + 32 * h) && decide ((sig.headD 0).toNat < 2 ^ h)
def verify (rt : List UInt8) (h : Nat) (text sig : List UInt8) : Int := if sigB h sig = true then (if FR h text sig = rt then 0 else 9) else 2
theorem Ea (seed : List UInt8) (n : Nat) : (Db seed n).length = n := by simp [Db]
theorem Pq (seed : List UInt8) {n i : Nat} (h : i < n) : (Db seed n).getD i [] = QX (Az seed i) := by
 unfold Db
 rw [List.getD_eq_getElem?_getD, List.getElem?_map, List.getElem?_range h, Option.map_some, Option.getD_some]
theorem Nk (seed : List UInt8) (n : Nat) : ∀ x ∈ Db seed n, x.length = 32 := by
 intro x hx
 simp only [Db, List.mem_map] at hx
 obtain ⟨i, _, rfl⟩ := hx
 exact Bb _
theorem Nv : ∀ (l : Hs), (∀ x ∈ l, x.length = 32) → l.flatten.length = 32 * l.length
 | [], _ => rfl
 | x :: r, h => by
   have h1 := h x (by simp)
   have h2 := Nv r (fun y hy => h y (by simp [hy]))
   rw [List.flatten_cons, List.length_append, h1, h2, List.length_cons]
   omega
theorem GY : ∀ (l : Hs), (∀ x ∈ l, x.length = 32) → parts l.length l.flatten = l
 | [], _ => rfl
 | x :: r, h => by
   have h1 := h x (by simp)
   have h2 := GY r (fun y hy => h y (by simp [hy]))
   rw [List.length_cons, parts, List.flatten_cons]
   rw [List.take_append_of_le_length (by omega), List.take_of_length_le (by omega), ← h1, List.drop_left, h2]
theorem Ox : ∀ (h : Nat) (l : Hs) (i : Nat), l.length = 2 ^ h → (∀ x ∈ l, x.length = 32) → i < 2 ^ h → ∀ x ∈ path h l i, x.length = 32
 | 0, _, _, _, _, _, x, hx => by cases hx
 | h + 1, l, i, hl, h3, hi, x, hx => by
   rw [path] at hx
   rw [Nat.pow_succ] at hl hi
   rcases List.mem_cons.1 hx with rfl | hx
   ·have hs : Re i < l.length := by unfold Re; split <;> omega
    rw [List.getD_eq_getElem?_getD, List.getElem?_eq_getElem hs, Option.getD_some]
    exact h3 _ (List.getElem_mem hs)
   ·exact Ox h (up l) (i / 2) (GD (2 ^ h) l (by omega)) (Vt l) (by omega) x hx
theorem FE {seed : List UInt8} {h i : Nat} (hi : i < 2 ^ h) (text : List UInt8) : (Dq seed h i text).length = 1089 + 32 * h := by
 unfold Dq
 rw [List.length_cons, List.length_append, EF, Nv _ (Ox h _ i (Ea _ _) (Nk _ _) hi), Fs]
 omega
theorem Ni {h i : Nat} (hi : i < 2 ^ h) (hh : h ≤ 7) (seed text : List UInt8) : ((Dq seed h i text).headD 0).toNat = i := by
 have : 2 ^ h ≤ 2 ^ 7 := Nat.pow_le_pow_right (by omega) hh
 show (UInt8.ofNat i).toNat = i
 rw [UInt8.toNat_ofNat']
 omega
theorem QB {h i : Nat} (hi : i < 2 ^ h) (hh : h ≤ 7) (seed text other : List UInt8) : FR h other (Dq seed h i text) = climb (recover other (sign (Az seed i) text)) i (path h (Db seed (2 ^ h)) i) := by
 have h32 := Ox h _ i (Ea seed _) (Nk seed _) hi
 have hp := GY _ h32
 rw [Fs] at hp
 unfold FR
 rw [Ni hi hh]
 have e1 : ((Dq seed h i text).drop 1).take 1088 = sign (Az seed i) text := by
  unfold Dq
  rw [List.drop_one, List.tail_cons, List.take_append_of_le_length (by rw [EF]; omega), List.take_of_length_le (by rw [EF]; omega)]
 have e2 : (Dq seed h i text).drop 1089 = (path h (Db seed (2 ^ h)) i).flatten := by
  unfold Dq
  rw [List.drop_succ_cons, show 1088 = (sign (Az seed i) text).length from (EF _ _).symm, List.drop_left]
 rw [e1, e2, hp]
theorem Ng {h i : Nat} (hi : i < 2 ^ h) (hh : h ≤ 7) (seed text : List UInt8) : verify (rootOf seed h) h text (Dq seed h i text) = 0 := by
 have hb : sigB h (Dq seed h i text) = true := by
  unfold sigB
  rw [FE hi, Ni hi hh, dT rfl, dT hi]
  rfl
 unfold verify
 rw [if_pos hb, QB hi hh, Ov, if_pos]
 rw [← Pq seed hi]
 exact N9 h _ i (Ea _ _) hi
end KeyS
namespace RowsX
open Go Go.RowKit
section
variable {α : Type} {P : Program} {t e : TypeId} {size bytes : Nat} {z : Value} {f : α → List Value}
structure El (size : Nat) (f : α → List Value) : Prop where
 len : ∀ x, (f x).length = size
 one : ∀ x, ∀ u ∈ f x, u.oneCell' = true
theorem El.total (F : El size f) : ∀ l : List α, (l.flatMap f).length = l.length * size
 | [] => by simp
 | x :: r => by rw [List.flatMap_cons, List.length_append, F.len, F.total r, List.length_cons, Nat.add_mul, Nat.one_mul, Nat.add_comm]
structure AccR (e : TypeId) (size : Nat) (f : α → List Value) (w0 w : World) (v : Value) (l : List α) : Prop where
 own : Ow w w0.heap.size e size v l.length (l.flatMap f)
 bel : Below w0.heap.size w0 w
theorem AccR.nil (w : World) : AccR e size f w w (.slice none 0 0) [] := ⟨Ow.nil _ _ _ _, Below.refl _ _⟩
theorem AccR.below {w0 w w' : World} {v : Value} {l : List α} (h : AccR e size f w0 w v l) (hb : Below w.heap.size w w') : AccR e size f w0 w' v l :=
 ⟨h.own.ext (Ext.ofB hb) (fun _ _ h => h), h.bel.trans (hb.mono h.bel.size)⟩
theorem AccR.alloc {w0 w : World} {v : Value} {l : List α} (h : AccR e size f w0 w v l) (o : Obj) : AccR e size f w0 (w.alloc o) v l := h.below bAx
theorem AccR.sl {w0 w : World} {v : Value} {l : List α} (h : AccR e size f w0 w v l) : Sl w v size l.length (l.flatMap f) := h.own.sl
theorem EI {tx e' : TypeId} (hk : P.underlying tx = some (.slice e')) (F : El size f) (w : World) (x : α) (cs : Array Value) (hcs : cs.toList = f x) (te : TypeId) :
 Src P size tx (.slice (some ⟨w.heap.size, 0, none⟩) 1 1) 1 (f x) (w.alloc (.cells cs te)) := by
 refine Src.ofSlice _ hk _ _ _ _ (by rw [F.len, Nat.one_mul]) (fun j u hu => ?_) (F.one x)
 rw [Addr.add_mid, Nat.zero_add, AO (AL w (.cells cs te)), ← hu, ← hcs]
 simp
theorem Bd {ops : Array Oper} {rest : List Oper} {o : Oper} {a : Act} {Q : Exit → Act → World → Prop} (T : BN P t e size bytes z) (F : El size f) {w0 w : World} {v : Value} {l : List α} (A : AccR e size f w0 w v l) (x : α)
 (hgd : o.guard = none) (s y : Operand) (ho : o.op = .call { callee := .builtin .append, args := #[s, y], argTypes := #[t, t] }) (hv : a.eval s = v) (cs : Array Value) (hcs : cs.toList = f x)
 (g : Nat) (hy : a.eval y = .slice (some ⟨g, 0, none⟩) 1 1) (hgw : g = w.heap.size) (hl : l.length + 1 ≤ maxLen) (hb : (l.length + 1) * bytes ≤ 140737488355328)
 (h : ∀ v' w', AccR e size f w0 w' v' (l ++ [x]) → wpList P ops Q rest (a.put o.dst v') w') : wpList P ops Q (o :: rest) a (w.alloc (.cells cs e)) := by
 subst hgw
 have A' := A.alloc (.cells cs e)
 refine Al _ hgd s y _ _ ho T w0.heap.size v l.length (l.flatMap f) hv A'.own _ 1 (f x) hy (EI T.ht F w x cs hcs e) (l.length + 1) rfl ((l ++ [x]).flatMap f) (by rw [List.flatMap_append, List.flatMap_singleton]) hl hb A'.bel.size ?_
 intro a' c' w' hown hgrow _
 refine h _ _ ⟨?_, Bl.grown A'.bel hgrow (fun j hj => (A.own.lt j hj).1)⟩
 rw [List.length_append]
 exact hown
theorem GU {ops : Array Oper} {rest : List Oper} {o : Oper} {a : Act} {Q : Exit → Act → World → Prop} (T : BN P t e size bytes z) (F : El size f) {w : World} {l : List α} {u : Value} (hu : Sl w u size l.length (l.flatMap f))
 (hgd : o.guard = none) (s y : Operand) (ho : o.op = .call { callee := .builtin .append, args := #[s, y], argTypes := #[t, t] }) (hv : a.eval s = .slice (some ⟨w.heap.size, 0, none⟩) 0 0)
 (hy : a.eval y = u) (hl : l.length ≤ maxLen) (hb : l.length * bytes ≤ 140737488355328)
 (h : ∀ v' w', AccR e size f w w' v' l → wpList P ops Q rest (a.put o.dst v') w') : wpList P ops Q (o :: rest) a (w.alloc (.cells #[] e)) := by
 have hown0 : Ow (w.alloc (.cells #[] e)) w.heap.size e size (.slice (some ⟨w.heap.size, 0, none⟩) 0 0) 0 [] := Ow.of (Oy rfl nR (by unfold maxLen; omega) (by simp))
 have hu' := hu.below ((Below.refl _ w).alloc nR (.cells #[] e))
 refine Al _ hgd s y _ _ ho T w.heap.size _ 0 [] hv hown0 u l.length (l.flatMap f) hy (hu'.src T.ht (fun q hq => ?_)) l.length (Nat.zero_add _) (l.flatMap f) (List.nil_append _) hl hb (by simp) ?_
 ·obtain ⟨x, _, hx⟩ := List.mem_flatMap.1 hq
  exact F.one x q hx
 ·intro a' c' w' hown hgrow _
  exact h _ _ ⟨hown, Bl.grown ((Below.refl _ w).alloc nR _) hgrow (fun j hj => by simp [Value.ownBlock] at hj; omega)⟩
theorem BU (F : El size f) (hs : 0 < size) {w : World} {a : Option Addr} {cap : Nat} {l : List α} (h : Sl w (.slice a l.length cap) size l.length (l.flatMap f)) {k : Nat} {x : α} (hx : l[k]? = some x) :
 ∃ b o, a = some ⟨b, o, none⟩ ∧ b < w.heap.size ∧ ∀ (j : Nat) (u : Value), (f x)[j]? = some u → w.cell? ⟨b, o + k * size + j, none⟩ = some u := by
 have hk : k < l.length := (List.getElem?_eq_some_iff.1 hx).1
 have hpos : 0 < l.length * size := Nat.mul_pos (by omega) hs
 obtain ⟨b, o, rfl, hlt, hc⟩ := h.plain (by rw [F.total]; exact hpos)
 refine ⟨b, o, rfl, hlt, fun j u hu => ?_⟩
 have hj : j < size := by rw [← F.len x]; exact (List.getElem?_eq_some_iff.1 hu).1
 rw [Nat.add_assoc]
 exact hc (k * size + j) u ((flat_get f size l k j x F.len hx hj).trans hu)
end
end RowsX
namespace Lift
open Go Go.RowKit Steps RowsX
structure WideF (F : Fence) : Prop where
 lift : ∀ {n : Nat} {P : Program} {o : Oper} {a : Act} {w : World} {K : Act → World → Prop} {Q : Exit → Act → World → Prop}, Du o = true → o.wp P a w K Q → o.wpIn F n P a w K Q
theorem QL : WideF Fence.wide := ⟨fun {n P o a w K Q} hd h => by
 refine ⟨fun _ _ => trivial, ?_⟩
 have hs : o.semAt Fence.wide.round a.eval = execOp a.eval o := Oper.semAt_plain Fence.wide a.eval o (IM hd)
 rw [hs]
 unfold Oper.wp at h
 generalize (execOp a.eval o).run P w = r at h ⊢
 cases r with
 | ok nx w' =>
   cases nx with
   | value v => exact h
   | skip => exact h
   | defer d => exact h
   | enter f args => exact ⟨fun hx => by simp [Fence.wide] at hx, callsIn_wide.2 h⟩
   | row r args => exact ⟨fun hx => by simp [Fence.wide] at hx, fun c cs _ => let ⟨v, w2, hr, s⟩ := h c cs; ⟨v, w2, hr, stepsIn_wide.2 s⟩⟩
   | round a b c d e => exact h.elim
   | _ => exact h.elim
 | halt x w' =>
   cases x with
   | panic v => exact h
   | _ => exact h.elim⟩
section
variable {F : Fence} {n : Nat} {P : Program} {ops : Array Oper} {rest : List Oper} {o : Oper} {a : Act} {w : World} {Q : Exit → Act → World → Prop}
theorem OD (hF : WideF F) (hg : o.guard = none) (hd : Du o = true) (h : ∀ K : Act → World → Prop, (∀ a w, wpListIn F n P ops Q rest a w → K a w) → o.wp P a w K Q) : wpListIn F n P ops Q (o :: rest) a w :=
 wpListIn_plain hg fun K hK => hF.lift hd (h K hK)
theorem Gv {K : Act → World → Prop} (ty : TypeId) (x : Operand) (ho : o.op = .load ty x) (b off : Nat) (hx : a.eval x = .pointer (some ⟨b, off, none⟩)) (cs : Array Value)
 (hc : ∀ j v, cs.toList[j]? = some v → w.cell? ⟨b, off + j, none⟩ = some v) {d : TypeDesc}
 (hu : P.underlying ty = some d) (hd : (match d with | .struct _ | .array _ _ => true | _ => false) = true) (hi : (P.info? ty).map (·.size) = some cs.size) (h : K (a.put o.dst (.agg cs)) w) : o.wp P a w K Q := by
 have hl : (loadCells ⟨b, off, none⟩ cs.toList.length).run P w = .ok cs.toList.toArray w :=
  run_loadCells_list (P := P) w ⟨b, off, none⟩ cs.toList (fun j v hv => by
   have hadd : (⟨b, off, none⟩ : Addr).add j = ⟨b, off + j, none⟩ := by unfold Addr.add; split <;> simp_all
   rw [hadd]
   exact hc j v hv)
 have hrun : (loadVar ty ⟨b, off, none⟩).run P w = .ok (.agg cs) w := by
  cases hq : P.info? ty with
  | none => simp [hq] at hi
  | some i =>
    have hs : i.size = cs.size := by simpa [hq] using hi
    have hagg : (isAgg ty).run P w = .ok true w := by
        unfold isAgg
        rw [Sem.run_bind, run_underlying hu w]
        cases d <;> simp_all
    simp only [Array.length_toList, Array.toArray_toList] at hl
    simp [loadVar, Sem.run_bind, hagg, sizeOf, typeInfo, hq, hs, hl]
 unfold Oper.wp execOp
 simp only [ho, hx, Instr.loadAt, Instr.sureAddr, Sem.run_bind, Sem.run_pure, Result.andThen_ok, hrun]
 exact h
theorem Ah (hg : o.guard = none) (ty : TypeId) (x : Operand) (ho : o.op = .load ty x) (b off : Nat) (hx : a.eval x = .pointer (some ⟨b, off, none⟩)) (cs : Array Value)
 (hc : ∀ j v, cs.toList[j]? = some v → w.cell? ⟨b, off + j, none⟩ = some v) {d : TypeDesc}
 (hu : P.underlying ty = some d) (hd : (match d with | .struct _ | .array _ _ => true | _ => false) = true) (hi : (P.info? ty).map (·.size) = some cs.size) (h : wpList P ops Q rest (a.put o.dst (.agg cs)) w) : wpList P ops Q (o :: rest) a w :=
 wpList_plain hg fun K hK => Gv ty x ho b off hx cs hc hu hd hi (hK _ _ h)
theorem GR (hF : WideF F) (hg : o.guard = none) (ty : TypeId) (x y : Operand) (ho : o.op = .store ty x y)
 (g : Nat) (cells : Array Value) (hx : a.eval x = .pointer (some ⟨g, 0, none⟩)) (hy : a.eval y = .agg cells)
 (t : TypeId) (old : Array Value) (hb : w.heap[g]? = some (.cells old t (0, 0))) (hi : (P.info? ty).map (·.size) = some cells.size)
 (hold : old.size = cells.size) (h1 : cells.all (·.oneCell') = true)
 (h : ∀ w', Hid (w' = w.setRow g cells) → wpListIn F n P ops Q rest (a.put o.dst undef) w') : wpListIn F n P ops Q (o :: rest) a w :=
 OD hF hg (by simp [Du, ho]) fun K hK => wp_store_row ty x y ho g cells hx hy t old hb hi hold h1 (hK _ _ (h _ (lh rfl)))
end
end Lift
section
variable {α : Type _}
theorem fE {xs : List α} {i : Nat} (h : i < xs.toArray.size) : xs.toArray[i] = xs[i]'(by simpa using h) := rfl
theorem gT (a : α) (l : List α) (h : 0 < (a :: l).length) : (a :: l)[0] = a := rfl
theorem gQ (a : α) (l : List α) (i : Nat) (h : i + 1 < (a :: l).length) : (a :: l)[i + 1] = l[i]'(by simpa using h) := rfl
theorem gP (l : List α) (i : Nat) (a : α) : l.toArray.setIfInBounds i a = (l.set i a).toArray := List.setIfInBounds_toArray l i a
theorem gN {x : α} {xs : List α} {a : α} : (x :: xs).set 0 a = a :: xs := rfl
theorem gM {x : α} {xs : List α} {i : Nat} {a : α} : (x :: xs).set (i + 1) a = x :: xs.set i a := rfl
end
namespace EntS
open OctetS IdentS ShaS
structure Ent where
 room : List UInt8
 ep : Int
 ix : Int
 prev : List UInt8
 ev : List UInt8
 sig : List UInt8
def Bj (n : Int) : Bool := decide (0 ≤ n) && decide (n ≤ 4096)
theorem OV {n : Int} : Bj n = true ↔ 0 ≤ n ∧ n ≤ 4096 := by simp [Bj]
def BD (e : Ent) : Bool := DF e.room && (Bj e.ep && (Bj e.ix && (decide (e.ev.length ≤ 8192) && decide (e.sig.length ≤ 8192))))
structure Right (e : Ent) : Prop where
 room : DF e.room = true
 ep0 : 0 ≤ e.ep
 ep1 : e.ep ≤ 4096
 ix0 : 0 ≤ e.ix
 ix1 : e.ix ≤ 4096
 ev : e.ev.length ≤ 8192
 sig : e.sig.length ≤ 8192
theorem Bw {e : Ent} : BD e = true ↔ Right e := by
 unfold BD
 simp only [Bool.and_eq_true, OV, decide_eq_true_eq]
 exact ⟨fun ⟨a, b, c, d, f⟩ => ⟨a, b.1, b.2, c.1, c.2, d, f⟩, fun h => ⟨h.room, ⟨h.ep0, h.ep1⟩, ⟨h.ix0, h.ix1⟩, h.ev, h.sig⟩⟩
def mark : List UInt8 := [101, 110, 116, 114, 121]
def parts (e : Ent) : List (List UInt8) := [mark, e.room, num e.ep.toNat, num e.ix.toNat, e.prev, e.ev]
def text (e : Ent) : List UInt8 := OctetS.list (parts e)
def textOf (e : Ent) : List UInt8 := if BD e then text e else []
theorem GK {n : Int} (h0 : 0 ≤ n) (h1 : n ≤ 4096) : (num n.toNat).length ≤ 2 := OctetS.CV (by omega)
theorem Right.fits {e : Ent} (h : Right e) (hp : e.prev.length = 32) : fits (parts e) = true := by
 rw [Cq]
 refine ⟨by simp [parts], fun t ht => ?_⟩
 have hr := DV h.room
 have h1 := GK h.ep0 h.ep1
 have h2 := GK h.ix0 h.ix1
 have h3 := h.ev
 simp only [parts, List.mem_cons, List.not_mem_nil, or_false] at ht
 rcases ht with rfl | rfl | rfl | rfl | rfl | rfl
 ·simp [mark]
 ·omega
 ·omega
 ·omega
 ·omega
 ·exact h3
end EntS
namespace Wr
open Go Go.RowKit
section
variable {P : Program} {ops : Array Oper} {Q : Exit → Act → World → Prop} {md : Region.Mode} {S : World → Prop} {K : List Nat}
def Ar (P : Program) (md : Region.Mode) (ops : Array Oper) (Q : Exit → Act → World → Prop) (S : World → Prop) (K : List Nat) : Nat → Array Bool → Act → World → Prop
 | 0, listed, a, w => Region.ready md ops listed = [] ∧ Q .normal a w
 | fuel + 1, listed, a, w =>
   (Region.ready md ops listed = [] → Q .normal a w) ∧
   ∀ i ∈ Region.ready md ops listed, wpOp P ops Q i (fun a' w' => ((i ∉ K ∧ ∀ k ∈ K, listed.getD k true = false) → S w') ∧ Ar P md ops Q S K fuel (listed.setIfInBounds i true) a' w') a w
theorem Gf : ∀ (fuel : Nat) (listed : Array Bool) (a : Act) (w : World), Ar P md ops Q S K fuel listed a w → wpAny P md ops Q fuel listed a w
 | 0, _, _, _, h => h
 | fuel + 1, _, _, _, h => ⟨h.1, fun i hi => wpOp_mono (fun a' w' h' => Gf fuel _ a' w' h'.2) (h.2 i hi)⟩
def waits (md : Region.Mode) (ops : Array Oper) (K : List Nat) (listed : Array Bool) (i : Nat) : Bool :=
 !K.contains i && K.all fun k => !(listed.getD k true) && match ops[k]? with
    | some o => o.after.any fun e => Region.binds md e && (e.on == i || K.contains e.on)
    | none => false
theorem Oi {i : Nat} {oi : Oper} {v : Value} (hi : ops[i]? = some oi) (hsel : ∀ (j : Nat) (o : Oper) cs b, ops[j]? = some o → o.op ≠ .select cs b)
 (hQ : ∀ c a w, Q (.panic c) (a.put oi.dst v) w → Q (.panic c) a w) (hiK : i ∉ K)
 (hK : ∀ k ∈ K, ∃ o, ops[k]? = some o ∧ ∃ e ∈ o.after, Region.binds md e = true ∧ (e.on = i ∨ e.on ∈ K)) :
 ∀ (fuel : Nat) (listed : Array Bool) (a : Act) (w : World),
   (∀ k ∈ K, listed.getD k true = false) →
   (∀ j oj, ops[j]? = some oj → j ≠ i → listed.getD j true = false → (∀ e ∈ oj.after, Region.binds md e = true → e.on ≠ i) → oi.apart ops oj = true) →
   i ∈ Region.ready md ops listed → YieldsIf P ops S oi v a → S w →
   Ar P md ops Q S K fuel (listed.setIfInBounds i true) (a.put oi.dst v) w → Ar P md ops Q S K (fuel + 1) listed a w := by
 intro fuel
 induction fuel with
 | zero =>
   intro listed a w _ _ hr hy hS H
   refine ⟨fun h => (by rw [h] at hr; cases hr), fun j hj => ?_⟩
   by_cases hji : j = i
   ·subst hji; exact hy.wpOp hi hS ⟨fun _ => hS, H⟩
   ·have := ready_mono hj hji
    rw [H.1] at this
    cases this
 | succ fuel ih =>
   intro listed a w hKl hfree hr hy hS H
   refine ⟨fun h => (by rw [h] at hr; cases hr), fun j hj => ?_⟩
   by_cases hji : j = i
   ·subst hji; exact hy.wpOp hi hS ⟨fun _ => hS, H⟩
   ·have h1 := H.2 j (ready_mono hj hji)
    obtain ⟨hjun, oj, hoj, hall⟩ := mem_ready.1 hj
    have hun : ∀ k, listed.getD k true = false → listed.getD k false = true → False := fun k h0 h1 => by
        rcases Nat.lt_or_ge k listed.size with h' | h'
        ·simp [h'] at h0 h1; rw [h0] at h1; cases h1
        ·simp [Array.getElem?_eq_none h'] at h1
    have hnot : ∀ e ∈ oj.after, Region.binds md e = true → e.on ≠ i := fun e he hb heq => hun i (mem_ready.1 hr).1 (by rw [← heq]; exact hall e he hb)
    have hjK : j ∉ K := fun hj' => by
        obtain ⟨o, ho, e, he, hb, hor⟩ := hK j hj'
        obtain rfl : oj = o := Option.some.inj (hoj.symm.trans ho)
        rcases hor with h | h
        ·exact hnot e he hb h
        ·exact hun e.on (hKl e.on h) (hall e he hb)
    have h2 := wpOp_putIf hoj (hfree j oj hoj hji hjun hnot) (fun cs b => hsel i oi cs b hi) (fun cs b => hsel j oj cs b hoj) hQ hy h1
    have hfree' : ∀ k ok, ops[k]? = some ok → k ≠ i → (listed.setIfInBounds j true).getD k true = false →
     (∀ e ∈ ok.after, Region.binds md e = true → e.on ≠ i) → oi.apart ops ok = true := fun k ok hk hki hun hno => by
        refine hfree k ok hk hki ?_ hno
        by_cases hjk : j = k
        ·subst hjk; exact hjun
        ·rw [getD_set_ne true hjk] at hun; exact hun
    have hKi : ∀ k ∈ K, (listed.setIfInBounds i true).getD k true = false := fun k hk => by
        rw [getD_set_ne true (fun e => hiK (by rw [e]; exact hk))]; exact hKl k hk
    have hKj : ∀ k ∈ K, (listed.setIfInBounds j true).getD k true = false := fun k hk => by
        rw [getD_set_ne true (fun e => hjK (by rw [e]; exact hk))]; exact hKl k hk
    refine wpOp_mono (fun a' w' h3 => ⟨fun _ => h3.2.1 ⟨hjK, hKi⟩, ih (listed.setIfInBounds j true) a' w' hKj hfree' (ready_mono hr (Ne.symm hji)) h3.1 (h3.2.1 ⟨hjK, hKi⟩) ?_⟩) h2
    rw [Array.setIfInBounds_comm _ _ hji]
    exact h3.2.2
theorem QM {listed : Array Bool} {i : Nat} (h : waits md ops K listed i = true) :
 i ∉ K ∧ (∀ k ∈ K, listed.getD k true = false) ∧ ∀ k ∈ K, ∃ o, ops[k]? = some o ∧ ∃ e ∈ o.after, Region.binds md e = true ∧ (e.on = i ∨ e.on ∈ K) := by
 unfold waits at h
 simp only [Bool.and_eq_true, Bool.not_eq_true', List.all_eq_true] at h
 refine ⟨by simpa using h.1, fun k hk => (h.2 k hk).1, fun k hk => ?_⟩
 have h2 := (h.2 k hk).2
 split at h2
 ·rename_i o ho
  refine ⟨o, ho, ?_⟩
  simp only [Array.any_eq_true', Bool.and_eq_true, Bool.or_eq_true, beq_iff_eq, List.contains_iff_mem] at h2
  obtain ⟨e, he, hb, hor⟩ := h2
  exact ⟨e, by simpa using he, hb, hor⟩
 ·cases h2
theorem Ay {i : Nat} {oi : Oper} {v : Value} {fuel : Nat} {listed : Array Bool} {a : Act} {w : World} (hi : ops[i]? = some oi)
 (hc : (Region.noSelect ops && (Region.free md ops listed i && ((Region.ready md ops listed).contains i && waits md ops K listed i))) = true)
 (hQ : ∀ c a w, Q (.panic c) (a.put oi.dst v) w → Q (.panic c) a w) (hy : YieldsIf P ops S oi v a) (hS : S w)
 (h : Ar P md ops Q S K fuel (listed.setIfInBounds i true) (a.put oi.dst v) w) : Ar P md ops Q S K (fuel + 1) listed a w := by
 simp only [Bool.and_eq_true] at hc
 obtain ⟨hs, hf, hr, hw⟩ := hc
 obtain ⟨h1, h2, h3⟩ := QM hw
 exact Oi hi (Region.noSelect_spec hs) hQ h1 h3 fuel listed a w h2 (Region.free_spec hi hf) (by simpa using hr) hy hS h
theorem tkK {i : Nat} {oi : Oper} {v : Value} {fuel : Nat} {listed : Array Bool} {a : Act} {w : World} (hi : ops[i]? = some oi) (hy : YieldsIf P ops S oi v a) (hS : S w) (h : Ar P md ops Q S K fuel (listed.setIfInBounds i true) (a.put oi.dst v) w)
 (hc : (Region.noSelect ops && (Region.free md ops listed i && ((Region.ready md ops listed).contains i && waits md ops K listed i))) = true := by kernel_rfl) (hQ : ∀ c a w, Q (.panic c) (a.put oi.dst v) w → Q (.panic c) a w := by exact fun _ _ _ h => h) : Ar P md ops Q S K (fuel + 1) listed a w :=
 Ay hi hc hQ hy hS h
theorem tkI (i : Nat) {oi : Oper} (v : Value) {fuel : Nat} {listed : Array Bool} {a : Act} {w : World} (hy : ∀ w, S w → (execOp a.eval oi).run P w = .ok (.value v) w) (hS : S w) (h : Ar P md ops Q S K fuel (listed.setIfInBounds i true) (a.put oi.dst v) w)
 (hi : ops[i]? = some oi := by rfl) (hw : Region.wanted oi (yielded ops a.tmps) = true := by rfl) (hc : (Region.noSelect ops && (Region.free md ops listed i && ((Region.ready md ops listed).contains i && waits md ops K listed i))) = true := by kernel_rfl) (hQ : ∀ c a w, Q (.panic c) (a.put oi.dst v) w → Q (.panic c) a w := by exact fun _ _ _ h => h) : Ar P md ops Q S K (fuel + 1) listed a w :=
 Ay hi hc hQ (.inl ⟨hw, hy⟩) hS h
theorem GV {i : Nat} {oi : Oper} {v : Value} (hi : ops[i]? = some oi) (hsel : ∀ (j : Nat) (o : Oper) cs b, ops[j]? = some o → o.op ≠ .select cs b)
 (hQ : ∀ c a w, Q (.panic c) (a.put oi.dst v) w → Q (.panic c) a w) (hiK : i ∉ K) :
 ∀ (fuel : Nat) (listed : Array Bool) (a : Act) (w : World),
   (∀ j oj, ops[j]? = some oj → j ≠ i → listed.getD j true = false → (∀ e ∈ oj.after, Region.binds md e = true → e.on ≠ i) → oi.apart ops oj = true) →
   i ∈ Region.ready md ops listed → YieldsIf P ops (fun _ => True) oi v a → ((∀ k ∈ K, listed.getD k true = false) → S w) →
   Ar P md ops Q S K fuel (listed.setIfInBounds i true) (a.put oi.dst v) w → Ar P md ops Q S K (fuel + 1) listed a w := by
 intro fuel
 induction fuel with
 | zero =>
   intro listed a w _ hr hy hS H
   refine ⟨fun h => (by rw [h] at hr; cases hr), fun j hj => ?_⟩
   by_cases hji : j = i
   ·subst hji; exact hy.wpOp hi trivial ⟨fun h => hS h.2, H⟩
   ·have := ready_mono hj hji
    rw [H.1] at this
    cases this
 | succ fuel ih =>
   intro listed a w hfree hr hy hS H
   refine ⟨fun h => (by rw [h] at hr; cases hr), fun j hj => ?_⟩
   by_cases hji : j = i
   ·subst hji; exact hy.wpOp hi trivial ⟨fun h => hS h.2, H⟩
   ·have h1 := H.2 j (ready_mono hj hji)
    obtain ⟨hjun, oj, hoj, hall⟩ := mem_ready.1 hj
    have hun : ∀ k, listed.getD k true = false → listed.getD k false = true → False := fun k h0 h1 => by
        rcases Nat.lt_or_ge k listed.size with h' | h'
        ·simp [h'] at h0 h1; rw [h0] at h1; cases h1
        ·simp [Array.getElem?_eq_none h'] at h1
    have hnot : ∀ e ∈ oj.after, Region.binds md e = true → e.on ≠ i := fun e he hb heq => hun i (mem_ready.1 hr).1 (by rw [← heq]; exact hall e he hb)
    have h2 := wpOp_putIf hoj (hfree j oj hoj hji hjun hnot) (fun cs b => hsel i oi cs b hi) (fun cs b => hsel j oj cs b hoj) hQ hy h1
    have hfree' : ∀ k ok, ops[k]? = some ok → k ≠ i → (listed.setIfInBounds j true).getD k true = false →
     (∀ e ∈ ok.after, Region.binds md e = true → e.on ≠ i) → oi.apart ops ok = true := fun k ok hk hki hun hno => by
        refine hfree k ok hk hki ?_ hno
        by_cases hjk : j = k
        ·subst hjk; exact hjun
        ·rw [getD_set_ne true hjk] at hun; exact hun
    have hKi : (∀ k ∈ K, listed.getD k true = false) → ∀ k ∈ K, (listed.setIfInBounds i true).getD k true = false := fun h k hk => by
        rw [getD_set_ne true (fun e => hiK (by rw [e]; exact hk))]; exact h k hk
    have hjs : (listed.setIfInBounds j true).getD j true = true := by
        rcases Nat.lt_or_ge j listed.size with h' | h'
        ·simp [h']
        ·simp [h'] at hjun
    refine wpOp_mono (fun a' w' h3 => ⟨fun h => h3.2.1 ⟨h.1, hKi h.2⟩, ih (listed.setIfInBounds j true) a' w' hfree' (ready_mono hr (Ne.symm hji)) h3.1 (fun hl => ?_) ?_⟩) h2
    ·have hjK : j ∉ K := fun hj' => by
      have := hl j hj'
      rw [hjs] at this
      cases this
     refine h3.2.1 ⟨hjK, hKi fun k hk => ?_⟩
     have := hl k hk
     rw [getD_set_ne true (fun e => hjK (by rw [e]; exact hk))] at this
     exact this
    ·rw [Array.setIfInBounds_comm _ _ hji]
     exact h3.2.2
theorem Ac {i : Nat} {oi : Oper} {v : Value} {fuel : Nat} {listed : Array Bool} {a : Act} {w : World} (hi : ops[i]? = some oi)
 (hc : (Region.noSelect ops && (Region.free md ops listed i && ((Region.ready md ops listed).contains i && !K.contains i))) = true)
 (hQ : ∀ c a w, Q (.panic c) (a.put oi.dst v) w → Q (.panic c) a w) (hy : YieldsIf P ops (fun _ => True) oi v a) (hS : S w)
 (h : Ar P md ops Q S K fuel (listed.setIfInBounds i true) (a.put oi.dst v) w) : Ar P md ops Q S K (fuel + 1) listed a w := by
 simp only [Bool.and_eq_true, Bool.not_eq_true'] at hc
 obtain ⟨hs, hf, hr, hw⟩ := hc
 exact GV hi (Region.noSelect_spec hs) hQ (by simpa using hw) fuel listed a w (Region.free_spec hi hf) (by simpa using hr) hy (fun _ => hS) h
theorem tkE (i : Nat) {oi : Oper} (v : Value) {fuel : Nat} {listed : Array Bool} {a : Act} {w : World} (hy : ∀ w, True → (execOp a.eval oi).run P w = .ok (.value v) w) (hS : S w) (h : Ar P md ops Q S K fuel (listed.setIfInBounds i true) (a.put oi.dst v) w)
 (hi : ops[i]? = some oi := by rfl) (hw : Region.wanted oi (yielded ops a.tmps) = true := by rfl) (hc : (Region.noSelect ops && (Region.free md ops listed i && ((Region.ready md ops listed).contains i && !K.contains i))) = true := by kernel_rfl) (hQ : ∀ c a w, Q (.panic c) (a.put oi.dst v) w → Q (.panic c) a w := by exact fun _ _ _ h => h) : Ar P md ops Q S K (fuel + 1) listed a w :=
 Ac hi hc hQ (.inl ⟨hw, hy⟩) hS h
theorem FD {i : Nat} {oi : Oper} {v : Value} {fuel : Nat} {listed : Array Bool} {a : Act} {w : World} (hi : ops[i]? = some oi)
 (hc : (Region.noSelect ops && (Region.free md ops listed i && ((Region.ready md ops listed).contains i && (!K.contains i && K.any fun k => listed.getD k true)))) = true)
 (hQ : ∀ c a w, Q (.panic c) (a.put oi.dst v) w → Q (.panic c) a w) (hy : YieldsIf P ops (fun _ => True) oi v a)
 (h : Ar P md ops Q S K fuel (listed.setIfInBounds i true) (a.put oi.dst v) w) : Ar P md ops Q S K (fuel + 1) listed a w := by
 simp only [Bool.and_eq_true, Bool.not_eq_true', List.any_eq_true] at hc
 obtain ⟨hs, hf, hr, hw, k, hk, hl⟩ := hc
 exact GV hi (Region.noSelect_spec hs) hQ (by simpa using hw) fuel listed a w (Region.free_spec hi hf) (by simpa using hr) hy (fun h => by rw [h k hk] at hl; cases hl) h
theorem Ab {i : Nat} {fuel : Nat} {listed : Array Bool} {a : Act} {w : World} (hr : Region.ready md ops listed = [i])
 (h : wpOp P ops Q i (fun a' w' => S w' ∧ Ar P md ops Q S K fuel (listed.setIfInBounds i true) a' w') a w) : Ar P md ops Q S K (fuel + 1) listed a w :=
 ⟨fun h0 => absurd (hr ▸ h0) (by simp), fun j hj => by
  rw [hr] at hj
  obtain rfl : j = i := by simpa using hj
  exact wpOp_mono (fun a' w' h' => ⟨fun _ => h'.1, h'.2⟩) h⟩
theorem BJ {i : Nat} {fuel : Nat} {listed : Array Bool} {a : Act} {w : World} (hr : Region.ready md ops listed = [i]) (hk : (K.contains i || K.any fun k => listed.getD k true) = true)
 (h : wpOp P ops Q i (fun a' w' => Ar P md ops Q S K fuel (listed.setIfInBounds i true) a' w') a w) : Ar P md ops Q S K (fuel + 1) listed a w :=
 ⟨fun h0 => absurd (hr ▸ h0) (by simp), fun j hj => by
  rw [hr] at hj
  obtain rfl : j = i := by simpa using hj
  refine wpOp_mono (fun a' w' h' => ⟨fun h0 => ?_, h'⟩) h
  simp only [Bool.or_eq_true, List.any_eq_true, List.contains_iff_mem] at hk
  rcases hk with hk | ⟨k, hk, hl⟩
  ·exact absurd hk h0.1
  ·rw [h0.2 k hk] at hl; cases hl⟩
theorem Ag {listed : Array Bool} {a : Act} {w : World} (hr : Region.ready md ops listed = []) (h : Q .normal a w) :
 ∀ fuel, Ar P md ops Q S K fuel listed a w
 | 0 => ⟨hr, h⟩
 | _ + 1 => ⟨fun _ => h, by rw [hr]; simp⟩
theorem BI (S : World → Prop) (K : List Nat) {id : Nat} {a : Act} {w : World} (hm : P.follows .mixedOrders = true)
 (h : Ar P .any ops Q S K ops.size (Array.replicate ops.size false) a { w with drawn := w.drawn + 1 }) : (Code.region id ops true).wp P Q a w :=
 wp_region_any hm (Gf _ _ _ _ h)
theorem Ci {P : Program} {ops : Array Oper} {Q : Exit → Act → World → Prop} {i : Nat} {o : Oper} {a : Act} {w : World} {K : Act → World → Prop} (hi : ops[i]? = some o) (hw : Region.wanted o (yielded ops a.tmps) = true) (s x : Operand) (t tx : TypeId)
 (ho : o.op = .call { callee := .builtin .append, args := #[s, x], argTypes := #[t, tx] })
 {e : TypeId} {size bytes : Nat} {z : Value} (T : BN P t e size bytes z) (base : Nat)
 (v : Value) (n : Nat) (xs : List Value) (hv : a.eval s = v) (hown : Ow w base e size v n xs)
 (y : Value) (m : Nat) (news : List Value) (hy : a.eval x = y) (hs : Src P size tx y m news w)
 (N : Nat) (hN : n + m = N) (zs : List Value) (hz : xs ++ news = zs)
 (h63 : N ≤ maxLen) (hbytes : N * bytes ≤ 140737488355328) (hbase : base ≤ w.heap.size)
 (h : ∀ a' c' w', Ow w' base e size (.slice a' N c') N zs → w.grownBy w' v.ownBlock → ((Value.slice a' N c').ownBlock = v.ownBlock ∨ (Value.slice a' N c').ownBlock = some w.heap.size) → K (a.put o.dst (.slice a' N c')) w') : wpOp P ops Q i K a w := by
 unfold wpOp
 simp only [hi, hw, if_true]
 exact .inl (Qu w s x t tx ho T base v n xs hv hown y m news hy hs N hN zs hz h63 hbytes hbase h)
end
end Wr
namespace EntP
open Go Go.RowKit Go.Shelf OctetS IdentS EntS OctP OctQ IdentP IdentR EventP EventC
def entA (r : ByteArray) (ep ix : Int) (pv : List UInt8) (e s : ByteArray) : Array Value := ([.string r, .int .i64 ep, .int .i64 ix] ++ byV pv ++ [.string e, .string s] : List Value).toArray
def Bp (r : ByteArray) (ep ix : Int) (pv : List UInt8) (e s : ByteArray) : Ent := ⟨bl r, ep, ix, pv, bl e, bl s⟩
structure EntP (p : Array Value) (r : ByteArray) (ep ix : Int) (pv : List UInt8) (e s : ByteArray) : Prop where
 eq : p = entA r ep ix pv e s
 len : pv.length = 32
section
variable {p : Array Value} {r : ByteArray} {ep ix : Int} {pv : List UInt8} {e s : ByteArray}
theorem EntP.size (h : EntP p r ep ix pv e s) : p.size = 37 := by rw [h.eq]; simp [entA, AZ, h.len]
theorem EntP.c0 (h : EntP p r ep ix pv e s) : p[0]? = some (.string r) := by rw [h.eq]; rfl
theorem EntP.c1 (h : EntP p r ep ix pv e s) : p[1]? = some (.int .i64 ep) := by rw [h.eq]; rfl
theorem EntP.c2 (h : EntP p r ep ix pv e s) : p[2]? = some (.int .i64 ix) := by rw [h.eq]; rfl
theorem EntP.cp (h : EntP p r ep ix pv e s) (j : Nat) (u : Value) (hj : (byV pv)[j]? = some u) : p[3 + j]? = some u := by
 have hl : j < 32 := by
  have := (List.getElem?_eq_some_iff.1 hj).1
  rw [AZ, h.len] at this
  exact this
 rw [h.eq]
 unfold entA
 rw [List.getElem?_toArray, List.getElem?_append_left (by simp [AZ, h.len]; omega), List.getElem?_append_right (by simp)]
 simpa using hj
theorem EntP.c35 (h : EntP p r ep ix pv e s) : p[35]? = some (.string e) := by
 rw [h.eq]
 unfold entA
 rw [List.getElem?_toArray, List.getElem?_append_right (by simp [AZ, h.len])]
 simp [AZ, h.len]
theorem EntP.c36 (h : EntP p r ep ix pv e s) : p[36]? = some (.string s) := by
 rw [h.eq]
 unfold entA
 rw [List.getElem?_toArray, List.getElem?_append_right (by simp [AZ, h.len])]
 simp [AZ, h.len]
theorem EntP.sl (h : EntP p r ep ix pv e s) {W : World} {B : Nat} {t : TypeId} (hb : W.heap[B]? = some (.cells p t (0, 0))) : Sl W (.slice (some ⟨B, 3, none⟩) 32 32) 1 pv.length (byV pv) := by
 rw [h.len]
 refine ⟨by rw [AZ, h.len], .inr ⟨_, 32, rfl, Nat.le_refl _, by unfold maxLen; omega, fun j u hu => ?_⟩⟩
 rw [Addr.add_mid, AO hb]
 exact h.cp j u hu
end
theorem chk_eq (r : ByteArray) (ep ix : Int) (pv : List UInt8) (e s : ByteArray) : EntS.BD (Bp r ep ix pv e s) = (DF (bl r) && (Bj ep && (Bj ix && (decide (e.size ≤ 8192) && decide (s.size ≤ 8192))))) := by
 unfold EntS.BD Bp
 simp only [AP]
theorem Pb (w : World) (n : Int) : Calls Tryz.prog 83 #[.int .i64 n] w fun e w' => e = .returned (.bool (Bj n)) ∧ w = w' := by
 by_cases h0 : 0 ≤ n
 ·go_enter func83, ntmps83
  go_wp2
  go_ret
  exact ⟨by simp [Bj, h0], rfl⟩
 ·have h1 : decide (0 ≤ n) = false := by simpa using h0
  go_enter func83, ntmps83
  go_wp2
  go_ret
  exact ⟨by simp [Bj, h1], rfl⟩
theorem Dw (w : World) (p : Array Value) (r : ByteArray) (ep ix : Int) (pv : List UInt8) (e s : ByteArray) (hp : EntP p r ep ix pv e s) (hv : Am w) (hr : r.size ≤ 140737488351232) (he : e.size ≤ maxLen) (hs : s.size ≤ maxLen) :
 Calls Tryz.prog 50 #[.agg p] w (RB (.int .i64 (CW (EntS.BD (Bp r ep ix pv e s)))) w) := by
 unfold maxLen at he hs
 rw [chk_eq]
 obtain ⟨rn, hR⟩ := IA w r hr
 obtain ⟨rb, hrb⟩ := nXe (DF (bl r))
 rw [← hrb] at hR ⊢
 clear hrb
 have hPe := fun w => Pb w ep
 have hPi := fun w => Pb w ix
 obtain ⟨pe, hpe⟩ := nXe (Bj ep)
 obtain ⟨pi, hpi⟩ := nXe (Bj ix)
 rw [← hpe] at hPe ⊢
 rw [← hpi] at hPi ⊢
 clear hpe hpi
 obtain ⟨y, hy⟩ := nXe (CW (rb && (pe && (pi && (decide (e.size ≤ 8192) && decide (s.size ≤ 8192))))))
 rw [← hy]
 have Hy0 := lh hy
 clear hy
 have p0 := hp.c0
 have p1 := hp.c1
 have p2 := hp.c2
 have p35 := hp.c35
 have p36 := hp.c36
 obtain ⟨w0, hw0⟩ := nXe (w.alloc (.cells p 81))
 have hb0 : Below w.heap.size w w0 := by rw [hw0]; exact ((Below.refl _ w).alloc nR _)
 have hx0 : w0.heap[w.heap.size]? = some (.cells p 81 (0, 0)) := by rw [hw0]; exact AL _ _
 obtain ⟨HBL0, HW0⟩ := l2h hb0 hw0
 have lx0 := AJ hx0
 obtain ⟨cx0, fx0⟩ := AA hx0
 obtain ⟨HV0, HR, HPe, HPi⟩ := l4h (hv.below hb0) hR hPe hPi
 clear hR hPe hPi hv hb0 hw0 hr hp
 have hcase : rb = false ∨ (rb = true ∧ pe = false) ∨ (rb = true ∧ pe = true ∧ pi = false) ∨ (rb = true ∧ pe = true ∧ pi = true) := by
  cases rb <;> cases pe <;> cases pi <;> simp
 rcases hcase with rfl | ⟨rfl, rfl⟩ | ⟨rfl, rfl, rfl⟩ | ⟨rfl, rfl, rfl⟩
 all_goals
  go_enter func50, ntmps50
  go_wp2_with fail
  rw [← HW0.out]
  refine (HR.out w0 HV0.out).mono ?_
  rintro e w1 ⟨rfl, hb⟩
  have HBL1 := tbB HBL0 hb
  have hx1 := (hb.block _ lx0).trans hx0
  have lx1 := AJ hx1
  obtain ⟨cx1, fx1⟩ := AA hx1
  have HV1 := lh (HV0.out.below hb)
  clear hb hx0 cx0 fx0
 ·go_wp2
  go_ret
  exact ⟨by rw [Hy0.out]; rfl, HBL1.out⟩
 ·go_wp2_with fail
  refine (HPe.out w1).mono ?_
  rintro e' w2 ⟨rfl, rfl⟩
  go_wp2
  go_ret
  exact ⟨by rw [Hy0.out]; rfl, HBL1.out⟩
 ·go_wp2_with fail
  refine (HPe.out w1).mono ?_
  rintro e' w2 ⟨rfl, rfl⟩
  go_wp2_with fail
  refine (HPi.out w1).mono ?_
  rintro e' w2 ⟨rfl, rfl⟩
  go_wp2
  go_ret
  exact ⟨by rw [Hy0.out]; rfl, HBL1.out⟩
 ·have hy' : (e.size ≤ 8192 ∧ s.size ≤ 8192 ∧ y = 0) ∨ (¬ (e.size ≤ 8192 ∧ s.size ≤ 8192) ∧ y = 2) := by
   rw [Hy0.out]
   unfold CW
   simp only [Bool.true_and, Bool.and_eq_true, decide_eq_true_eq]
   by_cases h : e.size ≤ 8192 ∧ s.size ≤ 8192
   ·rw [if_pos h]
    exact .inl ⟨h.1, h.2, rfl⟩
   ·rw [if_neg h]
    exact .inr ⟨h, rfl⟩
  have Hy := lh hy'
  clear hy'
  go_wp2_with fail
  refine (HPe.out w1).mono ?_
  rintro e' w2 ⟨rfl, rfl⟩
  go_wp2_with fail
  refine (HPi.out w1).mono ?_
  rintro e' w2 ⟨rfl, rfl⟩
  go_wp2
  all_goals
   go_ret
   refine ⟨?_, HBL1.out⟩
   have hy := Hy.out
   first
        | (obtain rfl : y = 0 := by omega
           rfl)
        | (obtain rfl : y = 2 := by omega
           rfl)
theorem DR (w : World) (p : Array Value) (r : ByteArray) (ep ix : Int) (pv : List UInt8) (e s : ByteArray) (hp : EntP p r ep ix pv e s) (hv : Am w) (hr : r.size ≤ 140737488351232) (he : e.size ≤ maxLen) (hs : s.size ≤ maxLen) :
 Calls Tryz.prog 84 #[.agg p] w (RB (.tuple #[.string (bsOf (EntS.textOf (Bp r ep ix pv e s))), .int .i64 (CW (EntS.BD (Bp r ep ix pv e s)))]) w) := by
 have hC := fun w hv => Dw w p r ep ix pv e s hp hv hr he hs
 have p0 := hp.c0
 have p1 := hp.c1
 have p2 := hp.c2
 have p35 := hp.c35
 have hps := hp.size
 have hpi : (Tryz.prog.info? 81).map (·.size) = some 37 := by kernel_rfl
 rw [← hps] at hpi
 have HI := lh hpi
 clear hpi hps
 obtain ⟨w0, hw0⟩ := nXe (w.alloc (.cells p 81))
 have hb0 : Below w.heap.size w w0 := by rw [hw0]; exact ((Below.refl _ w).alloc nR _)
 have hx0 : w0.heap[w.heap.size]? = some (.cells p 81 (0, 0)) := by rw [hw0]; exact AL _ _
 obtain ⟨HBL0, HW0⟩ := l2h hb0 hw0
 have lx0 := AJ hx0
 obtain ⟨cx0, fx0⟩ := AA hx0
 have HV0 := lh (hv.below hb0)
 unfold EntS.textOf
 unfold maxLen at he hs
 obtain ⟨HP, Hx0⟩ := l2h hp hx0
 cases hchk : EntS.BD (Bp r ep ix pv e s)
 ·skip
  rw [hchk] at hC
  have HC := lh hC
  clear hC hchk hr he hs hp hb0 hv hw0
  go_enter func84, ntmps84
  go_wp2_with (first | (rw [← HW0.out]; refine wpList_load_row rfl _ _ rfl w.heap.size rfl _ p (0, 0) _ Hx0.out underlying81 rfl HI.out ?_) | fail)
  refine (HC.out w0 HV0.out).mono ?_
  rintro e' w1 ⟨rfl, hb⟩
  have HBL1 := tbB HBL0 hb
  have hx1 := (hb.block _ lx0).trans hx0
  have lx1 := AJ hx1
  obtain ⟨cx1, fx1⟩ := AA hx1
  have HV1 := lh (HV0.out.below hb)
  clear hb hx0 cx0 fx0
  unfold CW
  go_wp2
  go_ret2
  exact ⟨rfl, HBL1.out⟩
 ·skip
  have hR := EntS.Bw.1 hchk
  have h0 := hR.ep0
  have h1 := hR.ep1
  have h2 := hR.ix0
  have h3 := hR.ix1
  have hfit := hR.fits hp.len
  simp only [Bp] at h0 h1 h2 h3
  obtain ⟨m, rfl⟩ : ∃ m : Nat, ep = m := ⟨ep.toNat, by omega⟩
  obtain ⟨j, rfl⟩ : ∃ j : Nat, ix = j := ⟨ix.toNat, by omega⟩
  have hparts : EntS.parts (Bp r m j pv e s) = [bsOf EntS.mark, r, bsOf (num m), bsOf (num j), bsOf pv, e].map bl := by
   simp [EntS.parts, Bp, AV]
  have hfin : EntS.text (Bp r m j pv e s) = OctetS.list ([bsOf EntS.mark, r, bsOf (num m), bsOf (num j), bsOf pv, e].map bl) := by
   unfold EntS.text
   rw [hparts]
  rw [if_pos rfl, hfin]
  rw [hparts] at hfit
  have hL := fun w v h => List_ok w v [bsOf EntS.mark, r, bsOf (num m), bsOf (num j), bsOf pv, e] h hfit
  rw [hchk] at hC
  obtain ⟨out, hout⟩ := nXe (bsOf (OctetS.list ([bsOf EntS.mark, r, bsOf (num m), bsOf (num j), bsOf pv, e].map bl)))
  obtain ⟨n1, hn1⟩ := nXe (bsOf (num m))
  obtain ⟨n2, hn2⟩ := nXe (bsOf (num j))
  obtain ⟨q, hq⟩ := nXe (bsOf pv)
  have hN1 := fun w => Er w m (by unfold BC; omega)
  have hN2 := fun w => Er w j (by unfold BC; omega)
  rw [← hn1] at hN1
  rw [← hn2] at hN2
  rw [← hout]
  rw [← hout, ← hn1, ← hn2, ← hq] at hL
  obtain ⟨HC, HN1, HN2, HL, HQ⟩ := l5h hC hN1 hN2 hL hq
  clear hC hN1 hN2 hL hn1 hn2 hout hfin hparts hfit hR hchk hq hr he hs hp hb0 hv hw0
  go_enter func84, ntmps84
  go_wp2_with (first | (rw [← HW0.out]; refine wpList_load_row rfl _ _ rfl w.heap.size rfl _ p (0, 0) _ Hx0.out underlying81 rfl HI.out ?_) | fail)
  refine (HC.out w0 HV0.out).mono ?_
  rintro e' w1 ⟨rfl, hb⟩
  have HBL1 := tbB HBL0 hb
  have hx1 := (hb.block _ lx0).trans hx0
  have lx1 := AJ hx1
  obtain ⟨cx1, fx1⟩ := AA hx1
  have HV1 := lh (HV0.out.below hb)
  clear hb hx0 cx0 fx0
  unfold CW
  go_wp2_with fail
  refine (HN1.out w1).mono ?_
  rintro e w2 ⟨rfl, hb⟩
  have HBL2 := tbB HBL1 hb
  have hx2 := (hb.block _ lx1).trans hx1
  have lx2 := AJ hx2
  obtain ⟨cx2, fx2⟩ := AA hx2
  have HV2 := lh (HV1.out.below hb)
  clear hb hx1 cx1 fx1
  go_wp2_with fail
  refine (HN2.out w2).mono ?_
  rintro e w3 ⟨rfl, hb⟩
  have HBL3 := tbB HBL2 hb
  have hx3 := (hb.block _ lx2).trans hx2
  have lx3 := AJ hx3
  obtain ⟨cx3, fx3⟩ := AA hx3
  have HV3 := lh (HV2.out.below hb)
  clear hb hx2 cx2 fx2
  go_wp2_with fail
  refine wp_region_noPanic ?_
  refine Wr.BI (S := (fun W => W.heap[w.heap.size]? = some (.cells p 81 (0, 0)))) (K := []) (by kernel_rfl) ?_
  change Wr.Ar _ _ _ _ _ _ _ _ _ (World.drew w3)
  have hS0 : (World.drew w3).heap[w.heap.size]? = some (.cells p 81 (0, 0)) := hx3
  have hBL0 : Below w3.heap.size w3 (World.drew w3) := Bl.drew (Below.refl _ _)
  refine Wr.tkI 0 ?_ ?_ hS0 ?_
  rotate_left
  ·intro wq hSw
   have q0 := hSw
   obtain ⟨qc0, qf0⟩ := AA q0
   go_simp
   rfl
  simp only [sq]
  refine Wr.tkI 1 ?_ ?_ hS0 ?_
  rotate_left
  ·intro wq hSw
   have q0 := hSw
   obtain ⟨qc0, qf0⟩ := AA q0
   go_simp
   rfl
  simp only [sq]
  refine Wr.tkI 2 ?_ ?_ hS0 ?_
  rotate_left
  ·intro wq hSw
   have q0 := hSw
   obtain ⟨qc0, qf0⟩ := AA q0
   go_simp
   rfl
  simp only [sq]
  refine Wr.tkI 3 ?_ ?_ hS0 ?_
  rotate_left
  ·intro wq hSw
   have q0 := hSw
   obtain ⟨qc0, qf0⟩ := AA q0
   go_simp
   rfl
  simp only [sq]
  refine Wr.tkI 4 ?_ ?_ hS0 ?_
  rotate_left
  ·intro wq hSw
   have q0 := hSw
   obtain ⟨qc0, qf0⟩ := AA q0
   go_simp
   rfl
  simp only [sq]
  refine Wr.tkI 5 ?_ ?_ hS0 ?_
  rotate_left
  ·intro wq hSw
   have q0 := hSw
   obtain ⟨qc0, qf0⟩ := AA q0
   go_simp
   rfl
  simp only [sq]
  refine Wr.tkK (i := 6) (v := (.string q)) rfl (.inl ⟨by rfl, ?_⟩) hS0 ?_
  ·intro wq hSw
   have q0 := hSw
   obtain ⟨qc0, qf0⟩ := AA q0
   have hcv := BX wq 100 9 5 underlying100 underlying5 underlying9 _ _ (HP.out.sl q0)
   rw [← HQ.out] at hcv
   go_simp
  simp only [sq]
  refine Wr.tkI 7 ?_ ?_ hS0 ?_
  rotate_left
  ·intro wq hSw
   have q0 := hSw
   obtain ⟨qc0, qf0⟩ := AA q0
   go_simp
   rfl
  simp only [sq]
  refine Wr.tkI 8 ?_ ?_ hS0 ?_
  rotate_left
  ·intro wq hSw
   have q0 := hSw
   obtain ⟨qc0, qf0⟩ := AA q0
   go_simp
   rfl
  simp only [sq]
  refine Wr.Ab (i := 9) (by kernel_rfl) ?_
  refine Ap rfl (by rfl) (w' := (World.drew w3).alloc (.cells #[.string ⟨#[101, 110, 116, 114, 121]⟩, .string r, .string n1, .string n2, .string q, .string e] 9)) (v := .slice (some ⟨(World.drew w3).heap.size, 0, none⟩) 6 6) (by go_simp; first | done | rfl) ?_
  obtain ⟨w6, hw_w6⟩ := nXe ((World.drew w3).alloc (.cells #[.string ⟨#[101, 110, 116, 114, 121]⟩, .string r, .string n1, .string n2, .string q, .string e] 9))
  rw [← hw_w6]
  have hb_w6 : Below (World.drew w3).heap.size (World.drew w3) w6 := by rw [hw_w6]; exact bAx
  have hn_w6 : w6.heap[(World.drew w3).heap.size]? = some (.cells #[.string ⟨#[101, 110, 116, 114, 121]⟩, .string r, .string n1, .string n2, .string q, .string e] 9 (0, 0)) := by rw [hw_w6]; exact Ad _ rfl
  have hS1 : w6.heap[w.heap.size]? = some (.cells p 81 (0, 0)) := (hb_w6.block _ (AJ (hS0))).trans (hS0)
  have hBL1 : Below w3.heap.size w3 w6 := hBL0.trans (hb_w6.mono hBL0.size)
  clear hw_w6
  refine ⟨hS1, ?_⟩
  simp only [sq]
  refine Wr.Ab (i := 10) (by kernel_rfl) ?_
  refine BR rfl (by rfl) (by go_simp; all_goals (and_intros <;> rfl)) ?_
  refine (HL.out w6 _ (EventB.EW hn_w6 rfl (by simp [maxLen]))).mono ?_
  rintro e w7 ⟨rfl, hb_w7⟩
  have hS2 : w7.heap[w.heap.size]? = some (.cells p 81 (0, 0)) := (hb_w7.block _ (AJ (hS1))).trans (hS1)
  have hBL2 : Below w3.heap.size w3 w7 := hBL1.trans (hb_w7.mono hBL1.size)
  refine ⟨_, rfl, ?_, ?_⟩
  ·exact hS2
  simp only [sq]
  refine Wr.tkI 11 ?_ ?_ hS2 ?_
  rotate_left
  ·intro wq hSw
   have q0 := hSw
   obtain ⟨qc0, qf0⟩ := AA q0
   go_simp
   rfl
  simp only [sq]
  refine Wr.tkI 12 ?_ ?_ hS2 ?_
  rotate_left
  ·intro wq hSw
   have q0 := hSw
   obtain ⟨qc0, qf0⟩ := AA q0
   go_simp
   rfl
  simp only [sq]
  refine Wr.tkI 13 ?_ ?_ hS2 ?_
  rotate_left
  ·intro wq hSw
   have q0 := hSw
   obtain ⟨qc0, qf0⟩ := AA q0
   go_simp
   rfl
  simp only [sq]
  refine Wr.tkI 14 ?_ ?_ hS2 ?_
  rotate_left
  ·intro wq hSw
   have q0 := hSw
   obtain ⟨qc0, qf0⟩ := AA q0
   go_simp
   rfl
  simp only [sq]
  refine Wr.Ag (by kernel_rfl) (NoPanic.normal ?_) _
  go_wp2
  go_ret2
  exact ⟨rfl, HBL3.out.trans (hBL2.mono HBL3.out.size)⟩
end EntP
end Go.Proofs.YtceiajepcokacaaGreatDoor
