/-
  WHAT IS PROVED: contracts and plain laws. Condition: each names its own.
-/
import Derived.Test.YtceiajepcokacaaGreatDoorS0
import Derived.Test.YtceiajepcokacaaGreatDoorZHF14
set_option linter.unusedVariables false
set_option linter.unusedSimpArgs false
set_option maxRecDepth 100000
set_option maxHeartbeats 4000000
namespace Go.Proofs.YtceiajepcokacaaGreatDoor
open Go.Proofs.Tryz hiding parts
open Go Go.RowKit
section
variable {P : Program} (w : World)
theorem LF {o : Oper} {a : Act} {K : Act → World → Prop} {Q : Exit → Act → World → Prop} (s x : Operand) (t tx : TypeId)
 (ho : o.op = .call { callee := .builtin .append, args := #[s, x], argTypes := #[t, tx] })
 {e : TypeId} {size bytes : Nat} {z : Value} (T : BN P t e size bytes z) (base : Nat)
 (v : Value) (n : Nat) (xs : List Value) (hv : a.eval s = v) (hown : w.ownsRow base e size v n xs)
 (y : Value) (m : Nat) (news : List Value) (hy : a.eval x = y) (hs : Src P size tx y m news w)
 (N : Nat) (hN : n + m = N) (zs : List Value) (hz : xs ++ news = zs)
 (h63 : N ≤ maxLen) (hbytes : N * bytes ≤ 140737488355328) (hbase : base ≤ w.heap.size)
 (h : ∀ a' c' w', w'.ownsRow base e size (.slice a' N c') N zs → w.grownBy w' v.ownBlock → ((Value.slice a' N c').ownBlock = v.ownBlock ∨ (Value.slice a' N c').ownBlock = some w.heap.size) → K (a.put o.dst (.slice a' N c')) w') : o.wp P a w K Q := by
 subst hN
 subst hz
 obtain ⟨v', w', hr, h2, h3, h4⟩ := run_app (P := P) w o.type tx T base v n xs hown y m news hs h63 hbytes hbase
 unfold Oper.wp execOp
 simp only [ho, resolve, invoke, builtin, Sem.run_bind, Sem.run_pure, Result.andThen_ok, List.map_toArray, List.map_cons, List.map_nil, hv, hy, hr]
 obtain ⟨a', c', rfl, _, _⟩ := ED h2
 exact h a' c' w' h2 h3 h4
theorem Jk {ops : Array Oper} {rest : List Oper} {o : Oper} {a : Act} {Q : Exit → Act → World → Prop} (hgd : o.guard = none) (s x : Operand) (t tx : TypeId)
 (ho : o.op = .call { callee := .builtin .append, args := #[s, x], argTypes := #[t, tx] })
 {e : TypeId} {size bytes : Nat} {z : Value} (T : BN P t e size bytes z) (base : Nat)
 (v : Value) (n : Nat) (xs : List Value) (hv : a.eval s = v) (hown : w.ownsRow base e size v n xs)
 (y : Value) (m : Nat) (news : List Value) (hy : a.eval x = y) (hs : Src P size tx y m news w)
 (N : Nat) (hN : n + m = N) (zs : List Value) (hz : xs ++ news = zs)
 (h63 : N ≤ maxLen) (hbytes : N * bytes ≤ 140737488355328) (hbase : base ≤ w.heap.size)
 (h : ∀ a' c' w', w'.ownsRow base e size (.slice a' N c') N zs → w.grownBy w' v.ownBlock → ((Value.slice a' N c').ownBlock = v.ownBlock ∨ (Value.slice a' N c').ownBlock = some w.heap.size) → wpList P ops Q rest (a.put o.dst (.slice a' N c')) w') : wpList P ops Q (o :: rest) a w :=
 wpList_plain hgd fun _ hK => LF w s x t tx ho T base v n xs hv hown y m news hy hs N hN zs hz h63 hbytes hbase fun a' c' w' h2 h3 h4 => hK _ _ (h a' c' w' h2 h3 h4)
end
/-! ### A slice that is only read: its cells, in order -/
/-! ### What a call may have turned -/
theorem Ext.I5 {S : Nat → Prop} {a b c : World} (h : Ext S a b) (k : Below b.heap.size b c) : Ext S a c := h.trans (.of_below k)
/-! ### Blocks -/
theorem K9 {w w' : World} {row : Option Nat} (hg : w.grownBy w' row) {k : Nat} {x : Obj} (h : w.heap[k]? = some x) (hne : row ≠ some k) : w'.heap[k]? = some x :=
 (hg.block k (Array.getElem?_eq_some_iff.1 h).1 (Ne.symm hne)).trans h
open Go Go.RowKit
/-! ### A slice that grew -/
/-! ### Texts as lists of bytes -/
theorem JG {s t : ByteArray} (h : bl s = bl t) : s = t := by rw [← CG s, h, CG]
theorem KR (s t : ByteArray) : bl (s ++ t) = bl s ++ bl t := by simp [bl]
namespace Steps
open Go Go.RowKit
theorem setRow_size (w : World) (g : Nat) (cs : Array Value) : (w.setRow g cs).heap.size = w.heap.size := by simp [World.setRow]
end Steps
namespace OctetS
/-! ### Texts -/
/-! ### Lists -/
theorem Ip : ∀ (n : Nat) (s : List UInt8), (Bf n s).2.2 = 0 ∨ ∃ w, Bf n s = ([], 0, w) ∧ (w = 5 ∨ w = 6 ∨ w = 7)
 | 0, s => by simp [Bf]
 | n + 1, s => by
   rw [Bf]
   split
   ·rename_i h0
    rcases getText_why s with h | ⟨w, h, hw⟩
    ·exact absurd h h0
    ·exact .inr ⟨w, by rw [h], hw⟩
   ·split
    ·rename_i h1
     rcases Ip n (s.drop (Af s).2.1) with h | ⟨w, h, hw⟩
     ·exact absurd h h1
     ·exact .inr ⟨w, by rw [h], hw⟩
    ·exact .inl rfl
end OctetS
namespace IdentS
theorem JX {a b c d : List UInt8} (ha : ∀ x ∈ a, x ≠ 58) (hb : ∀ x ∈ b, x ≠ 58) (h : a ++ 58 :: c = b ++ 58 :: d) : a = b ∧ c = d := by
 induction a generalizing b with
 | nil =>
   cases b with
   | nil => simpa using h
   | cons y b => simp at h; exact absurd h.1.symm (hb y (List.mem_cons_self ..))
 | cons x a ih =>
   cases b with
   | nil => simp at h; exact absurd h.1 (ha x (List.mem_cons_self ..))
   | cons y b =>
     simp only [List.cons_append, List.cons.injEq] at h
     obtain ⟨h1, h2⟩ := ih (fun z hz => ha z (List.mem_cons_of_mem _ hz)) (fun z hz => hb z (List.mem_cons_of_mem _ hz)) h.2
     exact ⟨by rw [h.1, h1], h2⟩
end IdentS
namespace EventS
open OctetS IdentS
theorem Bw {e : Ev} : BD e = true ↔ Right e := by
 unfold BD
 simp only [Bool.and_eq_true, decide_eq_true_eq]
 exact ⟨fun ⟨a, b, c, d, e, f, g⟩ => ⟨a, b, c, d, e, f, g⟩, fun h => ⟨h.room, h.sender, h.kind, h.key, h.body, h.nonce0, h.nonce1⟩⟩
end EventS
namespace ShaS
/-! ### Digits -/
def Kn (n : Nat) : UInt8 := if n < 10 then UInt8.ofNat (48 + n) else UInt8.ofNat (87 + n)
def hex (h : List UInt8) : List UInt8 := h.flatMap fun x => [Kn (x.toNat / 16), Kn (x.toNat % 16)]
end ShaS
namespace WireT
open Go Go.RowKit Go.Shelf OctetS IdentS EntS WireS OctG OctP OctQ EventP EventC EntP
/-! ### Small numbers -/
theorem JL {t : List UInt8} {n u : Nat} {y : Int} (hg : Ae t = (n, u, y)) : n ≤ BC := by
 rcases D9 t with h | h | h
 ·rw [hg] at h
  simp only at h
  subst h
  exact (Co hg).2.2.2.2
 ·rw [hg] at h; cases h; omega
 ·rw [hg] at h; cases h; omega
/-! ### A list, and its cells -/
/-! ### Entries -/
/-! ### Heads -/
/-! ### Bytes: two texts -/
/-! ### Deals -/
/-! ### Proofs -/
/-! ### Rejections -/
/-! ### Messages -/
/-! ### Results and rows -/
/-! ### More ways to see a list, and a text -/
theorem J3 {s r a b p v : List UInt8} (ha : all s = ([EntS.mark, r, a, b, p, v], 0)) (h : p.length ≠ 32 ∨ small 4096 a = none ∨ small 4096 b = none) : WireS.read s = none := by
 rw [Fp ha, if_neg]
 rintro ⟨h1, h2⟩
 rcases h with h | h | h
 ·exact h h1
 ·simp [EntS.BD, Dk, h] at h2
 ·simp [EntS.BD, Dk, h] at h2
theorem Kc {s r a b p v : List UInt8} {x z : Nat} (ha : all s = ([EntS.mark, r, a, b, p, v], 0)) (hx : small 4096 a = some x) (hz : small 4096 b = some z) (hp : p.length = 32) :
 WireS.read s = if EntS.BD ⟨r, x, z, p, v, []⟩ = true then some ⟨r, x, z, p, v, []⟩ else none := by
 rw [Fp ha, Cn hx, Cn hz]
 simp only [hp, true_and]
theorem JZ {s r a b p : List UInt8} (ha : all s = ([CL, r, a, b, p], 0)) (h : p.length ≠ 32 ∨ small 4096 a = none ∨ small 4096 b = none) : Cc s = none := by
 rw [EY ha, if_neg]
 rintro ⟨h1, h2⟩
 rcases h with h | h | h
 ·exact h h1
 ·simp [CS, Dk, h] at h2
 ·simp [CS, Dk, h] at h2
theorem KI {s r a b p : List UInt8} {x z : Nat} (ha : all s = ([CL, r, a, b, p], 0)) (hx : small 4096 a = some x) (hz : small 4096 b = some z) (hp : p.length = 32) :
 Cc s = if CS ⟨r, x, z, p, []⟩ = true then some ⟨r, x, z, p, []⟩ else none := by
 rw [EY ha, Cn hx, Cn hz]
 simp only [hp, true_and]
end WireT
namespace LivesE
open Go Go.RowKit OctetS IdentS EventS OctP OctA IdentP EventP EventC EventB
attribute [-go_sem] run_equalIn_agg
def MX : Ev := ⟨[33, 104, 97, 108, 108, 58, 48], [64, 97, 110, 110, 58, 48], 6, [], [104, 105], 7⟩
theorem LG : Right MX := Bw.1 (by decide +kernel)
theorem La : EventS.bytes MX = s0 := by decide +kernel
theorem t2 (w : World) : Calls Tryz.prog 48 #[.string (bsOf s0)] w (Bt w (parts MX, 0)) := by
 have h := Ca w (bsOf s0) (by decide)
 rw [AV, ← La, EventS.bytes, all_list LG.fits] at h
 exact h
end LivesE
namespace Ref1S
open OctetS
theorem JD : ∀ (f i n : Nat) (s : List UInt8), (∀ c ∈ s, 128 ≤ c.toNat) → s.length < f → getF f i n s = (0, 0, 5)
 | 0, _, _, _, _, h => by omega
 | f + 1, i, n, [], _, _ => by simp [getF]
 | f + 1, i, n, b :: r, ha, h => by
   rw [getF, if_pos (ha b (List.mem_cons_self ..))]
   exact JD f _ _ r (fun c hc => ha c (List.mem_cons_of_mem _ hc)) (by simp only [List.length_cons] at h; omega)
theorem JM : ∀ (f i n : Nat) (s : List UInt8), (∀ c ∈ s.take f, 128 ≤ c.toNat) → f ≤ s.length → getF f i n s = (0, 0, 6)
 | 0, _, _, _, _, _ => by simp [getF]
 | f + 1, i, n, [], _, h => by simp at h
 | f + 1, i, n, b :: r, ha, h => by
   rw [List.take_succ_cons] at ha
   rw [getF, if_pos (ha b (List.mem_cons_self ..))]
   exact JM f _ _ r (fun c hc => ha c (List.mem_cons_of_mem _ hc)) (by simp only [List.length_cons] at h; omega)
theorem Fx : ∀ (f i n : Nat) (a : List UInt8) (b : UInt8) (r : List UInt8), (∀ c ∈ a, 128 ≤ c.toNat) → b.toNat < 128 → (getF f i n (a ++ b :: r)).2.2 ≠ 5
 | 0, _, _, _, _, _, _, _ => by simp [getF]
 | f + 1, i, n, [], b, r, _, hb => by
   rw [List.nil_append, getF, if_neg (by omega)]
   split <;> simp
 | f + 1, i, n, c :: a, b, r, ha, hb => by
   rw [List.cons_append, getF, if_pos (ha c (List.mem_cons_self ..))]
   exact Fx f _ _ a b r (fun d hd => ha d (List.mem_cons_of_mem _ hd)) hb
theorem Je : ∀ (first : Bool) (u : Nat) (a : List UInt8) (b : UInt8) (r : List UInt8), (∀ c ∈ a, 128 ≤ c.toNat) → b.toNat < 128 → endB first ((a ++ b :: r).take u) = true → (a ++ b :: r).take u = a ++ [b]
 | first, 0, a, b, r, _, _, h => by simp [endB] at h
 | first, u + 1, [], b, r, _, hb, h => by
   rw [List.nil_append, List.take_succ_cons, endB, if_pos hb] at h
   simp only [Bool.and_eq_true, List.isEmpty_iff] at h
   rw [List.nil_append, List.take_succ_cons, h.1]
   rfl
 | first, u + 1, c :: a, b, r, ha, hb, h => by
   rw [List.cons_append, List.take_succ_cons, endB, if_neg (by have := ha c (List.mem_cons_self ..); omega)] at h
   rw [List.cons_append, List.take_succ_cons, Je false u a b r (fun d hd => ha d (List.mem_cons_of_mem _ hd)) hb h]
   rfl
theorem Ju {a : List UInt8} {b : UInt8} {r : List UInt8} (ha : ∀ c ∈ a, 128 ≤ c.toNat) (hb : b.toNat < 128) :
 Ae (a ++ b :: r) = if val (a ++ [b]) ≤ BC ∧ num (val (a ++ [b])) = a ++ [b] then (val (a ++ [b]), a.length + 1, 0) else (0, 0, 6) := by
 split
 ·rename_i h
  obtain ⟨h1, h2⟩ := h
  have := FQ h1 r
  rw [h2] at this
  rw [show a ++ b :: r = a ++ [b] ++ r by simp, this]
  simp
 ·rename_i h
  rcases D9 (a ++ b :: r) with h0 | h0 | h0
  ·exfalso
   obtain ⟨n, u, y, hg⟩ : ∃ n u y, Ae (a ++ b :: r) = (n, u, y) := ⟨_, _, _, rfl⟩
   rw [hg] at h0
   simp only at h0
   subst h0
   obtain ⟨_, _, _, h4, h5⟩ := Co hg
   obtain ⟨e1, e2⟩ := num_end (n := n) (Nat.lt_of_le_of_lt h5 (by decide))
   have h6 := Je true u a b r ha hb (by rw [← h4]; exact e1)
   rw [h6] at h4
   apply h
   rw [← h4, e2]
   exact ⟨h5, rfl⟩
  ·exfalso
   have := Fx 7 0 0 a b r ha hb
   unfold Ae at h0
   rw [h0] at this
   exact this rfl
  ·exact h0
theorem JR {s : List UInt8} (ha : ∀ c ∈ s, 128 ≤ c.toNat) (h : s.length < 7) : Ae s = (0, 0, 5) := JD 7 0 0 s ha h
theorem Iw {s : List UInt8} (ha : ∀ c ∈ s.take 7, 128 ≤ c.toNat) (h : 7 ≤ s.length) : Ae s = (0, 0, 6) := JM 7 0 0 s ha h
theorem KV (l : List UInt8) (b : UInt8) : val (l ++ [b]) = val l + 128 ^ l.length * (b.toNat % 128) := by
 induction l with
 | nil => simp [val]
 | cons c l ih =>
   rw [List.cons_append, val, val, ih, List.length_cons, Nat.pow_succ, Nat.mul_add]
   have : 128 * (128 ^ l.length * (b.toNat % 128)) = 128 ^ l.length * 128 * (b.toNat % 128) := by
    rw [← Nat.mul_assoc, Nat.mul_comm 128]
   omega
theorem KW : ∀ (l : List UInt8), val l < 128 ^ l.length
 | [] => by simp [val]
 | b :: r => by
   have := KW r
   rw [val, List.length_cons, Nat.pow_succ]
   have : b.toNat % 128 < 128 := Nat.mod_lt _ (by omega)
   omega
end Ref1S
namespace Ref1N
open Go Go.RowKit OctetS OctP OctQ Ref1S
theorem D5 (w : World) (u : Value) (t : TypeId) : Sl (w.alloc (.cells #[u] t)) (.slice (some ⟨w.heap.size, 0, none⟩) 1 1) 1 1 [u] := by
 refine ⟨by simp, .inr ⟨⟨w.heap.size, 0, none⟩, 1, rfl, Nat.le_refl _, by decide, fun j v hv => ?_⟩⟩
 have h := AL w (.cells #[u] t)
 rw [show (Addr.add ⟨w.heap.size, 0, none⟩ j : Addr) = ⟨w.heap.size, j, none⟩ by unfold Addr.add; cases j <;> simp]
 rw [AO h]
 simpa using hv
theorem EJ (a b : List UInt8) : bsOf a ++ bsOf b = bsOf (a ++ b) := by
 refine JG ?_
 rw [AV]
 simp [bl, bsOf]
theorem Ld (w : World) (n : Nat) (hn : BC < n) :
 Calls Tryz.prog 114 #[.int .u64 n] w fun e w' => e = .returned (.tuple #[.string ByteArray.empty, .int .i64 1]) ∧ w = w' := by
 unfold BC at hn
 go_enter func114, ntmps114
 go_wp2
 go_ret2
 exact ⟨rfl, rfl⟩
theorem Er (w : World) (n : Nat) (hn : n ≤ BC) :
 Calls Tryz.prog 114 #[.int .u64 n] w fun e w' => e = .returned (.tuple #[.string (bsOf (num n)), .int .i64 0]) ∧ Below w.heap.size w w' := by
 unfold BC at hn
 obtain ⟨N, hN⟩ : ∃ N : Int, N = n := ⟨_, rfl⟩
 rw [← hN]
 have hNn : ¬ 281474976710656 < N := by omega
 obtain ⟨HN, Hn⟩ := l2h hN hn
 clear hN hn
 go_enter func114, ntmps114
 go_wp2
 go_loopw [0, 4] (fun x y wr => ∃ (M : Int) (m f : Nat) (acc : List UInt8), x = .int .u64 M ∧ M = m ∧ y = .string (bsOf acc) ∧ acc ++ numF f m = num n ∧ m < 128 ^ (f + 1) ∧ m ≤ 281474976710656 ∧ acc.length + f = 9 ∧ Below w.heap.size w wr) (fun x _ _ => (intOf x).toNat)
 case atStart => exact ⟨N, n, 9, [], rfl, HN.out, rfl, rfl, by have := Hn.out; omega, Hn.out, rfl, Below.refl _ _⟩
 case round =>
  obtain ⟨M, m, f, acc, rfl, hM, rfl, heq, hm1, hm2, hlen, hb⟩ := hrel
  obtain ⟨A, hA⟩ := nXe (bsOf acc)
  have hAz : A.size ≤ 9 := by rw [hA, AY]; omega
  rw [← hA]
  have hM0 : 0 ≤ M := by omega
  have hM1 : M < 9223372036854775808 := by omega
  obtain ⟨HM, HA, Heq, HB, Hm1, Hm2⟩ := l6h hM hA heq hb hm1 hm2
  clear hA heq hb hm1 hm2
  by_cases h : 128 ≤ M
  ·obtain ⟨bb, hbb⟩ := nXe (UInt8.ofNat (m % 128 + 128))
   have hbn : (bb.toNat : Int) = M % 128 + 128 := by rw [hbb, toNat_ofNat (by omega)]; omega
   clear hM
   have hcv := BX (wr.alloc (.cells #[.int .u8 (M % 128 + 128)] 5)) 100 9 5 underlying100 underlying5 underlying9 (.slice (some ⟨wr.heap.size, 0, none⟩) 1 1) [bb] (by
        have := D5 wr (.int .u8 (M % 128 + 128)) 5
        unfold byV
        simpa [hbn] using this)
   obtain ⟨B, hB⟩ := nXe (bsOf [bb])
   have hBz : B.size = 1 := by rw [hB, AY]; rfl
   rw [← hB] at hcv
   obtain ⟨HBB, Hbb⟩ := l2h hB hbb
   clear hB hbb hbn
   go_wp2
   go_roundw
   case rel =>
        have hf := Hm1.out
        have hMm := HM.out
        cases f with
        | zero => omega
        | succ f =>
          refine ⟨M / 128, m / 128, f, acc ++ [bb], rfl, by omega, by rw [HA.out, HBB.out, EJ], ?_, ?_, by have := Hm2.out; omega, by simp; omega, HB.out.alloc HB.out.size _⟩
          ·rw [← Heq.out, numF, if_neg (by omega), Hbb.out]
           simp
          ·rw [Nat.pow_succ] at hf
           exact Nat.div_lt_of_lt_mul (by rw [Nat.mul_comm]; exact hf)
   case measure => simp [intOf]; omega
  ·obtain ⟨bb, hbb⟩ := nXe (UInt8.ofNat m)
   have hbn : (bb.toNat : Int) = M := by rw [hbb, toNat_ofNat (by omega)]; omega
   clear hM
   have hcv := BX (wr.alloc (.cells #[.int .u8 M] 5)) 100 9 5 underlying100 underlying5 underlying9 (.slice (some ⟨wr.heap.size, 0, none⟩) 1 1) [bb] (by
        have := D5 wr (.int .u8 M) 5
        unfold byV
        simpa [hbn] using this)
   obtain ⟨B, hB⟩ := nXe (bsOf [bb])
   have hBz : B.size = 1 := by rw [hB, AY]; rfl
   rw [← hB] at hcv
   have HBB := lh hB
   have Hnum : Hid (acc ++ [bb] = num n) := by
        refine lh ?_
        have hMm := HM.out
        rw [← Heq.out, hbb]
        cases f with
        | zero => rfl
        | succ f => rw [numF, if_pos (by omega)]
   clear hB hbb hbn
   go_wp2
   go_ret2
   refine ⟨?_, HB.out.alloc HB.out.size _⟩
   rw [← Hnum.out, ← EJ, ← HA.out, ← HBB.out]
   rfl
end Ref1N
namespace Ref1G
open Go Go.RowKit OctetS OctP OctQ Ref1S Ref1N
def Kh (g : Nat × Nat × Int) : Value := .tuple #[.int .u64 g.1, .int .i64 g.2.1, .int .i64 g.2.2]
theorem FC (w : World) (s : ByteArray) (hs : s.size ≤ maxLen) :
 Calls Tryz.prog 95 #[.string s] w fun e w' => e = .returned (Kh (Ae (bl s))) ∧ Below w.heap.size w w' := by
 unfold maxLen at hs
 go_enter func95, ntmps95
 go_wp2
 go_loop [5, 6, 7] (fun x y i => ∃ (k : Nat) (N U : Int), i = .int .i64 k ∧ x = .int .u64 N ∧ y = .int .u64 U ∧ N = (val ((bl s).take k) : Nat) ∧ U = (128 ^ k : Nat) ∧ k ≤ s.size ∧ k ≤ 7 ∧ ∀ c ∈ (bl s).take k, 128 ≤ c.toNat) (fun x y i => s.size - (intOf i).toNat)
 case atStart => exact ⟨0, 0, 1, rfl, rfl, rfl, rfl, rfl, by omega, by omega, fun c hc => by simp at hc⟩
 case round =>
  obtain ⟨k, N, U, rfl, rfl, rfl, hN, hU, hk, hk7, hall⟩ := hrel
  have Hall := lh hall
  have hN0 : 0 ≤ N := by omega
  have hp7 : 128 ^ k ≤ 128 ^ 7 := Nat.pow_le_pow_right (by omega) hk7
  have hp1 : 1 ≤ 128 ^ k := Nat.one_le_pow _ _ (by omega)
  have hp8 : (128 : Nat) ^ 7 = 562949953421312 := by decide
  have hvl := KW ((bl s).take k)
  rw [List.length_take, AP, Nat.min_eq_left hk] at hvl
  have hN1 : N < 562949953421312 := by omega
  have hU0 : 1 ≤ U := by omega
  have hU1 : U ≤ 562949953421312 := by omega
  clear hp7 hp1 hp8 hvl
  obtain ⟨HN, HU⟩ := l2h hN hU
  clear hall hN hU
  by_cases hlt : k < s.size
  ·by_cases h7 : k = 7
   ·subst h7
    have hfin : Ae (bl s) = (0, 0, 6) := Iw Hall.out (by rw [AP]; omega)
    have Hfin := lh hfin
    clear hfin
    go_wp2
    go_ret3
    exact ⟨by rw [Hfin.out]; rfl, Below.refl _ _⟩
   ·have hp0 : 0 ≤ ((s[k]).toNat : Int) % 128 * U := Int.mul_nonneg (by omega) (by omega)
    have hp1 : ((s[k]).toNat : Int) % 128 * U ≤ 127 * 562949953421312 := Int.mul_le_mul (by omega) hU1 (by omega) (by omega)
    have hk2 : k < (bl s).length := by rw [AP]; exact hlt
    have hg := bl_get s k hlt
    have htk : (bl s).take (k + 1) = (bl s).take k ++ [s[k]] := by
     rw [List.getElem?_eq_getElem hk2] at hg
     rw [List.take_succ_eq_append_getElem hk2, Option.some.inj hg]
     rfl
    have hvs : N + ((s[k]).toNat : Int) % 128 * U = (val ((bl s).take (k + 1)) : Nat) := by
     rw [htk, KV, List.length_take, AP, Nat.min_eq_left (by omega), HN.out, HU.out, Nat.mul_comm]
     push_cast
     rfl
    obtain ⟨Htk, Hvs⟩ := l2h htk hvs
    clear htk hvs hg
    by_cases hb : 128 ≤ (s[k]).toNat
    ·go_wp2
     go_round
     case rel =>
      refine ⟨k + 1, N + ((s[k]).toNat : Int) % 128 * U, U * 128, by go_num, rfl, rfl, Hvs.out, ?_, by omega, by omega, ?_⟩
      ·rw [HU.out, Nat.pow_succ]
       push_cast
       rfl
      ·intro c hc
       rw [Htk.out, List.mem_append] at hc
       rcases hc with hc | hc
       ·exact Hall.out c hc
       ·simp only [List.mem_singleton] at hc
        rw [hc]
        exact hb
     case measure => simp [intOf]; omega
    ·have hsp : bl s = (bl s).take k ++ s[k] :: (bl s).drop (k + 1) := by
      have := (List.take_append_drop k (bl s)).symm
      rw [Dv s k hlt] at this
      exact this
     have hfin := Ju (r := (bl s).drop (k + 1)) Hall.out (show (s[k]).toNat < 128 by omega)
     rw [← hsp, ← Htk.out] at hfin
     obtain ⟨m, hm⟩ := nXe (val ((bl s).take (k + 1)))
     have hMm : N + ((s[k]).toNat : Int) % 128 * U = (m : Int) := by rw [Hvs.out, hm]
     rw [← hm] at hfin
     have hex : bl (s.extract 0 (k + 1)) = (bl s).take (k + 1) := by rw [Aj]; rfl
     have hlen : ((bl s).take k).length + 1 = k + 1 := by rw [List.length_take, AP]; omega
     rw [hlen] at hfin
     by_cases hmx : m ≤ BC
     ·have Js : ∀ w, Calls Tryz.prog 114 #[.int .u64 (N + ((s[k]).toNat : Int) % 128 * U)] w fun e w' => e = .returned (.tuple #[.string (bsOf (num m)), .int .i64 0]) ∧ Below w.heap.size w w' := fun w => by
       rw [hMm]
       exact Er w m hmx
      obtain ⟨T, hT⟩ := nXe (bsOf (num m))
      rw [← hT] at Js
      have LB := lh Js
      by_cases he : num m = (bl s).take (k + 1)
      ·rw [if_pos ⟨hmx, he⟩] at hfin
       have hTe : T = s.extract 0 (k + 1) := by rw [hT, he, ← hex, CG]
       have hres : Kh (m, k + 1, 0) = .tuple #[.int .u64 (N + ((s[k]).toNat : Int) % 128 * U), .int .i64 ((k : Int) + 1), .int .i64 0] := by
        unfold Kh
        simp only
        rw [hMm]
        rfl
       obtain ⟨Hfin, Hres⟩ := l2h hfin hres
       clear Js hT he hfin hm hMm hres hex hsp hlen hmx
       subst hTe
       go_wp2_with fail
       refine (LB.out _).mono ?_
       rintro e w' ⟨rfl, hb'⟩
       have HB := lh hb'
       clear hb'
       go_wp2
       go_ret3
       exact ⟨by rw [Hfin.out, Hres.out]; rfl, HB.out⟩
      ·rw [if_neg (fun h => he h.2)] at hfin
       have hne := ET (s := T) (t := s.extract 0 (k + 1)) (fun h => he (by rw [← hex, ← h, hT, AV]))
       have Hfin := lh hfin
       clear Js hT he hfin hm hMm hex hsp hlen hmx
       go_wp2_with fail
       refine (LB.out _).mono ?_
       rintro e w' ⟨rfl, hb'⟩
       have HB := lh hb'
       clear hb'
       go_wp2
       go_ret3
       exact ⟨by rw [Hfin.out]; rfl, HB.out⟩
     ·have Js : ∀ w, Calls Tryz.prog 114 #[.int .u64 (N + ((s[k]).toNat : Int) % 128 * U)] w fun e w' => e = .returned (.tuple #[.string ByteArray.empty, .int .i64 1]) ∧ w = w' := fun w => by
       rw [hMm]
       exact Ld w m (by omega)
      have LB := lh Js
      rw [if_neg (fun h => hmx h.1)] at hfin
      have Hfin := lh hfin
      clear Js hfin hm hMm hex hsp hlen hmx
      go_wp2_with fail
      refine (LB.out _).mono ?_
      rintro e w' ⟨rfl, rfl⟩
      go_wp2
      go_ret3
      exact ⟨by rw [Hfin.out]; rfl, Below.refl _ _⟩
  ·have hkz : k = s.size := by omega
   subst hkz
   rw [List.take_of_length_le (by rw [AP]; omega)] at Hall
   by_cases h7 : s.size = 7
   ·have hfin : Ae (bl s) = (0, 0, 6) := Iw (fun c hc => Hall.out c (List.mem_of_mem_take hc)) (by rw [AP]; omega)
    have Hfin := lh hfin
    clear hfin
    go_wp2
    go_ret3
    exact ⟨by rw [Hfin.out]; rfl, Below.refl _ _⟩
   ·have hfin : Ae (bl s) = (0, 0, 5) := JR Hall.out (by rw [AP]; omega)
    have Hfin := lh hfin
    clear hfin
    go_wp2
    go_ret3
    exact ⟨by rw [Hfin.out]; rfl, Below.refl _ _⟩
end Ref1G
namespace Ref1T
open Go Go.RowKit OctetS OctP OctQ Ref1S Ref1N Ref1G
theorem DR (w : World) (s : ByteArray) (h : s.size ≤ 8192) :
 Calls Tryz.prog 132 #[.string s] w fun e w' => e = .returned (.tuple #[.string (bsOf (text (bl s))), .int .i64 0]) ∧ Below w.heap.size w w' := by
 have hN := fun w => Ref1N.Er w s.size (by unfold BC; omega)
 obtain ⟨T, hT⟩ := nXe (bsOf (num s.size))
 have hz : T.size ≤ 2 := by rw [hT, AY]; exact CV h
 have hcat : T ++ s = bsOf (text (bl s)) := by
  refine JG ?_
  rw [AV, text, AP, hT]
  simp [bl, bsOf]
 rw [← hT] at hN
 obtain ⟨HN, Mf⟩ := l2h hN hcat
 clear hN hcat hT
 go_enter func132, ntmps132
 go_wp2_with fail
 refine (HN.out w).mono ?_
 rintro e w' ⟨rfl, hb⟩
 have HB := lh hb
 clear hb
 go_wp2
 go_ret2
 exact ⟨by rw [← Mf.out]; rfl, HB.out⟩
def textV (t : List UInt8 × Nat × Int) : Value := .tuple #[.string (bsOf t.1), .int .i64 t.2.1, .int .i64 t.2.2]
theorem Gs (w : World) (s : ByteArray) (hs : s.size ≤ maxLen) :
 Calls Tryz.prog 113 #[.string s] w fun e w' => e = .returned (textV (Af (bl s))) ∧ Below w.heap.size w w' := by
 have hG := Ref1G.FC w s hs
 unfold maxLen at hs
 obtain ⟨n, u, y, hg⟩ : ∃ n u y, Ae (bl s) = (n, u, y) := ⟨_, _, _, rfl⟩
 rw [hg] at hG
 unfold Kh at hG
 simp only at hG
 by_cases hy : y = 0
 ·subst hy
  obtain ⟨hu1, hu7, hul, _, hmax⟩ := Co hg
  unfold BC at hmax
  rw [AP] at hul
  obtain ⟨N, hN⟩ : ∃ N : Int, N = n := ⟨_, rfl⟩
  rw [← hN] at hG
  by_cases h8 : n ≤ 8192
  ·have hN8 : N ≤ 8192 := by omega
   have hN0 : 0 ≤ N := by omega
   have HN := lh hN
   by_cases he : u + n ≤ s.size
   ·have hfin : Af (bl s) = (((bl s).drop u).take n, u + n, 0) := by
        unfold Af
        rw [hg]
        simp only
        rw [if_neg (by simp), if_neg (by omega), if_neg (by rw [AP]; omega)]
    have hx : bl (s.extract u (u + n)) = ((bl s).drop u).take n := by
        rw [Aj, show u + n - u = n by omega]
    have hle : (u : Int) + N ≤ s.size := by omega
    have ht : ((u : Int) + N).toNat = u + n := by omega
    have hres : textV (((bl s).drop u).take n, u + n, 0) = .tuple #[.string (s.extract u (u + n)), .int .i64 ((u : Int) + N), .int .i64 0] := by
        unfold textV
        simp only
        rw [← hx, CG, hN]
        rfl
    have Hres := lh hres
    clear hres hx hN
    obtain ⟨Hfin, HG⟩ := l2h hfin hG
    clear hfin hG hg
    go_enter func113, ntmps113
    go_wp2_with fail
    refine HG.out.mono ?_
    rintro e w' ⟨rfl, hb⟩
    have HB := lh hb
    clear hb
    go_wp2
    go_ret3
    exact ⟨by rw [Hfin.out]; rw [Hres.out]; rfl, HB.out⟩
   ·have hfin : Af (bl s) = ([], 0, 5) := by
        unfold Af
        rw [hg]
        simp only
        rw [if_neg (by simp), if_neg (by omega), if_pos (by rw [AP]; omega)]
    have hle : (s.size : Int) < (u : Int) + N := by omega
    clear hN
    obtain ⟨Hfin, HG⟩ := l2h hfin hG
    clear hfin hG hg
    go_enter func113, ntmps113
    go_wp2_with fail
    refine HG.out.mono ?_
    rintro e w' ⟨rfl, hb⟩
    have HB := lh hb
    clear hb
    go_wp2
    go_ret3
    exact ⟨by rw [Hfin.out]; rfl, HB.out⟩
  ·have hfin : Af (bl s) = ([], 0, 7) := by
        unfold Af
        rw [hg]
        simp only
        rw [if_neg (by simp), if_pos (by omega)]
   have hN8 : 8192 < N := by omega
   clear hN
   obtain ⟨Hfin, HG⟩ := l2h hfin hG
   clear hfin hG hg
   go_enter func113, ntmps113
   go_wp2_with fail
   refine HG.out.mono ?_
   rintro e w' ⟨rfl, hb⟩
   have HB := lh hb
   clear hb
   go_wp2
   go_ret3
   exact ⟨by rw [Hfin.out]; rfl, HB.out⟩
 ·have hfin : Af (bl s) = ([], 0, y) := by
   unfold Af
   rw [hg]
   exact if_pos hy
  have hyb : (y != 0) = true := by simp [hy]
  obtain ⟨Hfin, HG⟩ := l2h hfin hG
  clear hfin hG hg
  go_enter func113, ntmps113
  go_wp2_with fail
  refine HG.out.mono ?_
  rintro e w' ⟨rfl, hb⟩
  have HB := lh hb
  clear hb
  go_wp2
  go_ret3
  exact ⟨by rw [Hfin.out]; rfl, HB.out⟩
end Ref1T
namespace Ref1L
open Go Go.RowKit OctetS OctP OctQ Ref1N
theorem List_ok (w : World) (v : Value) (l : List ByteArray) (h : Rd w v l) (hf : fits (l.map bl) = true) :
 Calls Tryz.prog 116 #[v] w fun e w' => e = .returned (.tuple #[.string (bsOf (OctetS.list (l.map bl))), .int .i64 0]) ∧ Below w.heap.size w w' := by
 obtain ⟨hf1, hf2⟩ := Cq.1 hf
 rw [List.length_map] at hf1
 have hN := Ref1N.Er w l.length (by unfold BC; omega)
 obtain ⟨a, cap, rfl, hcap, hm⟩ := h.form
 obtain ⟨Hf2, H, HN⟩ := l3h hf2 h hN
 clear h hf hf2 hN
 go_enter func116, ntmps116
 go_wp2_with fail
 refine HN.out.mono ?_
 rintro e w1 ⟨rfl, hb⟩
 have HB := lh hb
 clear hb
 go_wp2
 go_loopw [4, 22] (fun y i wr => ∃ (lb : List UInt8) (k : Nat), y = .string (bsOf lb) ∧ i = .int .i64 k ∧ k ≤ l.length ∧ Below w.heap.size w wr ∧ lb = num l.length ++ ((l.map bl).take k).flatMap text ∧ lb.length ≤ 7 + k * 8200) (fun _ i _ => l.length - (intOf i).toNat)
 case atStart => exact ⟨num l.length, 0, rfl, rfl, by omega, HB.out, by simp, by have := Dj (n := l.length) (by unfold BC; omega); omega⟩
 case round =>
  obtain ⟨lb, k, rfl, rfl, hk, hb, hlb, hlen⟩ := hrel
  obtain ⟨A, hA⟩ := nXe (bsOf lb)
  have hAz : A.size ≤ 7 + k * 8200 := by rw [hA, AY]; omega
  rw [← hA]
  obtain ⟨HA, HB2, Hlb⟩ := l3h hA hb hlb
  clear hA hb hlb
  by_cases hlt : k < l.length
  ·obtain ⟨b, off, rfl, hbl, hcell⟩ := H.out.plain (by rw [strV_length]; omega)
   have hc : wr.cell? ⟨b, off + k, none⟩ = some (.string l[k]) := by
        rw [HB2.out.cell (p := ⟨b, off + k, none⟩) hbl]
        exact hcell k _ (by simp [strV, hlt])
   have hl8 : l[k].size ≤ 8192 := by
        have := Hf2.out (bl l[k]) (List.mem_map.2 ⟨l[k], List.getElem_mem hlt, rfl⟩)
        rwa [AP] at this
   have Hcell := lh hcell
   clear hcell
   have hT := Ref1T.DR wr l[k] hl8
   obtain ⟨T, hTT⟩ := nXe (bsOf (text (bl l[k])))
   have hTz : T.size ≤ 8194 := by
        have hn1 : (num l[k].size).length ≤ 2 := CV hl8
        rw [hTT, AY, text, List.length_append, AP]
        omega
   rw [← hTT] at hT
   obtain ⟨HT, HTT⟩ := l2h hT hTT
   clear hT hTT
   go_wp2_with fail
   refine HT.out.mono ?_
   rintro e w2 ⟨rfl, hb⟩
   have HB3 := tbB HB2 hb
   clear hb
   go_wp2
   go_roundw
   case rel =>
        refine ⟨lb ++ text (bl l[k]), k + 1, by rw [HA.out, HTT.out, EJ], by go_num, by omega, HB3.out, ?_, ?_⟩
        ·rw [Hlb.out, List.take_succ_eq_append_getElem (by simpa using hlt)]
         simp [List.append_assoc]
        ·have : (text (bl l[k])).length = T.size := by rw [HTT.out, AY]
         rw [List.length_append]
         omega
   case measure => simp [intOf]; omega
  ·obtain rfl : k = l.length := by omega
   go_wp2
   go_ret2
   refine ⟨?_, HB2.out⟩
   rw [HA.out, Hlb.out, OctetS.list, List.length_map, List.take_of_length_le (by simp)]
   rfl
end Ref1L
end Go.Proofs.YtceiajepcokacaaGreatDoor
