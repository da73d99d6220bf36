/-
  WHAT IS PROVED: contracts of functions, and plain laws. Condition: what each theorem names.
-/
import Derived.Test.YtadofbbpfgmclaaGreatDoorS0
import Derived.Test.YtadofbbpfgmclaaGreatDoorZTBH07
set_option linter.unusedVariables false
set_option linter.unusedSimpArgs false
set_option maxRecDepth 100000
set_option maxHeartbeats 4000000
namespace Go.Proofs.YtadofbbpfgmclaaGreatDoor
open Go.Proofs.Tryz
open Go Go.RowKit
section
variable {P : Program} (w : World)
theorem LB {o : Oper} {a : Act} {K : Act → World → Prop} {Q : Exit → Act → World → Prop} (s x : Operand) (t tx : TypeId)
 (ho : o.op = .call { callee := .builtin .append, args := #[s, x], argTypes := #[t, tx] })
 {e : TypeId} {size bytes : Nat} {z : Value} (T : CU P t e size bytes z) (base : Nat)
 (v : Value) (n : Nat) (xs : List Value) (hv : a.eval s = v) (hown : w.ownsRow base e size v n xs)
 (y : Value) (m : Nat) (news : List Value) (hy : a.eval x = y) (hs : Src P size tx y m news w)
 (N : Nat) (hN : n + m = N) (zs : List Value) (hz : xs ++ news = zs)
 (h63 : N ≤ maxLen) (hbytes : N * bytes ≤ 140737488355328) (hbase : base ≤ w.heap.size)
 (h : ∀ a' c' w', w'.ownsRow base e size (.slice a' N c') N zs → w.grownBy w' v.ownBlock → ((Value.slice a' N c').ownBlock = v.ownBlock ∨ (Value.slice a' N c').ownBlock = some w.heap.size) → K (a.put o.dst (.slice a' N c')) w') : o.wp P a w K Q := by
 subst hN
 subst hz
 obtain ⟨v', w', hr, h2, h3, h4⟩ := run_app (P := P) w o.type tx T base v n xs hown y m news hs h63 hbytes hbase
 unfold Oper.wp execOp
 simp only [ho, resolve, invoke, builtin, Sem.run_bind, Sem.run_pure, Result.andThen_ok, List.map_toArray, List.map_cons, List.map_nil, hv, hy, hr]
 obtain ⟨a', c', rfl, _, _⟩ := EP h2
 exact h a' c' w' h2 h3 h4
theorem Jj {ops : Array Oper} {rest : List Oper} {o : Oper} {a : Act} {Q : Exit → Act → World → Prop} (hgd : o.guard = none) (s x : Operand) (t tx : TypeId)
 (ho : o.op = .call { callee := .builtin .append, args := #[s, x], argTypes := #[t, tx] })
 {e : TypeId} {size bytes : Nat} {z : Value} (T : CU P t e size bytes z) (base : Nat)
 (v : Value) (n : Nat) (xs : List Value) (hv : a.eval s = v) (hown : w.ownsRow base e size v n xs)
 (y : Value) (m : Nat) (news : List Value) (hy : a.eval x = y) (hs : Src P size tx y m news w)
 (N : Nat) (hN : n + m = N) (zs : List Value) (hz : xs ++ news = zs)
 (h63 : N ≤ maxLen) (hbytes : N * bytes ≤ 140737488355328) (hbase : base ≤ w.heap.size)
 (h : ∀ a' c' w', w'.ownsRow base e size (.slice a' N c') N zs → w.grownBy w' v.ownBlock → ((Value.slice a' N c').ownBlock = v.ownBlock ∨ (Value.slice a' N c').ownBlock = some w.heap.size) → wpList P ops Q rest (a.put o.dst (.slice a' N c')) w') : wpList P ops Q (o :: rest) a w :=
 wpList_plain hgd fun _ hK => LB w s x t tx ho T base v n xs hv hown y m news hy hs N hN zs hz h63 hbytes hbase fun a' c' w' h2 h3 h4 => hK _ _ (h a' c' w' h2 h3 h4)
end
/-! ### A slice that is only read: its cells, in order -/
/-! ### What a call may have turned -/
/-! ### Blocks -/
theorem Ky {w w' : World} {row : Option Nat} (hg : w.grownBy w' row) {k : Nat} {x : Obj} (h : w.heap[k]? = some x) (hne : row ≠ some k) : w'.heap[k]? = some x :=
 (hg.block k (Array.getElem?_eq_some_iff.1 h).1 (Ne.symm hne)).trans h
open Go Go.RowKit
/-! ### A slice that grew -/
/-! ### Texts as lists of bytes -/
theorem JH {s t : ByteArray} (h : bl s = bl t) : s = t := by rw [← Bj s, h, Bj]
theorem KR (s t : ByteArray) : bl (s ++ t) = bl s ++ bl t := by simp [bl]
namespace OctetS
/-! ### Texts -/
/-! ### Lists -/
theorem Iw : ∀ (n : Nat) (s : List UInt8), (Bq n s).2.2 = 0 ∨ ∃ w, Bq n s = ([], 0, w) ∧ (w = 5 ∨ w = 6 ∨ w = 7)
 | 0, s => by simp [Bq]
 | n + 1, s => by
   rw [Bq]
   split
   ·rename_i h0
    rcases getText_why s with h | ⟨w, h, hw⟩
    ·exact absurd h h0
    ·exact .inr ⟨w, by rw [h], hw⟩
   ·split
    ·rename_i h1
     rcases Iw n (s.drop (Ab s).2.1) with h | ⟨w, h, hw⟩
     ·exact absurd h h1
     ·exact .inr ⟨w, by rw [h], hw⟩
    ·exact .inl rfl
end OctetS
namespace IdentS
theorem JY {a b c d : List UInt8} (ha : ∀ x ∈ a, x ≠ 58) (hb : ∀ x ∈ b, x ≠ 58) (h : a ++ 58 :: c = b ++ 58 :: d) : a = b ∧ c = d := by
 induction a generalizing b with
 | nil =>
   cases b with
   | nil => simpa using h
   | cons y b => simp at h; exact absurd h.1.symm (hb y (List.mem_cons_self ..))
 | cons x a ih =>
   cases b with
   | nil => simp at h; exact absurd h.1 (ha x (List.mem_cons_self ..))
   | cons y b =>
     simp only [List.cons_append, List.cons.injEq] at h
     obtain ⟨h1, h2⟩ := ih (fun z hz => ha z (List.mem_cons_of_mem _ hz)) (fun z hz => hb z (List.mem_cons_of_mem _ hz)) h.2
     exact ⟨by rw [h.1, h1], h2⟩
end IdentS
namespace ShaS
/-! ### Digits -/
def Kk (n : Nat) : UInt8 := if n < 10 then UInt8.ofNat (48 + n) else UInt8.ofNat (87 + n)
def hex (h : List UInt8) : List UInt8 := h.flatMap fun x => [Kk (x.toNat / 16), Kk (x.toNat % 16)]
end ShaS
namespace WireT
open Go Go.RowKit Go.Shelf OctetS IdentS EntS WireS OctG OctP OctQ EventP EventC EntP
/-! ### Small numbers -/
/-! ### A list, and its cells -/
/-! ### Entries -/
/-! ### Heads -/
/-! ### Bytes: two texts -/
/-! ### Deals -/
/-! ### Proofs -/
/-! ### Rejections -/
/-! ### Messages -/
/-! ### Results and rows -/
/-! ### More ways to see a list, and a text -/
theorem Jy {s r a b p v : List UInt8} (ha : all s = ([EntS.mark, r, a, b, p, v], 0)) (h : p.length ≠ 32 ∨ small 4096 a = none ∨ small 4096 b = none) : WireS.read s = none := by
 rw [Fv ha, if_neg]
 rintro ⟨h1, h2⟩
 rcases h with h | h | h
 ·exact h h1
 ·simp [EntS.A9, Dv, h] at h2
 ·simp [EntS.A9, Dv, h] at h2
theorem Kg {s r a b p v : List UInt8} {x z : Nat} (ha : all s = ([EntS.mark, r, a, b, p, v], 0)) (hx : small 4096 a = some x) (hz : small 4096 b = some z) (hp : p.length = 32) :
 WireS.read s = if EntS.A9 ⟨r, x, z, p, v, []⟩ = true then some ⟨r, x, z, p, v, []⟩ else none := by
 rw [Fv ha, Cv hx, Cv hz]
 simp only [hp, true_and]
theorem Ja {s r a b p : List UInt8} (ha : all s = ([CY, r, a, b, p], 0)) (h : p.length ≠ 32 ∨ small 4096 a = none ∨ small 4096 b = none) : Cn s = none := by
 rw [Eh ha, if_neg]
 rintro ⟨h1, h2⟩
 rcases h with h | h | h
 ·exact h h1
 ·simp [Ck, Dv, h] at h2
 ·simp [Ck, Dv, h] at h2
theorem KJ {s r a b p : List UInt8} {x z : Nat} (ha : all s = ([CY, r, a, b, p], 0)) (hx : small 4096 a = some x) (hz : small 4096 b = some z) (hp : p.length = 32) :
 Cn s = if Ck ⟨r, x, z, p, []⟩ = true then some ⟨r, x, z, p, []⟩ else none := by
 rw [Eh ha, Cv hx, Cv hz]
 simp only [hp, true_and]
end WireT
namespace J5
open OctetS
theorem JE : ∀ (f i n : Nat) (s : List UInt8), (∀ c ∈ s, 128 ≤ c.toNat) → s.length < f → getF f i n s = (0, 0, 5)
 | 0, _, _, _, _, h => by omega
 | f + 1, i, n, [], _, _ => by simp [getF]
 | f + 1, i, n, b :: r, ha, h => by
   rw [getF, if_pos (ha b (List.mem_cons_self ..))]
   exact JE f _ _ r (fun c hc => ha c (List.mem_cons_of_mem _ hc)) (by simp only [List.length_cons] at h; omega)
theorem JL : ∀ (f i n : Nat) (s : List UInt8), (∀ c ∈ s.take f, 128 ≤ c.toNat) → f ≤ s.length → getF f i n s = (0, 0, 6)
 | 0, _, _, _, _, _ => by simp [getF]
 | f + 1, i, n, [], _, h => by simp at h
 | f + 1, i, n, b :: r, ha, h => by
   rw [List.take_succ_cons] at ha
   rw [getF, if_pos (ha b (List.mem_cons_self ..))]
   exact JL f _ _ r (fun c hc => ha c (List.mem_cons_of_mem _ hc)) (by simp only [List.length_cons] at h; omega)
theorem F4 : ∀ (f i n : Nat) (a : List UInt8) (b : UInt8) (r : List UInt8), (∀ c ∈ a, 128 ≤ c.toNat) → b.toNat < 128 → (getF f i n (a ++ b :: r)).2.2 ≠ 5
 | 0, _, _, _, _, _, _, _ => by simp [getF]
 | f + 1, i, n, [], b, r, _, hb => by
   rw [List.nil_append, getF, if_neg (by omega)]
   split <;> simp
 | f + 1, i, n, c :: a, b, r, ha, hb => by
   rw [List.cons_append, getF, if_pos (ha c (List.mem_cons_self ..))]
   exact F4 f _ _ a b r (fun d hd => ha d (List.mem_cons_of_mem _ hd)) hb
theorem Jd : ∀ (first : Bool) (u : Nat) (a : List UInt8) (b : UInt8) (r : List UInt8), (∀ c ∈ a, 128 ≤ c.toNat) → b.toNat < 128 → endB first ((a ++ b :: r).take u) = true → (a ++ b :: r).take u = a ++ [b]
 | first, 0, a, b, r, _, _, h => by simp [endB] at h
 | first, u + 1, [], b, r, _, hb, h => by
   rw [List.nil_append, List.take_succ_cons, endB, if_pos hb] at h
   simp only [Bool.and_eq_true, List.isEmpty_iff] at h
   rw [List.nil_append, List.take_succ_cons, h.1]
   rfl
 | first, u + 1, c :: a, b, r, ha, hb, h => by
   rw [List.cons_append, List.take_succ_cons, endB, if_neg (by have := ha c (List.mem_cons_self ..); omega)] at h
   rw [List.cons_append, List.take_succ_cons, Jd false u a b r (fun d hd => ha d (List.mem_cons_of_mem _ hd)) hb h]
   rfl
theorem Jr {a : List UInt8} {b : UInt8} {r : List UInt8} (ha : ∀ c ∈ a, 128 ≤ c.toNat) (hb : b.toNat < 128) :
 Aa (a ++ b :: r) = if val (a ++ [b]) ≤ Av ∧ num (val (a ++ [b])) = a ++ [b] then (val (a ++ [b]), a.length + 1, 0) else (0, 0, 6) := by
 split
 ·rename_i h
  obtain ⟨h1, h2⟩ := h
  have := FW h1 r
  rw [h2] at this
  rw [show a ++ b :: r = a ++ [b] ++ r by simp, this]
  simp
 ·rename_i h
  rcases EL (a ++ b :: r) with h0 | h0 | h0
  ·exfalso
   obtain ⟨n, u, y, hg⟩ : ∃ n u y, Aa (a ++ b :: r) = (n, u, y) := ⟨_, _, _, rfl⟩
   rw [hg] at h0
   simp only at h0
   subst h0
   obtain ⟨_, _, _, h4, h5⟩ := Cx hg
   obtain ⟨e1, e2⟩ := num_end (n := n) (Nat.lt_of_le_of_lt h5 (by decide))
   have h6 := Jd true u a b r ha hb (by rw [← h4]; exact e1)
   rw [h6] at h4
   apply h
   rw [← h4, e2]
   exact ⟨h5, rfl⟩
  ·exfalso
   have := F4 7 0 0 a b r ha hb
   unfold Aa at h0
   rw [h0] at this
   exact this rfl
  ·exact h0
theorem JS {s : List UInt8} (ha : ∀ c ∈ s, 128 ≤ c.toNat) (h : s.length < 7) : Aa s = (0, 0, 5) := JE 7 0 0 s ha h
theorem I1 {s : List UInt8} (ha : ∀ c ∈ s.take 7, 128 ≤ c.toNat) (h : 7 ≤ s.length) : Aa s = (0, 0, 6) := JL 7 0 0 s ha h
theorem KX (l : List UInt8) (b : UInt8) : val (l ++ [b]) = val l + 128 ^ l.length * (b.toNat % 128) := by
 induction l with
 | nil => simp [val]
 | cons c l ih =>
   rw [List.cons_append, val, val, ih, List.length_cons, Nat.pow_succ, Nat.mul_add]
   have : 128 * (128 ^ l.length * (b.toNat % 128)) = 128 ^ l.length * 128 * (b.toNat % 128) := by
    rw [← Nat.mul_assoc, Nat.mul_comm 128]
   omega
theorem KY : ∀ (l : List UInt8), val l < 128 ^ l.length
 | [] => by simp [val]
 | b :: r => by
   have := KY r
   rw [val, List.length_cons, Nat.pow_succ]
   have : b.toNat % 128 < 128 := Nat.mod_lt _ (by omega)
   omega
end J5
namespace Iq
open Go Go.RowKit OctetS OctP OctQ J5
theorem Gw (w : World) (u : Value) (t : TypeId) : Sl (w.alloc (.cells #[u] t)) (.slice (some ⟨w.heap.size, 0, none⟩) 1 1) 1 1 [u] := by
 refine ⟨by simp, .inr ⟨⟨w.heap.size, 0, none⟩, 1, rfl, Nat.le_refl _, by decide, fun j v hv => ?_⟩⟩
 have h := AL w (.cells #[u] t)
 rw [show (Addr.add ⟨w.heap.size, 0, none⟩ j : Addr) = ⟨w.heap.size, j, none⟩ by unfold Addr.add; cases j <;> simp]
 rw [AO h]
 simpa using hv
theorem ES (a b : List UInt8) : bsOf a ++ bsOf b = bsOf (a ++ b) := by
 refine JH ?_
 rw [AU]
 simp [bl, bsOf]
theorem LQ (w : World) (n : Nat) (hn : Av < n) :
 Calls Tryz.prog 32 #[.int .u64 n] w fun e w' => e = .returned (.tuple #[.string ByteArray.empty, .int .i64 1]) ∧ w = w' := by
 unfold Av at hn
 go_enter func32, ntmps32
 go_wp2
 go_ret2
 exact ⟨rfl, rfl⟩
theorem EW (w : World) (n : Nat) (hn : n ≤ Av) :
 Calls Tryz.prog 32 #[.int .u64 n] w fun e w' => e = .returned (.tuple #[.string (bsOf (num n)), .int .i64 0]) ∧ Below w.heap.size w w' := by
 unfold Av at hn
 obtain ⟨N, hN⟩ : ∃ N : Int, N = n := ⟨_, rfl⟩
 rw [← hN]
 have hNn : ¬ 281474976710656 < N := by omega
 obtain ⟨HN, Hn⟩ := l2h hN hn
 clear hN hn
 go_enter func32, ntmps32
 go_wp2
 go_loopw [0, 4] (fun x y wr => ∃ (M : Int) (m f : Nat) (acc : List UInt8), x = .int .u64 M ∧ M = m ∧ y = .string (bsOf acc) ∧ acc ++ numF f m = num n ∧ m < 128 ^ (f + 1) ∧ m ≤ 281474976710656 ∧ acc.length + f = 9 ∧ Below w.heap.size w wr) (fun x _ _ => (intOf x).toNat)
 case atStart => exact ⟨N, n, 9, [], rfl, HN.out, rfl, rfl, by have := Hn.out; omega, Hn.out, rfl, Below.refl _ _⟩
 case round =>
  obtain ⟨M, m, f, acc, rfl, hM, rfl, heq, hm1, hm2, hlen, hb⟩ := hrel
  obtain ⟨A, hA⟩ := nXe (bsOf acc)
  have hAz : A.size ≤ 9 := by rw [hA, AY]; omega
  rw [← hA]
  have hM0 : 0 ≤ M := by omega
  have hM1 : M < 9223372036854775808 := by omega
  obtain ⟨HM, HA, Heq, HB, Hm1, Hm2⟩ := l6h hM hA heq hb hm1 hm2
  clear hA heq hb hm1 hm2
  by_cases h : 128 ≤ M
  ·obtain ⟨bb, hbb⟩ := nXe (UInt8.ofNat (m % 128 + 128))
   have hbn : (bb.toNat : Int) = M % 128 + 128 := by rw [hbb, toNat_ofNat (by omega)]; omega
   clear hM
   have hcv := Bd (wr.alloc (.cells #[.int .u8 (M % 128 + 128)] 5)) 78 9 5 underlying78 underlying5 underlying9 (.slice (some ⟨wr.heap.size, 0, none⟩) 1 1) [bb] (by
        have := Gw wr (.int .u8 (M % 128 + 128)) 5
        unfold byV
        simpa [hbn] using this)
   obtain ⟨B, hB⟩ := nXe (bsOf [bb])
   have hBz : B.size = 1 := by rw [hB, AY]; rfl
   rw [← hB] at hcv
   obtain ⟨HBB, Hbb⟩ := l2h hB hbb
   clear hB hbb hbn
   go_wp2
   go_roundw
   case rel =>
        have hf := Hm1.out
        have hMm := HM.out
        cases f with
        | zero => omega
        | succ f =>
          refine ⟨M / 128, m / 128, f, acc ++ [bb], rfl, by omega, by rw [HA.out, HBB.out, ES], ?_, ?_, by have := Hm2.out; omega, by simp; omega, HB.out.alloc HB.out.size _⟩
          ·rw [← Heq.out, numF, if_neg (by omega), Hbb.out]
           simp
          ·rw [Nat.pow_succ] at hf
           exact Nat.div_lt_of_lt_mul (by rw [Nat.mul_comm]; exact hf)
   case measure => simp [intOf]; omega
  ·obtain ⟨bb, hbb⟩ := nXe (UInt8.ofNat m)
   have hbn : (bb.toNat : Int) = M := by rw [hbb, toNat_ofNat (by omega)]; omega
   clear hM
   have hcv := Bd (wr.alloc (.cells #[.int .u8 M] 5)) 78 9 5 underlying78 underlying5 underlying9 (.slice (some ⟨wr.heap.size, 0, none⟩) 1 1) [bb] (by
        have := Gw wr (.int .u8 M) 5
        unfold byV
        simpa [hbn] using this)
   obtain ⟨B, hB⟩ := nXe (bsOf [bb])
   have hBz : B.size = 1 := by rw [hB, AY]; rfl
   rw [← hB] at hcv
   have HBB := lh hB
   have Hnum : Hid (acc ++ [bb] = num n) := by
        refine lh ?_
        have hMm := HM.out
        rw [← Heq.out, hbb]
        cases f with
        | zero => rfl
        | succ f => rw [numF, if_pos (by omega)]
   clear hB hbb hbn
   go_wp2
   go_ret2
   refine ⟨?_, HB.out.alloc HB.out.size _⟩
   rw [← Hnum.out, ← ES, ← HA.out, ← HBB.out]
   rfl
end Iq
namespace JN
open Go Go.RowKit OctetS OctP OctQ J5 Iq
def Kh (g : Nat × Nat × Int) : Value := .tuple #[.int .u64 g.1, .int .i64 g.2.1, .int .i64 g.2.2]
theorem FN (w : World) (s : ByteArray) (hs : s.size ≤ maxLen) :
 Calls Tryz.prog 37 #[.string s] w fun e w' => e = .returned (Kh (Aa (bl s))) ∧ Below w.heap.size w w' := by
 unfold maxLen at hs
 go_enter func37, ntmps37
 go_wp2
 go_loop [5, 6, 7] (fun x y i => ∃ (k : Nat) (N U : Int), i = .int .i64 k ∧ x = .int .u64 N ∧ y = .int .u64 U ∧ N = (val ((bl s).take k) : Nat) ∧ U = (128 ^ k : Nat) ∧ k ≤ s.size ∧ k ≤ 7 ∧ ∀ c ∈ (bl s).take k, 128 ≤ c.toNat) (fun x y i => s.size - (intOf i).toNat)
 case atStart => exact ⟨0, 0, 1, rfl, rfl, rfl, rfl, rfl, by omega, by omega, fun c hc => by simp at hc⟩
 case round =>
  obtain ⟨k, N, U, rfl, rfl, rfl, hN, hU, hk, hk7, hall⟩ := hrel
  have Hall := lh hall
  have hN0 : 0 ≤ N := by omega
  have hp7 : 128 ^ k ≤ 128 ^ 7 := Nat.pow_le_pow_right (by omega) hk7
  have hp1 : 1 ≤ 128 ^ k := Nat.one_le_pow _ _ (by omega)
  have hp8 : (128 : Nat) ^ 7 = 562949953421312 := by decide
  have hvl := KY ((bl s).take k)
  rw [List.length_take, AP, Nat.min_eq_left hk] at hvl
  have hN1 : N < 562949953421312 := by omega
  have hU0 : 1 ≤ U := by omega
  have hU1 : U ≤ 562949953421312 := by omega
  clear hp7 hp1 hp8 hvl
  obtain ⟨HN, HU⟩ := l2h hN hU
  clear hall hN hU
  by_cases hlt : k < s.size
  ·by_cases h7 : k = 7
   ·subst h7
    have hfin : Aa (bl s) = (0, 0, 6) := I1 Hall.out (by rw [AP]; omega)
    have Hfin := lh hfin
    clear hfin
    go_wp2
    go_ret3
    exact ⟨by rw [Hfin.out]; rfl, Below.refl _ _⟩
   ·have hp0 : 0 ≤ ((s[k]).toNat : Int) % 128 * U := Int.mul_nonneg (by omega) (by omega)
    have hp1 : ((s[k]).toNat : Int) % 128 * U ≤ 127 * 562949953421312 := Int.mul_le_mul (by omega) hU1 (by omega) (by omega)
    have hk2 : k < (bl s).length := by rw [AP]; exact hlt
    have hg := bl_get s k hlt
    have htk : (bl s).take (k + 1) = (bl s).take k ++ [s[k]] := by
     rw [List.getElem?_eq_getElem hk2] at hg
     rw [List.take_succ_eq_append_getElem hk2, Option.some.inj hg]
     rfl
    have hvs : N + ((s[k]).toNat : Int) % 128 * U = (val ((bl s).take (k + 1)) : Nat) := by
     rw [htk, KX, List.length_take, AP, Nat.min_eq_left (by omega), HN.out, HU.out, Nat.mul_comm]
     push_cast
     rfl
    obtain ⟨Htk, Hvs⟩ := l2h htk hvs
    clear htk hvs hg
    by_cases hb : 128 ≤ (s[k]).toNat
    ·go_wp2
     go_round
     case rel =>
      refine ⟨k + 1, N + ((s[k]).toNat : Int) % 128 * U, U * 128, by go_num, rfl, rfl, Hvs.out, ?_, by omega, by omega, ?_⟩
      ·rw [HU.out, Nat.pow_succ]
       push_cast
       rfl
      ·intro c hc
       rw [Htk.out, List.mem_append] at hc
       rcases hc with hc | hc
       ·exact Hall.out c hc
       ·simp only [List.mem_singleton] at hc
        rw [hc]
        exact hb
     case measure => simp [intOf]; omega
    ·have hsp : bl s = (bl s).take k ++ s[k] :: (bl s).drop (k + 1) := by
      have := (List.take_append_drop k (bl s)).symm
      rw [EC s k hlt] at this
      exact this
     have hfin := Jr (r := (bl s).drop (k + 1)) Hall.out (show (s[k]).toNat < 128 by omega)
     rw [← hsp, ← Htk.out] at hfin
     obtain ⟨m, hm⟩ := nXe (val ((bl s).take (k + 1)))
     have hMm : N + ((s[k]).toNat : Int) % 128 * U = (m : Int) := by rw [Hvs.out, hm]
     rw [← hm] at hfin
     have hex : bl (s.extract 0 (k + 1)) = (bl s).take (k + 1) := by rw [Aj]; rfl
     have hlen : ((bl s).take k).length + 1 = k + 1 := by rw [List.length_take, AP]; omega
     rw [hlen] at hfin
     by_cases hmx : m ≤ Av
     ·have Jp : ∀ w, Calls Tryz.prog 32 #[.int .u64 (N + ((s[k]).toNat : Int) % 128 * U)] w fun e w' => e = .returned (.tuple #[.string (bsOf (num m)), .int .i64 0]) ∧ Below w.heap.size w w' := fun w => by
       rw [hMm]
       exact EW w m hmx
      obtain ⟨T, hT⟩ := nXe (bsOf (num m))
      rw [← hT] at Jp
      have K7 := lh Jp
      by_cases he : num m = (bl s).take (k + 1)
      ·rw [if_pos ⟨hmx, he⟩] at hfin
       have hTe : T = s.extract 0 (k + 1) := by rw [hT, he, ← hex, Bj]
       have hres : Kh (m, k + 1, 0) = .tuple #[.int .u64 (N + ((s[k]).toNat : Int) % 128 * U), .int .i64 ((k : Int) + 1), .int .i64 0] := by
        unfold Kh
        simp only
        rw [hMm]
        rfl
       obtain ⟨Hfin, Hres⟩ := l2h hfin hres
       clear Jp hT he hfin hm hMm hres hex hsp hlen hmx
       subst hTe
       go_wp2_with fail
       refine (K7.out _).mono ?_
       rintro e w' ⟨rfl, hb'⟩
       have HB := lh hb'
       clear hb'
       go_wp2
       go_ret3
       exact ⟨by rw [Hfin.out, Hres.out]; rfl, HB.out⟩
      ·rw [if_neg (fun h => he h.2)] at hfin
       have hne := EH (s := T) (t := s.extract 0 (k + 1)) (fun h => he (by rw [← hex, ← h, hT, AU]))
       have Hfin := lh hfin
       clear Jp hT he hfin hm hMm hex hsp hlen hmx
       go_wp2_with fail
       refine (K7.out _).mono ?_
       rintro e w' ⟨rfl, hb'⟩
       have HB := lh hb'
       clear hb'
       go_wp2
       go_ret3
       exact ⟨by rw [Hfin.out]; rfl, HB.out⟩
     ·have Jp : ∀ w, Calls Tryz.prog 32 #[.int .u64 (N + ((s[k]).toNat : Int) % 128 * U)] w fun e w' => e = .returned (.tuple #[.string ByteArray.empty, .int .i64 1]) ∧ w = w' := fun w => by
       rw [hMm]
       exact LQ w m (by omega)
      have K7 := lh Jp
      rw [if_neg (fun h => hmx h.1)] at hfin
      have Hfin := lh hfin
      clear Jp hfin hm hMm hex hsp hlen hmx
      go_wp2_with fail
      refine (K7.out _).mono ?_
      rintro e w' ⟨rfl, rfl⟩
      go_wp2
      go_ret3
      exact ⟨by rw [Hfin.out]; rfl, Below.refl _ _⟩
  ·have hkz : k = s.size := by omega
   subst hkz
   rw [List.take_of_length_le (by rw [AP]; omega)] at Hall
   by_cases h7 : s.size = 7
   ·have hfin : Aa (bl s) = (0, 0, 6) := I1 (fun c hc => Hall.out c (List.mem_of_mem_take hc)) (by rw [AP]; omega)
    have Hfin := lh hfin
    clear hfin
    go_wp2
    go_ret3
    exact ⟨by rw [Hfin.out]; rfl, Below.refl _ _⟩
   ·have hfin : Aa (bl s) = (0, 0, 5) := JS Hall.out (by rw [AP]; omega)
    have Hfin := lh hfin
    clear hfin
    go_wp2
    go_ret3
    exact ⟨by rw [Hfin.out]; rfl, Below.refl _ _⟩
end JN
namespace J4
open Go Go.RowKit OctetS OctP OctQ J5 Iq JN
theorem Cs (w : World) (s : ByteArray) (h : s.size ≤ 8192) :
 Calls Tryz.prog 57 #[.string s] w fun e w' => e = .returned (.tuple #[.string (bsOf (text (bl s))), .int .i64 0]) ∧ Below w.heap.size w w' := by
 have hN := fun w => Iq.EW w s.size (by unfold Av; omega)
 obtain ⟨T, hT⟩ := nXe (bsOf (num s.size))
 have hz : T.size ≤ 2 := by rw [hT, AY]; exact CF h
 have hcat : T ++ s = bsOf (text (bl s)) := by
  refine JH ?_
  rw [AU, text, AP, hT]
  simp [bl, bsOf]
 rw [← hT] at hN
 obtain ⟨HN, MW⟩ := l2h hN hcat
 clear hN hcat hT
 go_enter func57, ntmps57
 go_wp2_with fail
 refine (HN.out w).mono ?_
 rintro e w' ⟨rfl, hb⟩
 have HB := lh hb
 clear hb
 go_wp2
 go_ret2
 exact ⟨by rw [← MW.out]; rfl, HB.out⟩
def textV (t : List UInt8 × Nat × Int) : Value := .tuple #[.string (bsOf t.1), .int .i64 t.2.1, .int .i64 t.2.2]
theorem G9 (w : World) (s : ByteArray) (hs : s.size ≤ maxLen) :
 Calls Tryz.prog 81 #[.string s] w fun e w' => e = .returned (textV (Ab (bl s))) ∧ Below w.heap.size w w' := by
 have hG := JN.FN w s hs
 unfold maxLen at hs
 obtain ⟨n, u, y, hg⟩ : ∃ n u y, Aa (bl s) = (n, u, y) := ⟨_, _, _, rfl⟩
 rw [hg] at hG
 unfold Kh at hG
 simp only at hG
 by_cases hy : y = 0
 ·subst hy
  obtain ⟨hu1, hu7, hul, _, hmax⟩ := Cx hg
  unfold Av at hmax
  rw [AP] at hul
  obtain ⟨N, hN⟩ : ∃ N : Int, N = n := ⟨_, rfl⟩
  rw [← hN] at hG
  by_cases h8 : n ≤ 8192
  ·have hN8 : N ≤ 8192 := by omega
   have hN0 : 0 ≤ N := by omega
   have HN := lh hN
   by_cases he : u + n ≤ s.size
   ·have hfin : Ab (bl s) = (((bl s).drop u).take n, u + n, 0) := by
        unfold Ab
        rw [hg]
        simp only
        rw [if_neg (by simp), if_neg (by omega), if_neg (by rw [AP]; omega)]
    have hx : bl (s.extract u (u + n)) = ((bl s).drop u).take n := by
        rw [Aj, show u + n - u = n by omega]
    have hle : (u : Int) + N ≤ s.size := by omega
    have ht : ((u : Int) + N).toNat = u + n := by omega
    have hres : textV (((bl s).drop u).take n, u + n, 0) = .tuple #[.string (s.extract u (u + n)), .int .i64 ((u : Int) + N), .int .i64 0] := by
        unfold textV
        simp only
        rw [← hx, Bj, hN]
        rfl
    have Hres := lh hres
    clear hres hx hN
    obtain ⟨Hfin, HG⟩ := l2h hfin hG
    clear hfin hG hg
    go_enter func81, ntmps81
    go_wp2_with fail
    refine HG.out.mono ?_
    rintro e w' ⟨rfl, hb⟩
    have HB := lh hb
    clear hb
    go_wp2
    go_ret3
    exact ⟨by rw [Hfin.out]; rw [Hres.out]; rfl, HB.out⟩
   ·have hfin : Ab (bl s) = ([], 0, 5) := by
        unfold Ab
        rw [hg]
        simp only
        rw [if_neg (by simp), if_neg (by omega), if_pos (by rw [AP]; omega)]
    have hle : (s.size : Int) < (u : Int) + N := by omega
    clear hN
    obtain ⟨Hfin, HG⟩ := l2h hfin hG
    clear hfin hG hg
    go_enter func81, ntmps81
    go_wp2_with fail
    refine HG.out.mono ?_
    rintro e w' ⟨rfl, hb⟩
    have HB := lh hb
    clear hb
    go_wp2
    go_ret3
    exact ⟨by rw [Hfin.out]; rfl, HB.out⟩
  ·have hfin : Ab (bl s) = ([], 0, 7) := by
        unfold Ab
        rw [hg]
        simp only
        rw [if_neg (by simp), if_pos (by omega)]
   have hN8 : 8192 < N := by omega
   clear hN
   obtain ⟨Hfin, HG⟩ := l2h hfin hG
   clear hfin hG hg
   go_enter func81, ntmps81
   go_wp2_with fail
   refine HG.out.mono ?_
   rintro e w' ⟨rfl, hb⟩
   have HB := lh hb
   clear hb
   go_wp2
   go_ret3
   exact ⟨by rw [Hfin.out]; rfl, HB.out⟩
 ·have hfin : Ab (bl s) = ([], 0, y) := by
   unfold Ab
   rw [hg]
   exact if_pos hy
  have hyb : (y != 0) = true := by simp [hy]
  obtain ⟨Hfin, HG⟩ := l2h hfin hG
  clear hfin hG hg
  go_enter func81, ntmps81
  go_wp2_with fail
  refine HG.out.mono ?_
  rintro e w' ⟨rfl, hb⟩
  have HB := lh hb
  clear hb
  go_wp2
  go_ret3
  exact ⟨by rw [Hfin.out]; rfl, HB.out⟩
end J4
namespace Kn
open Go Go.RowKit OctetS OctP OctQ Iq
theorem Gd (w : World) (v : Value) (l : List ByteArray) (h : Rd w v l) (hf : fits (l.map bl) = true) :
 Calls Tryz.prog 33 #[v] w fun e w' => e = .returned (.tuple #[.string (bsOf (OctetS.list (l.map bl))), .int .i64 0]) ∧ Below w.heap.size w w' := by
 obtain ⟨hf1, hf2⟩ := Ca.1 hf
 rw [List.length_map] at hf1
 have hN := Iq.EW w l.length (by unfold Av; omega)
 obtain ⟨a, cap, rfl, hcap, hm⟩ := h.form
 obtain ⟨Hf2, H, HN⟩ := l3h hf2 h hN
 clear h hf hf2 hN
 go_enter func33, ntmps33
 go_wp2_with fail
 refine HN.out.mono ?_
 rintro e w1 ⟨rfl, hb⟩
 have HB := lh hb
 clear hb
 go_wp2
 go_loopw [4, 22] (fun y i wr => ∃ (lb : List UInt8) (k : Nat), y = .string (bsOf lb) ∧ i = .int .i64 k ∧ k ≤ l.length ∧ Below w.heap.size w wr ∧ lb = num l.length ++ ((l.map bl).take k).flatMap text ∧ lb.length ≤ 7 + k * 8200) (fun _ i _ => l.length - (intOf i).toNat)
 case atStart => exact ⟨num l.length, 0, rfl, rfl, by omega, HB.out, by simp, by have := Dq (n := l.length) (by unfold Av; omega); omega⟩
 case round =>
  obtain ⟨lb, k, rfl, rfl, hk, hb, hlb, hlen⟩ := hrel
  obtain ⟨A, hA⟩ := nXe (bsOf lb)
  have hAz : A.size ≤ 7 + k * 8200 := by rw [hA, AY]; omega
  rw [← hA]
  obtain ⟨HA, HB2, Hlb⟩ := l3h hA hb hlb
  clear hA hb hlb
  by_cases hlt : k < l.length
  ·obtain ⟨b, off, rfl, hbl, hcell⟩ := H.out.plain (by rw [strV_length]; omega)
   have hc : wr.cell? ⟨b, off + k, none⟩ = some (.string l[k]) := by
        rw [HB2.out.cell (p := ⟨b, off + k, none⟩) hbl]
        exact hcell k _ (by simp [strV, hlt])
   have hl8 : l[k].size ≤ 8192 := by
        have := Hf2.out (bl l[k]) (List.mem_map.2 ⟨l[k], List.getElem_mem hlt, rfl⟩)
        rwa [AP] at this
   have Hcell := lh hcell
   clear hcell
   have hT := J4.Cs wr l[k] hl8
   obtain ⟨T, hTT⟩ := nXe (bsOf (text (bl l[k])))
   have hTz : T.size ≤ 8194 := by
        have hn1 : (num l[k].size).length ≤ 2 := CF hl8
        rw [hTT, AY, text, List.length_append, AP]
        omega
   rw [← hTT] at hT
   obtain ⟨HT, HTT⟩ := l2h hT hTT
   clear hT hTT
   go_wp2_with fail
   refine HT.out.mono ?_
   rintro e w2 ⟨rfl, hb⟩
   have HB3 := tbB HB2 hb
   clear hb
   go_wp2
   go_roundw
   case rel =>
        refine ⟨lb ++ text (bl l[k]), k + 1, by rw [HA.out, HTT.out, ES], by go_num, by omega, HB3.out, ?_, ?_⟩
        ·rw [Hlb.out, List.take_succ_eq_append_getElem (by simpa using hlt)]
         simp [List.append_assoc]
        ·have : (text (bl l[k])).length = T.size := by rw [HTT.out, AY]
         rw [List.length_append]
         omega
   case measure => simp [intOf]; omega
  ·obtain rfl : k = l.length := by omega
   go_wp2
   go_ret2
   refine ⟨?_, HB2.out⟩
   rw [HA.out, Hlb.out, OctetS.list, List.length_map, List.take_of_length_le (by simp)]
   rfl
end Kn
end Go.Proofs.YtadofbbpfgmclaaGreatDoor
