/-
  WHAT IS PROVED: entries' sums, bytes, signatures, and the statements' own check of them. what the document's own answers on octets are. the program's event package reads an event of its bytes, whatever the bytes are; the statements' own check of the events answers true. Condition: what each theorem names.
-/
import Derived.Test.YtkcikadgnnjjjaaGreatDoorS0
import Derived.Test.YtkcikadgnnjjjaaGreatDoorZEHD11
set_option linter.unusedVariables false
set_option linter.unusedSimpArgs false
set_option maxRecDepth 100000
set_option maxHeartbeats 4000000
namespace Go.Proofs.YtkcikadgnnjjjaaGreatDoor.EntX
open Go Go.RowKit Go.Shelf OctetS IdentS EntS OctP OctG IdentP EntP EventC EventP ShaA Steps KeyA TreeA
theorem text_len {t : List UInt8} (h : t.length ≤ 8192) : (OctetS.text t).length ≤ 8194 := by
 unfold OctetS.text
 have := OctetS.num_length2 h
 rw [List.length_append]
 omega
theorem flat_len : ∀ (l : List (List UInt8)), (∀ t ∈ l, t.length ≤ 8192) → (l.flatMap OctetS.text).length ≤ 8194 * l.length
 | [], _ => by simp
 | t :: r, h => by
  have h1 := text_len (h t (by simp))
  have h2 := flat_len r (fun x hx => h x (by simp [hx]))
  simp only [List.flatMap_cons, List.length_append, List.length_cons]
  omega
end Go.Proofs.YtkcikadgnnjjjaaGreatDoor.EntX
namespace Go.Proofs.YtkcikadgnnjjjaaGreatDoor.EntY
open Go Go.RowKit Go.Shelf OctetS IdentS EntS OctP OctQ OctG IdentP EntP EventC EventP ShaA Steps KeyA
theorem List_long (w : World) (v : Value) (t : ByteArray) (r : List ByteArray) (h : Rd w v (t :: r)) (hr : r.length ≤ 100) (ht : 8192 < t.size) (ht2 : t.size ≤ 140737488351232) :
  Calls Tryz.prog 60 #[v] w (KeyA.RB (.tuple #[.string ⟨#[]⟩, .int .i64 7]) w) := by
 obtain ⟨a, cap, rfl, hcap, hm⟩ := h.form
 obtain ⟨b, off, rfl, hbl, hcell⟩ := h.plain (by rw [strV_length]; simp)
 have hc0 : w.cell? ⟨b, off + 0, none⟩ = some (.string t) := hcell 0 _ rfl
 rw [Nat.add_zero] at hc0
 obtain ⟨n, hn⟩ := nXe ((t :: r).length)
 have hn1 : 0 < n := by rw [hn]; simp
 have hn2 : n ≤ 256 := by rw [hn]; simp; omega
 rw [← hn]
 have Hc := lh hc0
 clear hcell hc0 h hn hcap hm
 go_enter Tryz.func60, Tryz.ntmps60
 go_wp2_with fail
 refine (put_ok w w.heap.size (.slice none 0 0) [] n (Ow.nil _ _ _ _) (by omega) (by simp) (Nat.le_refl _)).mono ?_
 rintro e w1 ⟨v1, rfl, hG⟩
 have hb := hG.ofNil
 have hc1 : w1.cell? ⟨b, off, none⟩ = some (.string t) := (hb.cell (p := ⟨b, off, none⟩) hbl).trans Hc.out
 have HB := lh hb
 clear hb hG
 go_wp2
 refine wp_loop_rounds 1 ?_
 rw [rounds_succ]
 go_wp2
 go_ret2
 exact ⟨rfl, HB.out⟩
end Go.Proofs.YtkcikadgnnjjjaaGreatDoor.EntY
namespace Go.Proofs.YtkcikadgnnjjjaaGreatDoor.EntW
open Go Go.RowKit Go.Shelf OctetS IdentS EntS OctP OctG IdentP EntP EventC EventP ShaA Steps KeyA KeyS KeyK TreeA
theorem grownBy_setRow (w : World) (g : Nat) (cs : Array Value) : w.grownBy (w.setRow g cs) (some g) :=
 ⟨rfl, rfl, rfl, by simp [World.setRow], fun k _ hk => setRow_other w g k cs (fun e => hk (by rw [e]))⟩
end Go.Proofs.YtkcikadgnnjjjaaGreatDoor.EntW
namespace Go.Proofs.YtkcikadgnnjjjaaGreatDoor.EntK
open OctetS IdentS EntS KeyS KeyN NSha
set_option maxRecDepth 100000
def rm : List UInt8 := [33, 104, 97, 108, 108, 58, 48]
def T5 : List UInt8 := [6, 5, 101, 110, 116, 114, 121, 7, 33, 104, 97, 108, 108, 58, 48, 1, 1, 1, 5, 32, 0, 0, 0, 0, 0, 0, 0, 0, 0, 0, 0, 0, 0, 0, 0, 0, 0, 0, 0, 0, 0, 0, 0, 0, 0, 0, 0, 0, 0, 0, 0, 0, 1, 120]
def G : List UInt8 := sigOf [115] 1 0 T5
theorem room0 : roomB rm = true := by decide +kernel
end Go.Proofs.YtkcikadgnnjjjaaGreatDoor.EntK
namespace Go.Proofs.YtkcikadgnnjjjaaGreatDoor.EntL
open Go Go.RowKit Go.Shelf OctetS IdentS EntS OctG IdentP EntP EventC ShaA Steps KeyA KeyS KeyI KeyK TreeA EntK BookA
def rB : ByteArray := bsOf rm
def nB : ByteArray := bsOf []
def sS : ByteArray := ⟨#[115]⟩
theorem sS_bl : bl sS = [115] := rfl
theorem rB_z : rB.size ≤ 140737488351232 := by decide +kernel
theorem nB_z : nB.size ≤ maxLen := by decide +kernel
theorem nB_of : nB = bsOf [] := rfl
theorem Make_s (w : World) (hk : VarsH w) : Calls Tryz.prog 10 #[.agg #[.string ⟨#[115]⟩, .int .i64 1, .int .i64 0]] w fun e w' => ∃ R v, e = .returned (.tuple #[.pointer (some ⟨R, 0, none⟩), .int .i64 0]) ∧ RingAt w w' R sS 1 0 v ∧ Below w.heap.size w w' :=
 Make_yes w sS 1 0 (by decide) (by decide) (by decide) (by decide) hk
def gr : Gr' := ⟨2, 0, 9, 1, rootK [115] 1⟩
theorem gr_right : gr.Right := ⟨by decide, by decide, by decide, by decide, by decide, by decide, by decide⟩
theorem found_yes (ix : Int) (h0 : 0 ≤ ix) (h9 : ix ≤ 9) : foundB gr 2 ix = true := by
 unfold foundB gr
 simp [h0, h9]
theorem byV_bN (l : List UInt8) : byV l = (NSha.bN l).map fun n => .int .u8 (n : Int) := by
 unfold byV NSha.bN
 rw [List.map_map]
 rfl
def rootL : Array Value := ([1, 182, 6, 211, 135, 147, 53, 5, 245, 241, 205, 252, 197, 223, 231, 32, 130, 117, 182, 46, 173, 16, 191, 101, 209, 159, 7, 102, 245, 140, 192, 251].map fun n : Nat => Value.int .u8 (n : Int)).toArray
theorem root_A : (rootK [115] 1).A = rootL := by
 unfold H32.A rootL
 rw [rootK_l, byV_bN, KeyN.root_s]
end Go.Proofs.YtkcikadgnnjjjaaGreatDoor.EntL
namespace Go.Proofs.YtkcikadgnnjjjaaGreatDoor.EntQ
open Go Go.RowKit Go.Shelf OctetS IdentS EntS OctG IdentP EntP EventC ShaA Steps KeyA KeyS KeyI KeyK TreeA EntK BookA EntL KeyG
attribute [-go_sem] run_equalIn_agg
theorem wpList_buildC {P : Program} {ops : Array Oper} {rest : List Oper} {o : Oper} {a : Act} {w : World} {Q : Exit → Act → World → Prop} (hg : o.guard = none) (t : TypeId) (parts : Array (Nat × Operand)) (ho : o.op = .build t parts) (cells : Array Value)
  (hb : P.built t (parts.map fun (i, x) => (i, a.eval x)).toList = some cells) (h : wpList P ops Q rest (a.put o.dst (.agg cells)) w) : wpList P ops Q (o :: rest) a w :=
 wpList_build hg t parts ho (by rw [hb]; rfl) (by rw [hb]; exact h)
theorem fold_any (Z C : Array Value) (n : Nat) (hZ : Z.size = n) (hC : C.size = n) : Array.foldl (fun (cs : Array Value) x => cs.setIfInBounds x.snd x.fst) Z C.zipIdx 0 n = C := by
 have h1 : C.zipIdx.size = n := by simp [hC]
 rw [← h1, ← Array.foldl_toList, Array.toList_zipIdx, fold_set C.toList 0 _ (by simp [hC, hZ])]
 simp
theorem sl_one {w : World} {b n : Nat} {cs : Array Value} {t : TypeId} {fr : Nat × Nat} (h : w.heap[b]? = some (.cells cs t fr)) (hn : cs.size = n) : Sl w (.slice (some ⟨b, 0, none⟩) 1 1) n 1 cs.toList :=
 ⟨by rw [Array.length_toList, hn, Nat.one_mul], .inr ⟨⟨b, 0, none⟩, 1, rfl, Nat.le_refl _, by unfold maxLen; omega, fun j u hu => by
  rw [Addr.add_mid, Nat.zero_add, cell_row h, ← hu]
  simp⟩⟩
theorem ring_below {w0 w w' : World} {R : Nat} {s : ByteArray} {h nx : Nat} {v : Value} (hr : RingAt w0 w R s h nx v) (hb : Below w.heap.size w w') : RingAt w0 w' R s h nx v :=
 ⟨(hb.block _ (lt_row hr.row)).trans hr.row, hr.lv.ext (Ext.ofB hb) (fun _ _ h => h), hr.ge, hr.sep⟩
end Go.Proofs.YtkcikadgnnjjjaaGreatDoor.EntQ
namespace Go.Proofs.YtkcikadgnnjjjaaGreatDoor.Ref1N
open Go Go.RowKit OctetS OctP OctQ
theorem sl_one (w : World) (u : Value) (t : TypeId) : Sl (w.alloc (.cells #[u] t)) (.slice (some ⟨w.heap.size, 0, none⟩) 1 1) 1 1 [u] := by
 refine ⟨by simp, .inr ⟨⟨w.heap.size, 0, none⟩, 1, rfl, Nat.le_refl _, by decide, fun j v hv => ?_⟩⟩
 have h := heap_new w (.cells #[u] t)
 rw [show (Addr.add ⟨w.heap.size, 0, none⟩ j : Addr) = ⟨w.heap.size, j, none⟩ by unfold Addr.add; cases j <;> simp]
 rw [cell_row h]
 simpa using hv
theorem bsOf_append (a b : List UInt8) : bsOf a ++ bsOf b = bsOf (a ++ b) := by
 refine bl_inj ?_
 rw [bl_bsOf]
 simp [bl, bsOf]
theorem Num_ok (w : World) (n : Nat) (hn : n ≤ maxNum) :
  Calls Tryz.prog 69 #[.int .u64 n] w fun e w' => e = .returned (.tuple #[.string (bsOf (num n)), .int .i64 0]) ∧ Below w.heap.size w w' := by
 unfold maxNum at hn
 obtain ⟨N, hN⟩ : ∃ N : Int, N = n := ⟨_, rfl⟩
 rw [← hN]
 have hNn : ¬ 281474976710656 < N := by omega
 have HN := lh hN
 have Hn := lh hn
 clear hN hn
 go_enter Tryz.func69, Tryz.ntmps69
 go_wp2
 go_loopw [0, 4] (fun x y wr => ∃ (M : Int) (m f : Nat) (acc : List UInt8), x = .int .u64 M ∧ M = m ∧ y = .string (bsOf acc) ∧ acc ++ numF f m = num n ∧ m < 128 ^ (f + 1) ∧ m ≤ 281474976710656 ∧ acc.length + f = 9 ∧ Below w.heap.size w wr) (fun x _ _ => (intOf x).toNat)
 case atStart => exact ⟨N, n, 9, [], rfl, HN.out, rfl, rfl, by have := Hn.out; omega, Hn.out, rfl, Below.refl _ _⟩
 case round =>
  obtain ⟨M, m, f, acc, rfl, hM, rfl, heq, hm1, hm2, hlen, hb⟩ := hrel
  obtain ⟨A, hA⟩ := nXe (bsOf acc)
  have hAz : A.size ≤ 9 := by rw [hA, size_bsOf]; omega
  rw [← hA]
  have hM0 : 0 ≤ M := by omega
  have hM1 : M < 9223372036854775808 := by omega
  have HM := lh hM
  have HA := lh hA
  have Heq := lh heq
  have HB := lh hb
  have Hm1 := lh hm1
  have Hm2 := lh hm2
  clear hA heq hb hm1 hm2
  by_cases h : 128 ≤ M
  ·obtain ⟨bb, hbb⟩ := nXe (UInt8.ofNat (m % 128 + 128))
   have hbn : (bb.toNat : Int) = M % 128 + 128 := by rw [hbb, toNat_ofNat (by omega)]; omega
   clear hM
   have hcv := run_text' (wr.alloc (.cells #[.int .u8 (M % 128 + 128)] 5)) 101 9 5 Tryz.underlying101 Tryz.underlying5 Tryz.underlying9 (.slice (some ⟨wr.heap.size, 0, none⟩) 1 1) [bb] (by
    have := sl_one wr (.int .u8 (M % 128 + 128)) 5
    unfold byV
    simpa [hbn] using this)
   obtain ⟨B, hB⟩ := nXe (bsOf [bb])
   have hBz : B.size = 1 := by rw [hB, size_bsOf]; rfl
   rw [← hB] at hcv
   have HBB := lh hB
   have Hbb := lh hbb
   clear hB hbb hbn
   go_wp2
   go_roundw
   case rel =>
    have hf := Hm1.out
    have hMm := HM.out
    cases f with
    | zero => omega
    | succ f =>
     refine ⟨M / 128, m / 128, f, acc ++ [bb], rfl, by omega, by rw [HA.out, HBB.out, bsOf_append], ?_, ?_, by have := Hm2.out; omega, by simp; omega, HB.out.alloc HB.out.size _⟩
     ·rw [← Heq.out, numF, if_neg (by omega), Hbb.out]
      simp
     ·rw [Nat.pow_succ] at hf
      exact Nat.div_lt_of_lt_mul (by rw [Nat.mul_comm]; exact hf)
   case measure => simp [intOf]; omega
  ·obtain ⟨bb, hbb⟩ := nXe (UInt8.ofNat m)
   have hbn : (bb.toNat : Int) = M := by rw [hbb, toNat_ofNat (by omega)]; omega
   clear hM
   have hcv := run_text' (wr.alloc (.cells #[.int .u8 M] 5)) 101 9 5 Tryz.underlying101 Tryz.underlying5 Tryz.underlying9 (.slice (some ⟨wr.heap.size, 0, none⟩) 1 1) [bb] (by
    have := sl_one wr (.int .u8 M) 5
    unfold byV
    simpa [hbn] using this)
   obtain ⟨B, hB⟩ := nXe (bsOf [bb])
   have hBz : B.size = 1 := by rw [hB, size_bsOf]; rfl
   rw [← hB] at hcv
   have HBB := lh hB
   have Hnum : Hid (acc ++ [bb] = num n) := by
    refine lh ?_
    have hMm := HM.out
    rw [← Heq.out, hbb]
    cases f with
    | zero => rfl
    | succ f => rw [numF, if_pos (by omega)]
   clear hB hbb hbn
   go_wp2
   go_ret2
   refine ⟨?_, HB.out.alloc HB.out.size _⟩
   rw [← Hnum.out, ← bsOf_append, ← HA.out, ← HBB.out]
   rfl
end Go.Proofs.YtkcikadgnnjjjaaGreatDoor.Ref1N
namespace Go.Proofs.YtkcikadgnnjjjaaGreatDoor.Ref1T
open Go Go.RowKit OctetS OctP OctQ Ref1N
theorem Text_ok (w : World) (s : ByteArray) (h : s.size ≤ 8192) :
  Calls Tryz.prog 107 #[.string s] w fun e w' => e = .returned (.tuple #[.string (bsOf (text (bl s))), .int .i64 0]) ∧ Below w.heap.size w w' := by
 have hN := fun w => Ref1N.Num_ok w s.size (by unfold maxNum; omega)
 obtain ⟨T, hT⟩ := nXe (bsOf (num s.size))
 have hz : T.size ≤ 2 := by rw [hT, size_bsOf]; exact num_length2 h
 have hcat : T ++ s = bsOf (text (bl s)) := by
  refine bl_inj ?_
  rw [bl_bsOf, text, bl_length, hT]
  simp [bl, bsOf]
 rw [← hT] at hN
 have HN := lh hN
 have Hcat := lh hcat
 clear hN hcat hT
 go_enter Tryz.func107, Tryz.ntmps107
 go_wp2_with fail
 refine (HN.out w).mono ?_
 rintro e w' ⟨rfl, hb⟩
 have HB := lh hb
 clear hb
 go_wp2
 go_ret2
 exact ⟨by rw [← Hcat.out]; rfl, HB.out⟩
end Go.Proofs.YtkcikadgnnjjjaaGreatDoor.Ref1T
namespace Go.Proofs.YtkcikadgnnjjjaaGreatDoor.Ref1L
open Go Go.RowKit OctetS OctP OctQ Ref1N
theorem List_ok (w : World) (v : Value) (l : List ByteArray) (h : Rd w v l) (hf : fits (l.map bl) = true) :
  Calls Tryz.prog 70 #[v] w fun e w' => e = .returned (.tuple #[.string (bsOf (OctetS.list (l.map bl))), .int .i64 0]) ∧ Below w.heap.size w w' := by
 obtain ⟨hf1, hf2⟩ := fits_iff.1 hf
 rw [List.length_map] at hf1
 have hN := Ref1N.Num_ok w l.length (by unfold maxNum; omega)
 obtain ⟨a, cap, rfl, hcap, hm⟩ := h.form
 have Hf2 := lh hf2
 have H := lh h
 have HN := lh hN
 clear h hf hf2 hN
 go_enter Tryz.func70, Tryz.ntmps70
 go_wp2_with fail
 refine HN.out.mono ?_
 rintro e w1 ⟨rfl, hb⟩
 have HB := lh hb
 clear hb
 go_wp2
 go_loopw [4, 22] (fun y i wr => ∃ (lb : List UInt8) (k : Nat), y = .string (bsOf lb) ∧ i = .int .i64 k ∧ k ≤ l.length ∧ Below w.heap.size w wr ∧ lb = num l.length ++ ((l.map bl).take k).flatMap text ∧ lb.length ≤ 7 + k * 8200) (fun _ i _ => l.length - (intOf i).toNat)
 case atStart => exact ⟨num l.length, 0, rfl, rfl, by omega, HB.out, by simp, by have := num_length (n := l.length) (by unfold maxNum; omega); omega⟩
 case round =>
  obtain ⟨lb, k, rfl, rfl, hk, hb, hlb, hlen⟩ := hrel
  obtain ⟨A, hA⟩ := nXe (bsOf lb)
  have hAz : A.size ≤ 7 + k * 8200 := by rw [hA, size_bsOf]; omega
  rw [← hA]
  have HA := lh hA
  have HB2 := lh hb
  have Hlb := lh hlb
  clear hA hb hlb
  by_cases hlt : k < l.length
  ·obtain ⟨b, off, rfl, hbl, hcell⟩ := H.out.plain (by rw [strV_length]; omega)
   have hc : wr.cell? ⟨b, off + k, none⟩ = some (.string l[k]) := by
    rw [HB2.out.cell (p := ⟨b, off + k, none⟩) hbl]
    exact hcell k _ (by simp [strV, hlt])
   have hl8 : l[k].size ≤ 8192 := by
    have := Hf2.out (bl l[k]) (List.mem_map.2 ⟨l[k], List.getElem_mem hlt, rfl⟩)
    rwa [bl_length] at this
   have Hcell := lh hcell
   clear hcell
   have hT := Ref1T.Text_ok wr l[k] hl8
   obtain ⟨T, hTT⟩ := nXe (bsOf (text (bl l[k])))
   have hTz : T.size ≤ 8194 := by
    have hn1 : (num l[k].size).length ≤ 2 := num_length2 hl8
    rw [hTT, size_bsOf, text, List.length_append, bl_length]
    omega
   rw [← hTT] at hT
   have HT := lh hT
   have HTT := lh hTT
   clear hT hTT
   go_wp2_with fail
   refine HT.out.mono ?_
   rintro e w2 ⟨rfl, hb⟩
   have HB3 := tbB HB2 hb
   clear hb
   go_wp2
   go_roundw
   case rel =>
    refine ⟨lb ++ text (bl l[k]), k + 1, by rw [HA.out, HTT.out, bsOf_append], by go_num, by omega, HB3.out, ?_, ?_⟩
    ·rw [Hlb.out, List.take_succ_eq_append_getElem (by simpa using hlt)]
     simp [List.append_assoc]
    ·have : (text (bl l[k])).length = T.size := by rw [HTT.out, size_bsOf]
     rw [List.length_append]
     omega
   case measure => simp [intOf]; omega
  ·obtain rfl : k = l.length := by omega
   go_wp2
   go_ret2
   refine ⟨?_, HB2.out⟩
   rw [HA.out, Hlb.out, OctetS.list, List.length_map, List.take_of_length_le (by simp)]
   rfl
end Go.Proofs.YtkcikadgnnjjjaaGreatDoor.Ref1L
namespace Go.Proofs.YtkcikadgnnjjjaaGreatDoor.LivesE
open Go Go.RowKit OctetS IdentS EventS OctP OctA IdentP EventP EventC EventB
attribute [-go_sem] run_equalIn_agg
def ev0 : Ev := ⟨[33, 104, 97, 108, 108, 58, 48], [64, 97, 110, 110, 58, 48], 6, [], [104, 105], 7⟩
def s0 : List UInt8 := [6, 7, 33, 104, 97, 108, 108, 58, 48, 6, 64, 97, 110, 110, 58, 48, 7, 109, 101, 115, 115, 97, 103, 101, 0, 2, 104, 105, 1, 7]
theorem right0 : Right ev0 := check_iff.1 (by decide +kernel)
theorem bytes0 : EventS.bytes ev0 = s0 := by decide +kernel
theorem t2 (w : World) : Calls Tryz.prog 61 #[.string (bsOf s0)] w (AllPost w (parts ev0, 0)) := by
 have h := All_ok w (bsOf s0) (by decide)
 rw [bl_bsOf, ← bytes0, EventS.bytes, all_list right0.fits] at h
 exact h
end Go.Proofs.YtkcikadgnnjjjaaGreatDoor.LivesE
