/-
  WHAT IS PROVED: in a region that draws its order a call that changes nothing, and answers alike in every world that is asked for, may be taken first; whole rows and copies of texts as operations of such a region. entries, heads, deals, proofs and messages as rows of cells, and when texts are such. the program's keys: made, signing, verifying. numbers, words, and small tests of the texts between servers. what the listed variables are, and which rows entries and heads among the arguments are. plain laws of entries as bytes: an entry is read from its bytes, and what is read has these: no program. Condition: what each theorem names.
-/
import Derived.Test.YtkcikadgnnjjjaaGreatDoorS0
import Derived.Test.YtkcikadgnnjjjaaGreatDoorZEH26
set_option linter.unusedVariables false
set_option linter.unusedSimpArgs false
set_option maxRecDepth 100000
set_option maxHeartbeats 4000000
namespace Go.Proofs.YtkcikadgnnjjjaaGreatDoor.WrC
open Go Go.RowKit Wr
section
variable {P : Program} {ops : Array Oper} {Q : Exit → Act → World → Prop} {md : Region.Mode} {S : World → Prop}
/-! ### Whole rows, and copies of texts -/
theorem wpOp_load_row {i : Nat} {o : Oper} {a : Act} {w : World} {K : Act → World → Prop} (hi : ops[i]? = some o) (hw : Region.wanted o (yielded ops a.tmps) = true) (ty : TypeId) (x : Operand) (ho : o.op = .load ty x)
 (g : Nat) (hx : a.eval x = .pointer (some ⟨g, 0, none⟩)) (t : TypeId) (cs : Array Value) (fr : Nat × Nat) (d : TypeDesc) (hg : w.heap[g]? = some (.cells cs t fr))
 (hu : P.underlying ty = some d) (hd : (match d with | .struct _ | .array _ _ => true | _ => false) = true) (hz : (P.info? ty).map (·.size) = some cs.size) (h : K (a.put o.dst (.agg cs)) w) : wpOp P ops Q i K a w := by
 unfold wpOp
 simp only [hi, hw, if_true]
 exact .inl (wp_load_row ty x ho g hx t cs fr d hg hu hd hz h)
end
end Go.Proofs.YtkcikadgnnjjjaaGreatDoor.WrC
namespace Go.Proofs.YtkcikadgnnjjjaaGreatDoor.WireT
open Go Go.RowKit Go.Shelf OctetS IdentS EntS WireS OctG OctP OctQ EventP EventC EntP
/-! ### Small numbers -/
/-! ### A list, and its cells -/
/-! ### Entries -/
def entZ : Array Value := entA ⟨#[]⟩ 0 0 zero32 ⟨#[]⟩ ⟨#[]⟩
def entV : Option Ent → Value
 | some e => .tuple #[.agg (entA (bsOf e.room) e.ep e.ix e.prev (bsOf e.ev) (bsOf e.sig)), .int .i64 0]
 | none => .tuple #[.agg entZ, .int .i64 6]
theorem ent_copy (r : ByteArray) (ep ix : Int) {z pv : List UInt8} (hz : z.length = 32) (hp : pv.length = 32) (e s : ByteArray) :
 ((entA r ep ix z e s).toList.take 3 ++ byV (pv.take 32) ++ (entA r ep ix z e s).toList.drop (3 + 32)).toArray = entA r ep ix pv e s := by
 have h1 : pv.take 32 = pv := List.take_of_length_le (by omega)
 rw [h1]
 unfold entA
 have h2 : (byV z).length = 32 := by rw [byV_length, hz]
 have h3 : ([.string r, .int .i64 ep, .int .i64 ix] ++ byV z ++ [.string e, .string s] : List Value).drop (3 + 32) = [.string e, .string s] := by
  have h4 : ([.string r, .int .i64 ep, .int .i64 ix] ++ byV z : List Value).length = 3 + 32 := by simp [h2]
  rw [← h4, List.drop_left]
 simp only [h3]
 congr 1
theorem ent_sig (r : ByteArray) (ep ix : Int) {pv : List UInt8} (hp : pv.length = 32) (e s s' : ByteArray) : (entA r ep ix pv e s).setIfInBounds 36 (.string s') = entA r ep ix pv e s' := by
 have h2 : (byV pv).length = 32 := by rw [byV_length, hp]
 obtain ⟨l, hl⟩ := nXe (byV pv)
 unfold entA
 rw [← hl] at h2 ⊢
 rw [List.setIfInBounds_toArray]
 congr 1
 rw [List.set_append_right _ _ (by simp [h2])]
 simp [h2]
theorem read_bad {s : List UInt8} {l : List (List UInt8)} {y : Int} (ha : all s = (l, y)) (h : y ≠ 0 ∨ l.length ≠ 6) : WireS.read s = none := by
 unfold WireS.read
 rw [ha]
 rcases h with h | h
 ·exact if_neg h
 ·split
  ·unfold readL
   split
   ·rename_i heq
    simp only at heq
    subst heq
    simp at h
   ·rfl
  ·rfl
theorem read_mark {s : List UInt8} {k r a b p v : List UInt8} (ha : all s = ([k, r, a, b, p, v], 0)) (h : k ≠ EntS.mark) : WireS.read s = none := by
 unfold WireS.read
 rw [ha]
 simp [readL, h]
theorem read_six {s : List UInt8} {r a b p v : List UInt8} (ha : all s = ([EntS.mark, r, a, b, p, v], 0)) :
 WireS.read s = if p.length = 32 ∧ EntS.checkB ⟨r, numI 4096 a, numI 4096 b, p, v, []⟩ = true then some ⟨r, numI 4096 a, numI 4096 b, p, v, []⟩ else none := by
 obtain ⟨hfit, _⟩ := all_ok ha
 obtain ⟨_, hlen⟩ := fits_iff.1 hfit
 have hv : v.length ≤ 8192 := hlen v (by simp)
 unfold WireS.read
 rw [ha]
 simp only [if_true, readL, EntS.checkB, place_small, List.length_nil]
 cases h1 : small 4096 a with
 | none => simp
 | some x =>
   cases h2 : small 4096 b with
   | none => simp
   | some z =>
     simp only [Option.bind_some, numI_some h1, numI_some h2, Option.isSome_some, Bool.true_and]
     by_cases h3 : p.length = 32 ∧ roomB r = true
     ·rw [if_pos h3, if_pos ⟨h3.1, by simp [h3.2, hv]⟩]
     ·rw [if_neg h3, if_neg (fun h => h3 ⟨h.1, by simpa [hv] using h.2⟩)]
theorem read_len {s : List UInt8} {e : Ent} (h : WireS.read s = some e) : e.prev.length = 32 ∧ e.sig = [] ∧ EntS.checkB e = true := by
 obtain ⟨l, y, ha⟩ : ∃ l y, all s = (l, y) := ⟨_, _, rfl⟩
 by_cases h0 : y = 0 ∧ l.length = 6
 ·obtain ⟨rfl, h6⟩ := h0
  match l, h6, ha with
  | [k, r, a, b, p, v], _, ha =>
    by_cases hk : k = EntS.mark
    ·subst hk
     rw [read_six ha] at h
     split at h
     ·rename_i hc
      cases h
      exact ⟨hc.1, rfl, hc.2⟩
     ·cases h
    ·rw [read_mark ha hk] at h
     cases h
 ·rw [read_bad ha (by omega)] at h
  cases h
/-! ### Heads -/
/-! ### Bytes: two texts -/
theorem parse_bad {s : List UInt8} {l : List (List UInt8)} {y : Int} (ha : all s = (l, y)) (h : y ≠ 0 ∨ l.length ≠ 2) : WireS.parse s = none := by
 unfold WireS.parse
 rw [ha]
 rcases h with h | h
 ·exact if_neg h
 ·split
  ·unfold parseL
   split
   ·rename_i heq
    simp only at heq
    subst heq
    simp at h
   ·rfl
  ·rfl
theorem parse_two {s t g : List UInt8} (ha : all s = ([t, g], 0)) : WireS.parse s = (WireS.read t).map fun e => withSig e g := by
 unfold WireS.parse
 rw [ha]
 rfl
/-! ### Deals -/
/-! ### Proofs -/
/-! ### Rejections -/
/-! ### Messages -/
/-! ### Results and rows -/
/-! ### More ways to see a list, and a text -/
end Go.Proofs.YtkcikadgnnjjjaaGreatDoor.WireT
namespace Go.Proofs.YtkcikadgnnjjjaaGreatDoor.KeyL
open Go Go.RowKit Go.Shelf OctP OctG RowsX Lift ShaS KeyS ShaA ShaB Steps KeyA KeyE KeyF KeyG KeyH KeyI KeyK TreeA TreeC TreeE TreeF TreeB
theorem Root_yes (w : World) (s : ByteArray) (h nx : Nat) (hs0 : 0 < s.size) (hs : s.size ≤ 64) (hh : h ≤ 7) (hn : nx ≤ 2 ^ h) (hk : VarsH w) :
 Calls Tryz.prog 25 #[.agg (kyA s h nx)] w (RB (.tuple #[.agg (rootK (bl s) h).A, .int .i64 0]) w) := by
 have hM := fun w hk => Make_yes w s h nx hs0 hs hh hn hk
 unfold kyA at hM ⊢
 obtain ⟨Rt, hRte⟩ := nXe ((rootK (bl s) h).A)
 have HRtS := lh (show (Tryz.prog.info? 25).map (·.size) = some Rt.size by rw [hRte]; exact H32.info _)
 have HRtN := lh (show 32 = Rt.size by rw [hRte, H32.size])
 have HRtO := lh (show Rt.all (·.oneCell') = true by rw [hRte]; exact H32.one _)
 have HRte := lh hRte
 obtain ⟨Z, hZ⟩ := nXe (zeroH.A)
 have HLIT : Hid (zq0 Z) := lh (by rw [hZ]; unfold zq0; kernel_rfl)
 have HZN : Hid (Z.size = 32) := lh (by rw [hZ]; kernel_rfl)
 rw [← hRte]
 have HM := lh hM
 have HV := lh hk
 clear hM hk hRte hZ
 obtain ⟨w0, hw0⟩ := nXe ((w.alloc (.cells #[.string s, .int .i64 h, .int .i64 nx] 23)).alloc (.cells Z 25))
 have hb0 : Below w.heap.size w w0 := by rw [hw0]; exact (((Below.refl _ w).alloc (Nat.le_refl _) _).alloc (by simp) _)
 have hx0 : w0.heap[w.heap.size]? = some (.cells #[.string s, .int .i64 h, .int .i64 nx] 23 (0, 0)) := by rw [hw0]; exact heap_at (heap_new _ _) _
 have hz0 : w0.heap[(w.heap.size + 1)]? = some (.cells Z 25 (0, 0)) := by rw [hw0]; exact heap_new' _ (by simp)
 have HBL0 := lh hb0
 have HW0 := lh hw0
 have lx0 := lt_row hx0
 obtain ⟨cx0, fx0⟩ := row_facts hx0
 have lz0 := lt_row hz0
 obtain ⟨cz0, fz0⟩ := row_facts hz0
 clear hw0 hb0
 go_enter Tryz.func25, Tryz.ntmps25
 go_wp2_with fail
 rw [HLIT.out, ← HW0.out]
 refine (HM.out w0 (HV.out.below HBL0.out)).mono ?_
 rintro e w1 ⟨R, v, rfl, hR, hb⟩
 have HBL1 := tbB HBL0 hb
 have HZ1 := lh ((hb.block _ lz0).trans hz0)
 have hrow := hR.row
 have hrl := lt_row hrow
 have Hcc := lh (show ∀ (j : Nat) (u : Value), Rt.toList[j]? = some u → w1.cell? ⟨R, 4 + j, none⟩ = some u by intro j u hu; rw [cell_row hrow, ringA_at, ← HRte.out, ← hu]; simp)
 clear hb hR hrow hx0 lx0 cx0 fx0 hz0 lz0 cz0 fz0
 go_wp2_with (first | (refine wpList_load_rowO rfl _ _ rfl R 4 rfl Rt Hcc.out Tryz.underlying25 rfl HRtS.out ?_) | (refine wpList_store_rowA rfl _ _ _ rfl (w.heap.size + 1) Rt rfl rfl _ _ HZ1.out HRtS.out (by rw [HZN.out]; exact HRtN.out) HRtO.out ?_) | fail)
 intro wf hwf
 go_wp2
 refine bodyPost_ret (v := .tuple #[.agg Rt, .int .i64 0]) (WireT.results_cell_slot rfl _ _ (w.heap.size + 1) 25 Rt (0, 0) _ rfl (by rw [hwf.out]; exact setRow_at HZ1.out) Tryz.underlying25 rfl HRtS.out rfl) rfl ⟨rfl, by rw [hwf.out]; exact below_row HBL1.out (by omega) _⟩
end Go.Proofs.YtkcikadgnnjjjaaGreatDoor.KeyL
namespace Go.Proofs.YtkcikadgnnjjjaaGreatDoor.WireA
open Go Go.RowKit Go.Shelf OctetS IdentS EntS WireS OctP OctQ IdentP IdentR EventP EventC WireT
theorem e_number (w : World) (s : ByteArray) (hs : s.size ≤ maxLen) : Calls Tryz.prog 63 #[.string s] w fun e w' => e = .returned (.int .i64 (numI 4096 (bl s))) ∧ w = w' := by
 obtain ⟨n, u, y, hg⟩ : ∃ n u y, getNum (bl s) = (n, u, y) := ⟨_, _, _, rfl⟩
 have hG := GetNum_at w s hs hg
 obtain ⟨z, hz⟩ := nXe (numI 4096 (bl s))
 rw [← hz]
 have hcase : ((y != 0) = true ∧ z = -1) ∨ (y = 0 ∧ u < s.size ∧ z = -1) ∨ (y = 0 ∧ u = s.size ∧ 4096 < n ∧ n ≤ maxNum ∧ z = -1) ∨ (y = 0 ∧ u = s.size ∧ n ≤ 4096 ∧ z = n) := by
  rw [hz]
  rcases small_cases 4096 hg with ⟨h, h'⟩ | ⟨h, h1, h'⟩ | ⟨h, h1, h2, h3, h'⟩ | ⟨h, h1, h2, h3, h'⟩
  ·exact .inl ⟨by simpa using h, numI_none h'⟩
  ·exact .inr (.inl ⟨h, by rw [← bl_length]; exact h1, numI_none h'⟩)
  ·exact .inr (.inr (.inl ⟨h, by rw [← bl_length]; exact h1, h2, h3, numI_none h'⟩))
  ·exact .inr (.inr (.inr ⟨h, by rw [← bl_length]; exact h1, h2, numI_some h'⟩))
 have HG := lh hG
 clear hG hg hz
 unfold maxNum at hcase
 unfold maxLen at hs
 rcases hcase with ⟨hy, rfl⟩ | ⟨rfl, hy, rfl⟩ | ⟨rfl, rfl, hy, hn, rfl⟩ | ⟨rfl, rfl, hy, rfl⟩
 all_goals
  go_enter Tryz.func63, Tryz.ntmps63
  go_wp2_with fail
  refine HG.out.mono ?_
  rintro e w1 ⟨rfl, rfl⟩
  go_wp2
  go_ret
  exact ⟨rfl, rfl⟩
end Go.Proofs.YtkcikadgnnjjjaaGreatDoor.WireA
namespace Go.Proofs.YtkcikadgnnjjjaaGreatDoor.LaidI
open Go Go.ChangeShapes Go.WideShapes Go.RowKit U32 ShaS ShaA IdentP EntP
section
variable {H : Type} {enc : TypeId × Value → H} {w : World} {base : Nat} {spare : Nat → Bool} {held : Bool} {fuel : Nat} {cs : List Value} {x : DataW H × List MemPlace}
theorem ent_of (h : DataW.trod enc Tryz.prog w base spare held fuel 27 cs = some x) :
 ∃ (r : ByteArray) (ep ix : Int) (pv : List UInt8) (e s : ByteArray) (d3 : DataW H), cs.toArray = entA r ep ix pv e s ∧ pv.length = 32 ∧ e.size ≤ maxLen ∧ s.size ≤ maxLen ∧ x.1 = .agg [.lit (.string (bl r)), .lit (.int .i64 ep), .lit (.int .i64 ix), d3, .lit (.string (bl e)), .lit (.string (bl s))] := by
 have hS : Tryz.prog.underlying 27 = some (.struct (Tryz.prog.fieldsOf 27)) := by kernel_rfl
 have hF : Tryz.prog.fieldsOf 27 = #[⟨"Room", 9, 0, false, "", "", 0⟩, ⟨"Epoch", 3, 1, false, "", "", 16⟩, ⟨"Index", 3, 2, false, "", "", 24⟩, ⟨"Prev", 25, 3, false, "", "", 32⟩, ⟨"Event", 9, 35, false, "", "", 64⟩, ⟨"Sig", 9, 36, false, "", "", 80⟩] := by kernel_rfl
 have u64 : Tryz.prog.underlying 3 = some (.int .i64) := by kernel_rfl
 have c64 : Tryz.prog.cellsOf 3 = 1 := by kernel_rfl
 have cH : Tryz.prog.cellsOf 25 = 32 := by kernel_rfl
 have cE : Tryz.prog.cellsOf 27 = 37 := by kernel_rfl
 rw [hF] at hS
 obtain ⟨xs, n, rfl, hx, hl, hn, hel⟩ := DataW.trod_struct hS h
 rw [cE] at hl
 match xs, hn with
 | [x0, x1, x2, x3, x4, x5], _ =>
   obtain ⟨r, e0, d0, _⟩ := LaidE.field_str (y := none) x0 (hel 0 _ rfl)
   obtain ⟨ep, e1, d1⟩ := LaidE.field_int x1 u64 c64 (hel 1 _ rfl)
   obtain ⟨ix, e2, d2⟩ := LaidE.field_int x2 u64 c64 (hel 2 _ rfl)
   have h3 : DataW.trod enc Tryz.prog w base spare held n 25 ((cs.drop 3).take 32) = some x3 := by
    rw [← cH]
    exact hel 3 _ rfl
   obtain ⟨pv, hpv, hcp⟩ := LaidW.hash_of (fits_of_trod 4 _ _ flatHash3 _ _ _ h3)
   obtain ⟨e, e4, d4, z4⟩ := LaidE.field_str (y := none) x4 (hel 4 _ rfl)
   obtain ⟨s, e5, d5, z5⟩ := LaidE.field_str (y := none) x5 (hel 5 _ rfl)
   refine ⟨r, ep, ix, pv, e, s, x3.1, ?_, hpv, z4, z5, ?_⟩
   ·unfold entA
    refine congrArg List.toArray ?_
    have hb : (byV pv).length = 32 := by rw [byV_length, hpv]
    apply List.ext_getElem?
    intro i
    rcases Nat.lt_or_ge i 3 with hi | hi
    ·rw [List.append_assoc, List.getElem?_append_left (by simpa using hi)]
     rcases i with _ | _ | _ | i
     ·exact e0
     ·exact e1
     ·exact e2
     ·omega
    ·obtain ⟨j, rfl⟩ : ∃ j, i = 3 + j := ⟨i - 3, by omega⟩
     rw [List.append_assoc, List.getElem?_append_right (by simp), show 3 + j - ([.string r, .int .i64 ep, .int .i64 ix] : List Value).length = j by simp]
     rcases Nat.lt_or_ge j 32 with hj | hj
     ·rw [List.getElem?_append_left (by omega), ← hcp, List.getElem?_take, if_pos hj, List.getElem?_drop]
     ·rw [List.getElem?_append_right (by omega), hb]
      obtain ⟨k, rfl⟩ : ∃ k, j = 32 + k := ⟨j - 32, by omega⟩
      rw [show 32 + k - 32 = k by omega, show 3 + (32 + k) = 35 + k by omega]
      rcases k with _ | _ | k
      ·exact e4
      ·exact e5
      ·rw [List.getElem?_eq_none (by omega), List.getElem?_eq_none (by simp)]
   ·rw [hx]
    simp only [List.map_cons, List.map_nil, d0, d1, d2, d4, d5]
end
end Go.Proofs.YtkcikadgnnjjjaaGreatDoor.LaidI
namespace Go.Proofs.YtkcikadgnnjjjaaGreatDoor.EntB
open OctetS IdentS ShaS EntS WireS
def bytesE (e : Ent) : List UInt8 := list [text e, e.sig]
def bytesW (e : Ent) : List UInt8 × Int := if checkB e = true then (if (text e).length ≤ 8192 then (bytesE e, 0) else ([], 7)) else ([], 2)
theorem read_text {e : Ent} (h : Right e) (hp : e.prev.length = 32) : WireS.read (text e) = some { e with sig := [] } := by
 unfold WireS.read EntS.text
 rw [all_list (h.fits hp)]
 simp only [if_true, EntS.parts, readL]
 rw [small_num (by unfold maxNum; omega) (by have := h.ep0; have := h.ep1; omega), small_num (by unfold maxNum; omega) (by have := h.ix0; have := h.ix1; omega)]
 simp only [Option.bind_some]
 rw [if_pos ⟨hp, h.room⟩]
 have h1 : ((e.ep.toNat : Nat) : Int) = e.ep := by have := h.ep0; omega
 have h2 : ((e.ix.toNat : Nat) : Int) = e.ix := by have := h.ix0; omega
 rw [h1, h2]
theorem bytes_fits {e : Ent} (h : Right e) (ht : (text e).length ≤ 8192) : fits [text e, e.sig] = true := by
 rw [fits_iff]
 have := h.sig
 refine ⟨by simp, fun t hm => ?_⟩
 simp only [List.mem_cons, List.not_mem_nil, or_false] at hm
 rcases hm with rfl | rfl
 ·exact ht
 ·exact this
theorem parse_bytes {e : Ent} (h : Right e) (hp : e.prev.length = 32) (ht : (text e).length ≤ 8192) : WireS.parse (bytesE e) = some e := by
 unfold WireS.parse bytesE
 rw [all_list (bytes_fits h ht)]
 simp only [if_true, parseL, read_text h hp, Option.map_some, withSig]
end Go.Proofs.YtkcikadgnnjjjaaGreatDoor.EntB
