/-
  WHAT IS PROVED: small laws over whatever program: append onto a slice that is owned, of whatever source; slices that are only read; which blocks a call may have turned. plain laws of the texts that servers exchange: entries, heads, deals, proofs, messages, as bytes: no program. entries, heads, deals, proofs and messages as rows of cells, and when texts are such. numbers, words, and small tests of the texts between servers. what the listed words are, and which rows messages and sums among the arguments are. plain laws of deals: what is signed, their coding, and which answers fit. the word's kind of a deal. the deal of bytes, or none, and the proof of bytes, or none. Condition: what each theorem names.
-/
import Derived.Test.YtkcikadgnnjjjaaGreatDoorS0
import Derived.Test.YtkcikadgnnjjjaaGreatDoorZEHD11
set_option linter.unusedVariables false
set_option linter.unusedSimpArgs false
set_option maxRecDepth 100000
set_option maxHeartbeats 4000000
namespace Go.Proofs.YtkcikadgnnjjjaaGreatDoor
open Go Go.RowKit
section
variable {P : Program} (w : World)
theorem wp_app {o : Oper} {a : Act} {K : Act → World → Prop} {Q : Exit → Act → World → Prop} (s x : Operand) (t tx : TypeId)
 (ho : o.op = .call { callee := .builtin .append, args := #[s, x], argTypes := #[t, tx] })
 {e : TypeId} {size bytes : Nat} {z : Value} (T : SliceTy P t e size bytes z) (base : Nat)
 (v : Value) (n : Nat) (xs : List Value) (hv : a.eval s = v) (hown : w.ownsRow base e size v n xs)
 (y : Value) (m : Nat) (news : List Value) (hy : a.eval x = y) (hs : Src P size tx y m news w)
 (N : Nat) (hN : n + m = N) (zs : List Value) (hz : xs ++ news = zs)
 (h63 : N ≤ maxLen) (hbytes : N * bytes ≤ 140737488355328) (hbase : base ≤ w.heap.size)
 (h : ∀ a' c' w', w'.ownsRow base e size (.slice a' N c') N zs → w.grownBy w' v.ownBlock → ((Value.slice a' N c').ownBlock = v.ownBlock ∨ (Value.slice a' N c').ownBlock = some w.heap.size) → K (a.put o.dst (.slice a' N c')) w') : o.wp P a w K Q := by
 subst hN
 subst hz
 obtain ⟨v', w', hr, h2, h3, h4⟩ := run_app (P := P) w o.type tx T base v n xs hown y m news hs h63 hbytes hbase
 unfold Oper.wp execOp
 simp only [ho, resolve, invoke, builtin, Sem.run_bind, Sem.run_pure, Result.andThen_ok, List.map_toArray, List.map_cons, List.map_nil, hv, hy, hr]
 obtain ⟨a', c', rfl, _, _⟩ := ownsRow_slice h2
 exact h a' c' w' h2 h3 h4
theorem wpList_app {ops : Array Oper} {rest : List Oper} {o : Oper} {a : Act} {Q : Exit → Act → World → Prop} (hgd : o.guard = none) (s x : Operand) (t tx : TypeId)
 (ho : o.op = .call { callee := .builtin .append, args := #[s, x], argTypes := #[t, tx] })
 {e : TypeId} {size bytes : Nat} {z : Value} (T : SliceTy P t e size bytes z) (base : Nat)
 (v : Value) (n : Nat) (xs : List Value) (hv : a.eval s = v) (hown : w.ownsRow base e size v n xs)
 (y : Value) (m : Nat) (news : List Value) (hy : a.eval x = y) (hs : Src P size tx y m news w)
 (N : Nat) (hN : n + m = N) (zs : List Value) (hz : xs ++ news = zs)
 (h63 : N ≤ maxLen) (hbytes : N * bytes ≤ 140737488355328) (hbase : base ≤ w.heap.size)
 (h : ∀ a' c' w', w'.ownsRow base e size (.slice a' N c') N zs → w.grownBy w' v.ownBlock → ((Value.slice a' N c').ownBlock = v.ownBlock ∨ (Value.slice a' N c').ownBlock = some w.heap.size) → wpList P ops Q rest (a.put o.dst (.slice a' N c')) w') : wpList P ops Q (o :: rest) a w :=
 wpList_plain hgd fun _ hK => wp_app w s x t tx ho T base v n xs hv hown y m news hy hs N hN zs hz h63 hbytes hbase fun a' c' w' h2 h3 h4 => hK _ _ (h a' c' w' h2 h3 h4)
end
/-! ### A slice that is only read: its cells, in order -/
/-! ### What a call may have turned -/
/-! ### Blocks -/
end Go.Proofs.YtkcikadgnnjjjaaGreatDoor
namespace Go.Proofs.YtkcikadgnnjjjaaGreatDoor.WireS
open OctetS IdentS EntS
/-! ### Small numbers -/
/-! ### Entries -/
/-! ### Heads -/
/-! ### Deals -/
def wordD (k : Int) : List UInt8 := if k = 1 then [111, 102, 102, 101, 114] else if k = 2 then [97, 99, 99, 101, 112, 116] else []
/-! ### Proofs -/
/-! ### Rejections and questions -/
/-! ### Messages -/
def wordN : Nat → List UInt8
 | 1 => [115, 117, 98, 109, 105, 116]
 | 2 => [114, 101, 106, 101, 99, 116]
 | 3 => [101, 110, 116, 114, 121]
 | 4 => [104, 101, 97, 100]
 | 5 => [97, 115, 107]
 | 6 => [112, 114, 111, 111, 102]
 | 7 => [100, 101, 97, 108]
 | _ => []
structure Right (m : Ms) : Prop where
 f0 : 0 ≤ m.frm
 f1 : m.frm ≤ 63
 t0 : 0 ≤ m.to
 t1 : m.to ≤ 63
 k0 : 0 < m.kind
 k1 : m.kind < 8
 len : m.body.length ≤ 8192
 fit : fitsB m.kind.toNat m.body = true
def partsM (m : Ms) : List (List UInt8) := [wordN m.kind.toNat, num m.frm.toNat, num m.to.toNat, m.body]
theorem wordN_len (k : Nat) : (wordN k).length ≤ 6 := by
 unfold wordN
 split <;> simp
theorem num_server {n : Int} (h0 : 0 ≤ n) (h1 : n ≤ 63) : (num n.toNat).length ≤ 2 := OctetS.num_length2 (by omega)
theorem Right.fits {m : Ms} (h : Right m) : OctetS.fits (partsM m) = true := by
 rw [fits_iff]
 refine ⟨by simp [partsM], fun t ht => ?_⟩
 have h1 := num_server h.f0 h.f1
 have h2 := num_server h.t0 h.t1
 have h3 := wordN_len m.kind.toNat
 simp only [partsM, List.mem_cons, List.not_mem_nil, or_false] at ht
 rcases ht with rfl | rfl | rfl | rfl
 ·omega
 ·omega
 ·omega
 ·exact h.len
end Go.Proofs.YtkcikadgnnjjjaaGreatDoor.WireS
namespace Go.Proofs.YtkcikadgnnjjjaaGreatDoor.WireT
open Go Go.RowKit Go.Shelf OctetS IdentS EntS WireS OctG OctP OctQ EventP EventC EntP
/-! ### Small numbers -/
/-! ### A list, and its cells -/
/-! ### Entries -/
/-! ### Heads -/
/-! ### Bytes: two texts -/
/-! ### Deals -/
def dlA (k : Int) (r : ByteArray) (ep ix hub next : Int) (s : ByteArray) : Array Value := #[.int .u8 k, .string r, .int .i64 ep, .int .i64 ix, .int .i64 hub, .int .i64 next, .string s]
def dlZ : Array Value := dlA 0 ⟨#[]⟩ 0 0 0 0 ⟨#[]⟩
def dlV : Option Dl → Value
 | some e => .tuple #[.agg (dlA e.kind (bsOf e.room) e.ep e.ix e.hub e.next (bsOf e.sig)), .int .i64 0]
 | none => .tuple #[.agg dlZ, .int .i64 6]
theorem parseD_bad {s : List UInt8} {l : List (List UInt8)} {y : Int} (ha : all s = (l, y)) (h : y ≠ 0 ∨ l.length ≠ 2) : parseD s = none := by
 unfold parseD
 rw [ha]
 rcases h with h | h
 ·exact if_neg h
 ·split
  ·unfold parseDL
   split
   ·rename_i heq
    simp only at heq
    subst heq
    simp at h
   ·rfl
  ·rfl
theorem parseD_two {s t g : List UInt8} (ha : all s = ([t, g], 0)) : parseD s = (readD t).map fun e => withSigD e g := by
 unfold parseD
 rw [ha]
 rfl
theorem readD_bad {s : List UInt8} {l : List (List UInt8)} {y : Int} (ha : all s = (l, y)) (h : y ≠ 0 ∨ l.length ≠ 6) : readD s = none := by
 unfold readD
 rw [ha]
 rcases h with h | h
 ·exact if_neg h
 ·split
  ·unfold readDL
   split
   ·rename_i heq
    simp only at heq
    subst heq
    simp at h
   ·rfl
  ·rfl
theorem readD_six {s : List UInt8} {k r a b h n : List UInt8} (ha : all s = ([k, r, a, b, h, n], 0)) :
 readD s = if checkD ⟨kindD k, r, numI 4096 a, numI 4096 b, numI 4096 h, numI 4096 n, []⟩ = true then some ⟨kindD k, r, numI 4096 a, numI 4096 b, numI 4096 h, numI 4096 n, []⟩ else none := by
 have hno : ∀ {t : List UInt8}, small 4096 t = none → ¬ 0 ≤ numI 4096 t := fun h => by rw [numI_none h]; omega
 unfold readD
 rw [ha]
 simp only [if_true, readDL]
 cases h1 : small 4096 a with
 | none => simp [checkD, place_small, h1]
 | some x =>
   cases h2 : small 4096 b with
   | none => simp [checkD, place_small, h2]
   | some z =>
     cases h3 : small 4096 h with
     | none => simp [checkD, hno h3]
     | some p =>
       cases h4 : small 4096 n with
       | none => simp [checkD, hno h4]
       | some q => simp only [Option.bind_some, numI_some h1, numI_some h2, numI_some h3, numI_some h4]
/-! ### Proofs -/
def pfA (n : Int) (a x b y : ByteArray) : Array Value := #[.int .i64 n, .string a, .string x, .string b, .string y]
def pfZ : Array Value := pfA 0 ⟨#[]⟩ ⟨#[]⟩ ⟨#[]⟩ ⟨#[]⟩
/-! ### Rejections -/
/-! ### Messages -/
def msA (k f t : Int) (b : ByteArray) : Array Value := #[.int .u8 k, .int .i64 f, .int .i64 t, .string b]
def msZ : Array Value := msA 0 0 0 ⟨#[]⟩
/-! ### Results and rows -/
/-! ### More ways to see a list, and a text -/
end Go.Proofs.YtkcikadgnnjjjaaGreatDoor.WireT
namespace Go.Proofs.YtkcikadgnnjjjaaGreatDoor.WireA
open Go Go.RowKit Go.Shelf OctetS IdentS EntS WireS OctP OctQ IdentP IdentR EventP EventC WireT
theorem d_number (w : World) (s : ByteArray) (hs : s.size ≤ maxLen) : Calls Tryz.prog 91 #[.string s] w fun e w' => e = .returned (.int .i64 (numI 4096 (bl s))) ∧ w = w' := by
 obtain ⟨n, u, y, hg⟩ : ∃ n u y, getNum (bl s) = (n, u, y) := ⟨_, _, _, rfl⟩
 have hG := GetNum_at w s hs hg
 obtain ⟨z, hz⟩ := nXe (numI 4096 (bl s))
 rw [← hz]
 have hcase : ((y != 0) = true ∧ z = -1) ∨ (y = 0 ∧ u < s.size ∧ z = -1) ∨ (y = 0 ∧ u = s.size ∧ 4096 < n ∧ n ≤ maxNum ∧ z = -1) ∨ (y = 0 ∧ u = s.size ∧ n ≤ 4096 ∧ z = n) := by
  rw [hz]
  rcases small_cases 4096 hg with ⟨h, h'⟩ | ⟨h, h1, h'⟩ | ⟨h, h1, h2, h3, h'⟩ | ⟨h, h1, h2, h3, h'⟩
  ·exact .inl ⟨by simpa using h, numI_none h'⟩
  ·exact .inr (.inl ⟨h, by rw [← bl_length]; exact h1, numI_none h'⟩)
  ·exact .inr (.inr (.inl ⟨h, by rw [← bl_length]; exact h1, h2, h3, numI_none h'⟩))
  ·exact .inr (.inr (.inr ⟨h, by rw [← bl_length]; exact h1, h2, numI_some h'⟩))
 have HG := lh hG
 clear hG hg hz
 unfold maxNum at hcase
 unfold maxLen at hs
 rcases hcase with ⟨hy, rfl⟩ | ⟨rfl, hy, rfl⟩ | ⟨rfl, rfl, hy, hn, rfl⟩ | ⟨rfl, rfl, hy, rfl⟩
 all_goals
  go_enter Tryz.func91, Tryz.ntmps91
  go_wp2_with fail
  refine HG.out.mono ?_
  rintro e w1 ⟨rfl, rfl⟩
  go_wp2
  go_ret
  exact ⟨rfl, rfl⟩
def wordDn (k : Nat) : List UInt8 := wordD k
theorem kindD_le (s : List UInt8) : kindD s = 0 ∨ kindD s = 1 ∨ kindD s = 2 := by
 unfold kindD
 split
 ·exact .inr (.inl rfl)
 ·split
  ·exact .inr (.inr rfl)
  ·exact .inl rfl
theorem d_kind_hit {s : List UInt8} {k : Nat} (h1 : 1 ≤ k) (h9 : k < 3) (hlt : ∀ j, 1 ≤ j → j < k → wordDn j ≠ s) (h : wordDn k = s) : kindD s = k := by
 have hk : k = 1 ∨ k = 2 := by omega
 subst h
 rcases hk with rfl | rfl <;> decide
theorem d_kind_miss {s : List UInt8} (h : ∀ j, 1 ≤ j → j < 3 → wordDn j ≠ s) : kindD s = 0 := by
 unfold kindD
 rw [if_neg (fun h' => h 1 (by omega) (by omega) h'.symm), if_neg (fun h' => h 2 (by omega) (by omega) h'.symm)]
end Go.Proofs.YtkcikadgnnjjjaaGreatDoor.WireA
namespace Go.Proofs.YtkcikadgnnjjjaaGreatDoor.LaidW
open Go Go.ChangeShapes Go.WideShapes Go.RowKit
theorem deal_of {W : World} {rest : List (String × DataW Unit)} (h : laidMet Tryz.prog (("palaver/handover.words", Rows.laid_palaver_handover_words) :: rest) W) (k : Nat) (hk : k < 3) :
 W.cell? ⟨0, k, none⟩ = some (.string (bsOf (WireA.wordDn k))) := by
 have gW : Tryz.prog.globalNamed "palaver/handover.words" = some 0 := by kernel_rfl
 have tW : (Tryz.prog.globals[0]?).map (·.type) = some 122 := by kernel_rfl
 have a3 : Tryz.prog.underlying 122 = some (.array 3 9) := by kernel_rfl
 have a9 : Tryz.prog.underlying 9 = some .string := by kernel_rfl
 have c9 : Tryz.prog.cellsOf 9 = 1 := by kernel_rfl
 have hS : laidMet Tryz.prog (("palaver/handover.words", .agg (((List.range 3).map fun k => WireA.wordDn k).map fun l => .lit (.string l))) :: rest) W := h
 exact Laid.strs_of_head gW tW a3 a9 c9 hS k (WireA.wordDn k) (by rw [List.getElem?_map, List.getElem?_range hk]; rfl)
end Go.Proofs.YtkcikadgnnjjjaaGreatDoor.LaidW
namespace Go.Proofs.YtkcikadgnnjjjaaGreatDoor.DlS
open OctetS IdentS ShaS EntS WireS
structure Right (e : Dl) : Prop where
 kind : e.kind = 1 ∨ e.kind = 2
 room : roomB e.room = true
 sig : e.sig.length ≤ 8192
 ep0 : 0 ≤ e.ep
 ep1 : e.ep ≤ 4096
 ix0 : 0 ≤ e.ix
 ix1 : e.ix ≤ 4096
 hub0 : 0 ≤ e.hub
 hub1 : e.hub ≤ 63
 next0 : 0 ≤ e.next
 next1 : e.next ≤ 63
 ne : e.hub ≠ e.next
theorem check_iff {e : Dl} : checkD e = true ↔ Right e := by
 unfold checkD
 simp only [Bool.and_eq_true, Bool.or_eq_true, place_iff, decide_eq_true_eq]
 exact ⟨fun ⟨a, b, c, d, f, g1, g2, g3, g4, g5⟩ => ⟨a, b, c, d.1, d.2, f.1, f.2, g1, g2, g3, g4, g5⟩, fun h => ⟨h.kind, h.room, h.sig, ⟨h.ep0, h.ep1⟩, ⟨h.ix0, h.ix1⟩, h.hub0, h.hub1, h.next0, h.next1, h.ne⟩⟩
def parts (e : Dl) : List (List UInt8) := [wordD e.kind, e.room, num e.ep.toNat, num e.ix.toNat, num e.hub.toNat, num e.next.toNat]
def text (e : Dl) : List UInt8 := OctetS.list (parts e)
def textOf (e : Dl) : List UInt8 := if checkD e then text e else []
theorem word_len (k : Int) : (wordD k).length ≤ 6 := by
 unfold wordD
 split
 ·simp
 ·split <;> simp
theorem kind_word {k : Int} (h : k = 1 ∨ k = 2) : kindD (wordD k) = k := by
 rcases h with rfl | rfl <;> rfl
theorem Right.fits {e : Dl} (h : Right e) : fits (parts e) = true := by
 rw [fits_iff]
 refine ⟨by simp [parts], fun t ht => ?_⟩
 have hw := word_len e.kind
 have hr := room_length h.room
 have h1 := num_place h.ep0 h.ep1
 have h2 := num_place h.ix0 h.ix1
 have h3 := num_place h.hub0 (by have := h.hub1; omega)
 have h4 := num_place h.next0 (by have := h.next1; omega)
 simp only [parts, List.mem_cons, List.not_mem_nil, or_false] at ht
 rcases ht with rfl | rfl | rfl | rfl | rfl | rfl <;> omega
def bytesE (e : Dl) : List UInt8 := list [text e, e.sig]
def bytesW (e : Dl) : List UInt8 × Int := if checkD e = true then (if (text e).length ≤ 8192 then (bytesE e, 0) else ([], 7)) else ([], 2)
theorem toNat_cast {n : Int} (h : 0 ≤ n) : ((n.toNat : Nat) : Int) = n := by omega
theorem read_text {e : Dl} (h : Right e) : readD (text e) = some { e with sig := [] } := by
 unfold readD text
 rw [all_list h.fits]
 simp only [if_true, parts, readDL]
 rw [small_num (by unfold maxNum; omega) (by have := h.ep0; have := h.ep1; omega), small_num (by unfold maxNum; omega) (by have := h.ix0; have := h.ix1; omega),
  small_num (by unfold maxNum; omega) (by have := h.hub0; have := h.hub1; omega), small_num (by unfold maxNum; omega) (by have := h.next0; have := h.next1; omega)]
 simp only [Option.bind_some]
 rw [toNat_cast h.ep0, toNat_cast h.ix0, toNat_cast h.hub0, toNat_cast h.next0, kind_word h.kind]
 exact if_pos ((check_iff (e := ⟨e.kind, e.room, e.ep, e.ix, e.hub, e.next, []⟩)).2 ⟨h.kind, h.room, Nat.zero_le _, h.ep0, h.ep1, h.ix0, h.ix1, h.hub0, h.hub1, h.next0, h.next1, h.ne⟩)
theorem bytes_fits {e : Dl} (h : Right e) (ht : (text e).length ≤ 8192) : OctetS.fits [text e, e.sig] = true := by
 rw [fits_iff]
 have := h.sig
 refine ⟨by simp, fun t hm => ?_⟩
 simp only [List.mem_cons, List.not_mem_nil, or_false] at hm
 rcases hm with rfl | rfl
 ·exact ht
 ·exact this
theorem parse_bytes {e : Dl} (h : Right e) (ht : (text e).length ≤ 8192) : parseD (bytesE e) = some e := by
 unfold parseD bytesE
 rw [all_list (bytes_fits h ht)]
 simp only [if_true, parseDL, read_text h, Option.map_some, withSigD]
def answer (e : Dl) : Dl := { e with kind := 2, sig := [] }
def answerW (e : Dl) : Int := if checkD e = true then (if e.kind = 1 then 0 else 11) else 2
end Go.Proofs.YtkcikadgnnjjjaaGreatDoor.DlS
namespace Go.Proofs.YtkcikadgnnjjjaaGreatDoor.DlV
open Go Go.RowKit Go.Shelf OctetS IdentS EntS WireS OctP OctQ IdentP WireT WireA
structure VarsD (w : World) : Prop where
 i : VarsI w
 hw : ∀ k : Nat, k < 3 → w.cell? ⟨0, k, none⟩ = some (.string (bsOf (wordDn k)))
theorem VarsD.below {w w' : World} (h : VarsD w) (hb : Below w.heap.size w w') : VarsD w' :=
 ⟨h.i.below hb, fun k hk => Steps.below_cell hb (h.hw k hk)⟩
theorem d_kind_ok (w : World) (s : ByteArray) (hv : VarsD w) : Calls Tryz.prog 90 #[.string s] w fun e w' => e = .returned (.int .u8 (kindD (bl s))) ∧ w = w' := by
 have HV := lh hv.hw
 clear hv
 go_enter Tryz.func90, Tryz.ntmps90
 go_wp2
 go_loop [3] (fun i => ∃ k : Nat, i = .int .u8 k ∧ 1 ≤ k ∧ k ≤ 3 ∧ ∀ j, 1 ≤ j → j < k → wordDn j ≠ bl s) (fun i => 3 - (intOf i).toNat)
 case atStart => exact ⟨1, rfl, by omega, by omega, fun j h1 h2 => by omega⟩
 case round =>
  obtain ⟨k, rfl, hk1, hk9, hall⟩ := hrel
  have Hall := lh hall
  clear hall
  by_cases hlt : k < 3
  ·have hc := HV.out k hlt
   by_cases he : wordDn k = bl s
   ·have hb : (bsOf (wordDn k)).toList == s.toList := by rw [he, bsOf_bl]; simp
    have hb' : ((bsOf (wordDn k)).toList == s.toList) = true := hb
    have hfin := d_kind_hit hk1 hlt Hall.out he
    have Hfin := lh hfin
    clear hfin he hb
    obtain ⟨wd, hwd⟩ := nXe (bsOf (wordDn k))
    rw [← hwd] at hc hb'
    clear hwd
    go_wp2
    go_ret
    exact ⟨by rw [Hfin.out]; rfl, rfl⟩
   ·have hb' : ((bsOf (wordDn k)).toList == s.toList) = false := str_ne (fun h => he (by have := congrArg bl h; rw [bl_bsOf] at this; exact this))
    have hnx : ∀ j, 1 ≤ j → j < k + 1 → wordDn j ≠ bl s := fun j h1 h2 => by
     by_cases hj : j = k
     ·rw [hj]; exact he
     ·exact Hall.out j h1 (by omega)
    have Hnx := lh hnx
    clear he hnx
    obtain ⟨wd, hwd⟩ := nXe (bsOf (wordDn k))
    rw [← hwd] at hc hb'
    clear hwd
    go_wp2
    go_round
    case rel => exact ⟨k + 1, by go_num, by omega, by omega, Hnx.out⟩
    case measure => simp [intOf]; omega
  ·obtain rfl : k = 3 := by omega
   have hfin := d_kind_miss Hall.out
   have Hfin := lh hfin
   clear hfin
   go_wp2
   go_ret
   exact ⟨by rw [Hfin.out]; rfl, rfl⟩
end Go.Proofs.YtkcikadgnnjjjaaGreatDoor.DlV
namespace Go.Proofs.YtkcikadgnnjjjaaGreatDoor.WireD
open Go Go.RowKit Go.Shelf OctetS IdentS EntS WireS OctG OctP OctQ OctA IdentP IdentR EventP EventC EntP WireT Steps Wr WireA DlV
def withB (m a b : Int) : Bool := decide (0 ≤ a) && (decide (a ≤ m) && (decide (0 ≤ b) && decide (b ≤ m)))
theorem withB_cases (m a b : Int) : (a < 0 ∧ withB m a b = false) ∨ (0 ≤ a ∧ m < a ∧ withB m a b = false) ∨ (0 ≤ a ∧ a ≤ m ∧ b < 0 ∧ withB m a b = false) ∨ (0 ≤ a ∧ a ≤ m ∧ 0 ≤ b ∧ m < b ∧ withB m a b = false) ∨ (0 ≤ a ∧ a ≤ m ∧ 0 ≤ b ∧ b ≤ m ∧ withB m a b = true) := by
 unfold withB
 by_cases h1 : 0 ≤ a
 ·by_cases h2 : a ≤ m
  ·by_cases h3 : 0 ≤ b
   ·by_cases h4 : b ≤ m
    ·exact .inr (.inr (.inr (.inr ⟨h1, h2, h3, h4, by simp [h1, h2, h3, h4]⟩)))
    ·exact .inr (.inr (.inr (.inl ⟨h1, h2, h3, by omega, by simp [h4]⟩)))
   ·exact .inr (.inr (.inl ⟨h1, h2, by omega, by simp [h3]⟩))
  ·exact .inr (.inl ⟨h1, by omega, by simp [h2]⟩)
 ·exact .inl ⟨by omega, by simp [h1]⟩
theorem within_ok (w : World) (m : Int) (B : Nat) (a b : Int) (h0 : w.cell? ⟨B, 0, none⟩ = some (.int .i64 a)) (h1 : w.cell? ⟨B, 1, none⟩ = some (.int .i64 b)) :
 Calls Tryz.prog 92 #[.int .i64 m, .slice (some ⟨B, 0, none⟩) 2 2] w fun e w' => e = .returned (.bool (withB m a b)) ∧ w = w' := by
 rcases withB_cases m a b with ⟨ha, hw⟩ | ⟨ha, ha', hw⟩ | ⟨ha, ha', hb, hw⟩ | ⟨ha, ha', hb, hb', hw⟩ | ⟨ha, ha', hb, hb', hw⟩
 all_goals
  rw [hw]
  clear hw
  go_enter Tryz.func92, Tryz.ntmps92
  go_wp2
 ·refine wp_loop_rounds 1 ?_
  rw [rounds_succ]
  go_wp2
  go_ret
  exact ⟨rfl, rfl⟩
 ·refine wp_loop_rounds 1 ?_
  rw [rounds_succ]
  go_wp2
  go_ret
  exact ⟨rfl, rfl⟩
 ·refine wp_loop_rounds 2 ?_
  rw [rounds_succ]
  go_wp2
  rw [rounds_succ]
  go_wp2
  go_ret
  exact ⟨rfl, rfl⟩
 ·refine wp_loop_rounds 2 ?_
  rw [rounds_succ]
  go_wp2
  rw [rounds_succ]
  go_wp2
  go_ret
  exact ⟨rfl, rfl⟩
 ·refine wp_loop_rounds 3 ?_
  iterate 3
   rw [rounds_succ]
   go_wp2
  go_ret
  exact ⟨rfl, rfl⟩
theorem within_new2 (w : World) (m : Int) (t : TypeId) (a b : Int) (B : Nat) (hB : B = w.heap.size) :
 Calls Tryz.prog 92 #[.int .i64 m, .slice (some ⟨B, 0, none⟩) 2 2] (w.alloc (.cells #[.int .i64 a, .int .i64 b] t)) fun e w' => e = .returned (.bool (withB m a b)) ∧ w.alloc (.cells #[.int .i64 a, .int .i64 b] t) = w' := by
 subst hB
 exact within_ok _ m _ a b ((cell_row (heap_new w _)).trans rfl) ((cell_row (heap_new w _)).trans rfl)
theorem within_new (w : World) (m : Int) (t : TypeId) (a b : Int) :
 Calls Tryz.prog 92 #[.int .i64 m, .slice (some ⟨w.heap.size, 0, none⟩) 2 2] (w.alloc (.cells #[.int .i64 a, .int .i64 b] t)) fun e w' => e = .returned (.bool (withB m a b)) ∧ w.alloc (.cells #[.int .i64 a, .int .i64 b] t) = w' :=
 within_ok _ m _ a b ((cell_row (heap_new w _)).trans rfl) ((cell_row (heap_new w _)).trans rfl)
def dlOf (k : Int) (r : ByteArray) (ep ix hub next : Int) (s : ByteArray) : Dl := ⟨k, bl r, ep, ix, hub, next, bl s⟩
def chkD (k : Int) (rb : Bool) (n : Nat) (ep ix hub next : Int) : Bool := (decide (k = 1) || decide (k = 2)) && (rb && (decide (n ≤ 8192) && (placeB ep && (placeB ix && (decide (0 ≤ hub) && (decide (hub ≤ 63) && (decide (0 ≤ next) && (decide (next ≤ 63) && decide (hub ≠ next)))))))))
theorem chkD_eq {k : Int} {r : ByteArray} {ep ix hub next : Int} {s : ByteArray} (hk : 0 ≤ k) : checkD (dlOf k r ep ix hub next s) = chkD k (roomB (bl r)) s.size ep ix hub next := by
 unfold checkD dlOf chkD
 simp only [bl_length]
theorem chkD_cases {k : Int} {rb : Bool} {n : Nat} {ep ix hub next : Int} (hk : 0 ≤ k) :
 whyOf (chkD k rb n ep ix hub next) = 0 ∧ 0 < k ∧ k < 3 ∧ rb = true ∧ n ≤ 8192 ∧ withB 4096 ep ix = true ∧ withB 63 hub next = true ∧ (hub == next) = false ∨ whyOf (chkD k rb n ep ix hub next) = 2 ∧ (k = 0 ∨ 0 < k ∧ (3 ≤ k ∨ k < 3 ∧ (rb = false ∨ rb = true ∧ (8192 < n ∨ n ≤ 8192 ∧ (withB 4096 ep ix = false ∨ withB 4096 ep ix = true ∧ (withB 63 hub next = false ∨ withB 63 hub next = true ∧ (hub == next) = true)))))) := by
 by_cases h0 : k = 0
 ·exact .inr ⟨by subst h0; rfl, .inl h0⟩
 by_cases h3 : 3 ≤ k
 ·have h1 : ¬ k = 1 := by omega
  have h2 : ¬ k = 2 := by omega
  exact .inr ⟨by simp [chkD, h1, h2, whyOf], .inr ⟨by omega, .inl h3⟩⟩
 have h12 : (decide (k = 1) || decide (k = 2)) = true := by simp; omega
 unfold chkD
 rw [h12, Bool.true_and]
 cases rb
 ·exact .inr ⟨rfl, .inr ⟨by omega, .inr ⟨by omega, .inl rfl⟩⟩⟩
 by_cases hn : n ≤ 8192
 ·have e1 : (true && (decide (n ≤ 8192) && (placeB ep && (placeB ix && (decide (0 ≤ hub) && (decide (hub ≤ 63) && (decide (0 ≤ next) && (decide (next ≤ 63) && decide (hub ≠ next))))))))) = (withB 4096 ep ix && (withB 63 hub next && !(hub == next))) := by
   by_cases he : hub = next
   ·subst he; simp [withB, placeB, hn, Bool.and_assoc]
   ·have : (hub == next) = false := by simpa using he
    rw [this]
    simp [withB, placeB, hn, he, Bool.and_assoc]
  rw [e1]
  cases withB 4096 ep ix
  ·exact .inr ⟨rfl, .inr ⟨by omega, .inr ⟨by omega, .inr ⟨rfl, .inr ⟨hn, .inl rfl⟩⟩⟩⟩⟩
  ·cases withB 63 hub next
   ·exact .inr ⟨rfl, .inr ⟨by omega, .inr ⟨by omega, .inr ⟨rfl, .inr ⟨hn, .inr ⟨rfl, .inl rfl⟩⟩⟩⟩⟩⟩
   ·cases (hub == next)
    ·exact .inl ⟨rfl, by omega, by omega, rfl, hn, rfl, rfl, rfl⟩
    ·exact .inr ⟨rfl, .inr ⟨by omega, .inr ⟨by omega, .inr ⟨rfl, .inr ⟨hn, .inr ⟨rfl, .inr ⟨rfl, rfl⟩⟩⟩⟩⟩⟩⟩
 ·exact .inr ⟨by simp [hn, whyOf], .inr ⟨by omega, .inr ⟨by omega, .inr ⟨rfl, .inl (by omega)⟩⟩⟩⟩
theorem d_Check (w : World) (p : Array Value) (k : Int) (r : ByteArray) (ep ix hub next : Int) (s : ByteArray) (hp : p = dlA k r ep ix hub next s) (hv : VarsI w) (hk : 0 ≤ k) (hr : r.size ≤ 140737488351232) (hs : s.size ≤ maxLen) :
 Calls Tryz.prog 56 #[.agg p] w (RB (.int .i64 (whyOf (checkD (dlOf k r ep ix hub next s)))) w) := by
 unfold maxLen at hs
 rw [chkD_eq hk]
 obtain ⟨rn, hR⟩ := room_at w r hr
 obtain ⟨rb, hrb⟩ := nXe (roomB (bl r))
 rw [← hrb] at hR ⊢
 clear hrb
 obtain ⟨y, hy⟩ := nXe (whyOf (chkD k rb s.size ep ix hub next))
 rw [← hy]
 have hcase : y = 0 ∧ 0 < k ∧ k < 3 ∧ rb = true ∧ s.size ≤ 8192 ∧ withB 4096 ep ix = true ∧ withB 63 hub next = true ∧ (hub == next) = false ∨ y = 2 ∧ (k = 0 ∨ 0 < k ∧ (3 ≤ k ∨ k < 3 ∧ (rb = false ∨ rb = true ∧ (8192 < s.size ∨ s.size ≤ 8192 ∧ (withB 4096 ep ix = false ∨ withB 4096 ep ix = true ∧ (withB 63 hub next = false ∨ withB 63 hub next = true ∧ (hub == next) = true)))))) := by rw [hy]; exact chkD_cases hk
 clear hy
 obtain ⟨W1, hW1⟩ := nXe (withB 4096 ep ix)
 obtain ⟨W2, hW2⟩ := nXe (withB 63 hub next)
 have HI1 := lh (fun w t => within_new w 4096 t ep ix)
 have HI2 := lh (fun w t B h => within_new2 w 63 t hub next B h)
 rw [← hW1] at hcase HI1
 rw [← hW2] at hcase HI2
 clear hW1 hW2
 have p0 : p[0]? = some (.int .u8 k) := by rw [hp]; rfl
 have p1 : p[1]? = some (.string r) := by rw [hp]; rfl
 have p2 : p[2]? = some (.int .i64 ep) := by rw [hp]; rfl
 have p3 : p[3]? = some (.int .i64 ix) := by rw [hp]; rfl
 have p4 : p[4]? = some (.int .i64 hub) := by rw [hp]; rfl
 have p5 : p[5]? = some (.int .i64 next) := by rw [hp]; rfl
 have p6 : p[6]? = some (.string s) := by rw [hp]; rfl
 obtain ⟨w0, hw0⟩ := nXe (w.alloc (.cells p 56))
 have hb0 : Below w.heap.size w w0 := by rw [hw0]; exact ((Below.refl _ w).alloc (Nat.le_refl _) _)
 have hx0 : w0.heap[w.heap.size]? = some (.cells p 56 (0, 0)) := by rw [hw0]; exact heap_new _ _
 have HBL0 := lh hb0
 have HW0 := lh hw0
 have lx0 := lt_row hx0
 obtain ⟨cx0, fx0⟩ := row_facts hx0
 have HV0 := lh (hv.below hb0)
 have HR := lh hR
 clear hR hv hb0 hw0 hr hp
 rcases hcase with ⟨rfl, h1, h2, rfl, h3, rfl, rfl, h4⟩ | ⟨rfl, rfl | ⟨h1, h2 | ⟨h2, rfl | ⟨rfl, h3 | ⟨h3, rfl | ⟨rfl, rfl | ⟨rfl, h4⟩⟩⟩⟩⟩⟩⟩
 ·skip
  try (have h1' : (k == 0) = false := by simp; omega)
  go_enter Tryz.func56, Tryz.ntmps56
  go_wp2_with fail
  rw [← HW0.out]
  refine (HR.out w0 HV0.out).mono ?_
  rintro e w1 ⟨rfl, hb⟩
  have HBL1 := tbB HBL0 hb
  have hx1 := (hb.block _ lx0).trans hx0
  have lx1 := lt_row hx1
  obtain ⟨cx1, fx1⟩ := row_facts hx1
  have HV1 := lh (HV0.out.below hb)
  clear hb hx0 cx0 fx0
  go_wp2_with fail
  refine (HI1.out w1 _).mono ?_
  rintro e0 wz ⟨rfl, rfl⟩
  go_wp2_with fail
  refine (HI2.out (w1.alloc (.cells #[.int .i64 ep, .int .i64 ix] 3)) _ (w1.heap.size + 1) (by simp)).mono ?_
  rintro e1 wz ⟨rfl, rfl⟩
  go_wp2
  go_ret
  exact ⟨rfl, ((HBL1.out.alloc (by omega) _).alloc (by simp; omega) _)⟩
 ·skip
  try (have h1' : (k == 0) = false := by simp; omega)
  go_enter Tryz.func56, Tryz.ntmps56
  go_wp2_with fail
  rw [← HW0.out]
  refine (HR.out w0 HV0.out).mono ?_
  rintro e w1 ⟨rfl, hb⟩
  have HBL1 := tbB HBL0 hb
  have hx1 := (hb.block _ lx0).trans hx0
  have lx1 := lt_row hx1
  obtain ⟨cx1, fx1⟩ := row_facts hx1
  have HV1 := lh (HV0.out.below hb)
  clear hb hx0 cx0 fx0
  go_wp2
  go_ret
  exact ⟨rfl, HBL1.out⟩
 ·skip
  try (have h1' : (k == 0) = false := by simp; omega)
  go_enter Tryz.func56, Tryz.ntmps56
  go_wp2_with fail
  rw [← HW0.out]
  refine (HR.out w0 HV0.out).mono ?_
  rintro e w1 ⟨rfl, hb⟩
  have HBL1 := tbB HBL0 hb
  have hx1 := (hb.block _ lx0).trans hx0
  have lx1 := lt_row hx1
  obtain ⟨cx1, fx1⟩ := row_facts hx1
  have HV1 := lh (HV0.out.below hb)
  clear hb hx0 cx0 fx0
  go_wp2
  go_ret
  exact ⟨rfl, HBL1.out⟩
 ·skip
  try (have h1' : (k == 0) = false := by simp; omega)
  go_enter Tryz.func56, Tryz.ntmps56
  go_wp2_with fail
  rw [← HW0.out]
  refine (HR.out w0 HV0.out).mono ?_
  rintro e w1 ⟨rfl, hb⟩
  have HBL1 := tbB HBL0 hb
  have hx1 := (hb.block _ lx0).trans hx0
  have lx1 := lt_row hx1
  obtain ⟨cx1, fx1⟩ := row_facts hx1
  have HV1 := lh (HV0.out.below hb)
  clear hb hx0 cx0 fx0
  go_wp2
  go_ret
  exact ⟨rfl, HBL1.out⟩
 ·skip
  try (have h1' : (k == 0) = false := by simp; omega)
  go_enter Tryz.func56, Tryz.ntmps56
  go_wp2_with fail
  rw [← HW0.out]
  refine (HR.out w0 HV0.out).mono ?_
  rintro e w1 ⟨rfl, hb⟩
  have HBL1 := tbB HBL0 hb
  have hx1 := (hb.block _ lx0).trans hx0
  have lx1 := lt_row hx1
  obtain ⟨cx1, fx1⟩ := row_facts hx1
  have HV1 := lh (HV0.out.below hb)
  clear hb hx0 cx0 fx0
  go_wp2
  go_ret
  exact ⟨rfl, HBL1.out⟩
 ·skip
  try (have h1' : (k == 0) = false := by simp; omega)
  go_enter Tryz.func56, Tryz.ntmps56
  go_wp2_with fail
  rw [← HW0.out]
  refine (HR.out w0 HV0.out).mono ?_
  rintro e w1 ⟨rfl, hb⟩
  have HBL1 := tbB HBL0 hb
  have hx1 := (hb.block _ lx0).trans hx0
  have lx1 := lt_row hx1
  obtain ⟨cx1, fx1⟩ := row_facts hx1
  have HV1 := lh (HV0.out.below hb)
  clear hb hx0 cx0 fx0
  go_wp2_with fail
  refine (HI1.out w1 _).mono ?_
  rintro e0 wz ⟨rfl, rfl⟩
  go_wp2
  go_ret
  exact ⟨rfl, (HBL1.out.alloc (by omega) _)⟩
 ·skip
  try (have h1' : (k == 0) = false := by simp; omega)
  go_enter Tryz.func56, Tryz.ntmps56
  go_wp2_with fail
  rw [← HW0.out]
  refine (HR.out w0 HV0.out).mono ?_
  rintro e w1 ⟨rfl, hb⟩
  have HBL1 := tbB HBL0 hb
  have hx1 := (hb.block _ lx0).trans hx0
  have lx1 := lt_row hx1
  obtain ⟨cx1, fx1⟩ := row_facts hx1
  have HV1 := lh (HV0.out.below hb)
  clear hb hx0 cx0 fx0
  go_wp2_with fail
  refine (HI1.out w1 _).mono ?_
  rintro e0 wz ⟨rfl, rfl⟩
  go_wp2_with fail
  refine (HI2.out (w1.alloc (.cells #[.int .i64 ep, .int .i64 ix] 3)) _ (w1.heap.size + 1) (by simp)).mono ?_
  rintro e1 wz ⟨rfl, rfl⟩
  go_wp2
  go_ret
  exact ⟨rfl, ((HBL1.out.alloc (by omega) _).alloc (by simp; omega) _)⟩
 ·skip
  try (have h1' : (k == 0) = false := by simp; omega)
  go_enter Tryz.func56, Tryz.ntmps56
  go_wp2_with fail
  rw [← HW0.out]
  refine (HR.out w0 HV0.out).mono ?_
  rintro e w1 ⟨rfl, hb⟩
  have HBL1 := tbB HBL0 hb
  have hx1 := (hb.block _ lx0).trans hx0
  have lx1 := lt_row hx1
  obtain ⟨cx1, fx1⟩ := row_facts hx1
  have HV1 := lh (HV0.out.below hb)
  clear hb hx0 cx0 fx0
  go_wp2_with fail
  refine (HI1.out w1 _).mono ?_
  rintro e0 wz ⟨rfl, rfl⟩
  go_wp2_with fail
  refine (HI2.out (w1.alloc (.cells #[.int .i64 ep, .int .i64 ix] 3)) _ (w1.heap.size + 1) (by simp)).mono ?_
  rintro e1 wz ⟨rfl, rfl⟩
  go_wp2
  go_ret
  exact ⟨rfl, ((HBL1.out.alloc (by omega) _).alloc (by simp; omega) _)⟩
theorem d_Parse_bad (w : World) (s : ByteArray) (hs : s.size ≤ 140737488351232) (hv : VarsD w) {l : List (List UInt8)} {y : Int} (ha : all (bl s) = (l, y)) (hbad : y ≠ 0 ∨ (y = 0 ∧ l.length ≠ 2)) :
 Calls Tryz.prog 54 #[.string s] w (RB (dlV (parseD (bl s))) w) := by
 have hA := fun w => OctA.All_ok w s (by unfold maxLen; omega)
 unfold AllPost at hA
 rw [ha] at hA
 have HALL := lh hA
 clear hA
 rw [parseD_bad ha (by omega)]
 show Calls _ _ _ w (RB (.tuple #[.agg dlZ, .int .i64 6]) w)
 obtain ⟨Z, hZ⟩ := nXe (dlZ)
 have HLIT : Hid ((#[.int .u8 0, .string ⟨#[]⟩, .int .i64 0, .int .i64 0, .int .i64 0, .int .i64 0, .string ⟨#[]⟩] : Array Value) = Z) := lh (by rw [hZ]; kernel_rfl)
 have HZN : Hid (Z.size = 7) := lh (by rw [hZ]; kernel_rfl)
 have HZS : Hid ((Tryz.prog.info? 56).map (·.size) = some Z.size) := lh (by rw [hZ]; kernel_rfl)
 have HZO : Hid (Z.all (·.oneCell') = true) := lh (by rw [hZ]; exact by simp [dlZ, pfZ, msZ, dlA, pfA, msA, byV, zero32, Value.oneCell'])
 rw [← hZ]
 obtain ⟨w0, hw0⟩ := nXe (w.alloc (.cells Z 56))
 have hb0 : Below w.heap.size w w0 := by rw [hw0]; exact bAx
 have HX0 : Hid (w0.heap[w.heap.size]? = some (.cells Z 56 (0, 0))) := lh (by rw [hw0]; exact heap_new _ _)
 have lX0 := lt_row HX0.out
 have HBL0 := lh hb0
 have HW0 := lh hw0
 have HV0 := lh (hv.below hb0)
 clear hv
 clear hw0 hb0 hZ
 have hcase : (y != 0) = true ∨ (y = 0 ∧ ((l.length : Int) != 2) = true) := by
  rcases hbad with h | ⟨h0, h⟩
  ·exact .inl (by simpa using h)
  ·exact .inr ⟨h0, by simp; omega⟩
 clear hbad ha
 rcases hcase with hy | ⟨rfl, hy⟩
 all_goals
  go_enter Tryz.func54, Tryz.ntmps54
  go_wp2_with fail
  rw [HLIT.out, ← HW0.out]
  refine (HALL.out w0).mono ?_
  rintro e w1 ⟨v, rfl, hl, hb⟩
  obtain ⟨av, cap, rfl, _, _⟩ := (Sl.ofOwn hl).form
  clear hl
  have HX1 := lh ((hb.block _ lX0).trans HX0.out)
  have lX1 := lt_row HX1.out
  have HBL1 := tbB HBL0 hb
  have HV1 := lh (HV0.out.below hb)
  clear hb 
  clear lX0
  go_wp2_with (first | (refine wpList_store_rowA rfl _ _ _ rfl w.heap.size Z rfl (by rw [← HLIT.out]; rfl) _ _ HX1.out HZS.out rfl HZO.out ?_) | fail)
  intro wf hwf
  go_wp2
  refine bodyPost_ret (v := .tuple #[.agg Z, .int .i64 6]) (results_cell_slot rfl _ _ w.heap.size 56 Z (0, 0) _ rfl (by rw [hwf.out]; exact setRow_at HX1.out) Tryz.underlying56 rfl HZS.out rfl) rfl ⟨rfl, by rw [hwf.out]; exact below_row HBL1.out (Nat.le_refl _) _⟩
theorem d_Parse_bad2 (w : World) (s : ByteArray) (hs : s.size ≤ 140737488351232) (hv : VarsD w) {t g : List UInt8} (ha : all (bl s) = ([t, g], 0)) {l : List (List UInt8)} {y : Int} (ha2 : all t = (l, y)) (hbad : y ≠ 0 ∨ (y = 0 ∧ l.length ≠ 6)) :
 Calls Tryz.prog 54 #[.string s] w (RB (dlV (parseD (bl s))) w) := by
 have hA := fun w => OctA.All_ok w s (by unfold maxLen; omega)
 unfold AllPost at hA
 rw [ha] at hA
 have HALL := lh hA
 clear hA
 obtain ⟨T, hT⟩ := nXe (bsOf t)
 have bT : bl T = t := by rw [hT, bl_bsOf]
 have zT : T.size ≤ 8192 := by rw [hT]; exact parts_len ha _ (by simp)
 have HT := lh hT
 obtain ⟨G, hG⟩ := nXe (bsOf g)
 have bG : bl G = g := by rw [hG, bl_bsOf]
 have zG : G.size ≤ 8192 := by rw [hG]; exact parts_len ha _ (by simp)
 have HG := lh hG
 have hA2 := fun w => OctA.All_ok w T (by unfold maxLen; omega)
 unfold AllPost at hA2
 rw [bT, ha2] at hA2
 have HALL2 := lh hA2
 clear hA2
 rw [parseD_two ha, readD_bad ha2 (by omega)]
 show Calls _ _ _ w (RB (.tuple #[.agg dlZ, .int .i64 6]) w)
 obtain ⟨Z, hZ⟩ := nXe (dlZ)
 have HLIT : Hid ((#[.int .u8 0, .string ⟨#[]⟩, .int .i64 0, .int .i64 0, .int .i64 0, .int .i64 0, .string ⟨#[]⟩] : Array Value) = Z) := lh (by rw [hZ]; kernel_rfl)
 have HZN : Hid (Z.size = 7) := lh (by rw [hZ]; kernel_rfl)
 have HZS : Hid ((Tryz.prog.info? 56).map (·.size) = some Z.size) := lh (by rw [hZ]; kernel_rfl)
 have HZO : Hid (Z.all (·.oneCell') = true) := lh (by rw [hZ]; exact by simp [dlZ, pfZ, msZ, dlA, pfA, msA, byV, zero32, Value.oneCell'])
 rw [← hZ]
 obtain ⟨w0, hw0⟩ := nXe (w.alloc (.cells Z 56))
 have hb0 : Below w.heap.size w w0 := by rw [hw0]; exact bAx
 have HX0 : Hid (w0.heap[w.heap.size]? = some (.cells Z 56 (0, 0))) := lh (by rw [hw0]; exact heap_new _ _)
 have lX0 := lt_row HX0.out
 have HBL0 := lh hb0
 have HW0 := lh hw0
 have HV0 := lh (hv.below hb0)
 clear hv
 clear hw0 hb0 hZ
 have hcase : (y != 0) = true ∨ (y = 0 ∧ ((l.length : Int) != 6) = true) := by
  rcases hbad with h | ⟨h0, h⟩
  ·exact .inl (by simpa using h)
  ·exact .inr ⟨h0, by simp; omega⟩
 clear hbad ha ha2 hT hG bT bG
 rcases hcase with hy | ⟨rfl, hy⟩
 all_goals
  go_enter Tryz.func54, Tryz.ntmps54
  go_wp2_with fail
  rw [HLIT.out, ← HW0.out]
  refine (HALL.out w0).mono ?_
  rintro e w1 ⟨v, rfl, hl, hb⟩
  obtain ⟨B, cap, rfl, hB, hc⟩ := list_n 2 hl rfl (by omega)
  clear hl
  have hc0_1 : w1.cell? ⟨B, 0, none⟩ = some (.string T) := by rw [HT.out]; exact hc 0 _ rfl
  have hc1_1 : w1.cell? ⟨B, 1, none⟩ = some (.string G) := by rw [HG.out]; exact hc 1 _ rfl
  have hBX : ¬ w.heap.size = B := by omega
  clear hc hB
  have HX1 := lh ((hb.block _ lX0).trans HX0.out)
  have lX1 := lt_row HX1.out
  have HBL1 := tbB HBL0 hb
  have HV1 := lh (HV0.out.below hb)
  clear hb 
  clear lX0
  have hc0x1 := hc0_1
  clear hc0_1
  have hc1x1 := hc1_1
  clear hc1_1
  go_wp2_with fail
  refine (HALL2.out w1).mono ?_
  rintro e w2 ⟨v, rfl, hl, hb⟩
  obtain ⟨av, cap2, rfl, _, _⟩ := (Sl.ofOwn hl).form
  clear hl
  have HX2 := lh ((hb.block _ lX1).trans HX1.out)
  have lX2 := lt_row HX2.out
  have HBL2 := tbB HBL1 hb
  have HV2 := lh (HV1.out.below hb)
  have hc0x2 := below_cell hb hc0x1
  have hc1x2 := below_cell hb hc1x1
  clear hb hc0x1 hc1x1
  clear lX1
  go_wp2_with (first | (refine wpList_store_rowA rfl _ _ _ rfl w.heap.size Z rfl (by rw [← HLIT.out]; rfl) _ _ HX2.out HZS.out rfl HZO.out ?_) | fail)
  intro wf hwf
  go_wp2
  refine bodyPost_ret (v := .tuple #[.agg Z, .int .i64 6]) (results_cell_slot rfl _ _ w.heap.size 56 Z (0, 0) _ rfl (by rw [hwf.out]; exact setRow_at HX2.out) Tryz.underlying56 rfl HZS.out rfl) rfl ⟨rfl, by rw [hwf.out]; exact below_row HBL2.out (Nat.le_refl _) _⟩
theorem checkD_sig {k : Int} {R : ByteArray} {r : List UInt8} {a b c d : Int} {G : ByteArray} (hR : bl R = r) (hG : (bl G).length ≤ 8192) : checkD (dlOf k R a b c d G) = checkD ⟨k, r, a, b, c, d, []⟩ := by
 unfold checkD dlOf
 simp [hR, hG]
theorem d_Parse_six (w : World) (s : ByteArray) (hs : s.size ≤ 140737488351232) (hv : VarsD w) {t g : List UInt8} (ha : all (bl s) = ([t, g], 0)) {k r a b h n : List UInt8} (ha2 : all t = ([k, r, a, b, h, n], 0)) (hg8 : g.length ≤ 8192) :
 Calls Tryz.prog 54 #[.string s] w (RB (dlV (parseD (bl s))) w) := by
 have hA := fun w => OctA.All_ok w s (by unfold maxLen; omega)
 unfold AllPost at hA
 rw [ha] at hA
 have HALL := lh hA
 clear hA
 obtain ⟨T, hT⟩ := nXe (bsOf t)
 have bT : bl T = t := by rw [hT, bl_bsOf]
 have zT : T.size ≤ 8192 := by rw [hT]; exact parts_len ha _ (by simp)
 have HT := lh hT
 obtain ⟨G, hG⟩ := nXe (bsOf g)
 have bG : bl G = g := by rw [hG, bl_bsOf]
 have zG : G.size ≤ 8192 := by rw [hG]; exact parts_len ha _ (by simp)
 have HG := lh hG
 have hA2 := fun w => OctA.All_ok w T (by unfold maxLen; omega)
 unfold AllPost at hA2
 rw [bT, ha2] at hA2
 have HALL2 := lh hA2
 clear hA2
 obtain ⟨K, hK⟩ := nXe (bsOf k)
 have bK : bl K = k := by rw [hK, bl_bsOf]
 have zK : K.size ≤ 8192 := by rw [hK]; exact parts_len ha2 _ (by simp)
 have HK := lh hK
 obtain ⟨R, hR⟩ := nXe (bsOf r)
 have bR : bl R = r := by rw [hR, bl_bsOf]
 have zR : R.size ≤ 8192 := by rw [hR]; exact parts_len ha2 _ (by simp)
 have HR := lh hR
 obtain ⟨A, hA⟩ := nXe (bsOf a)
 have bA : bl A = a := by rw [hA, bl_bsOf]
 have zA : A.size ≤ 8192 := by rw [hA]; exact parts_len ha2 _ (by simp)
 have HA := lh hA
 obtain ⟨D, hD⟩ := nXe (bsOf b)
 have bD : bl D = b := by rw [hD, bl_bsOf]
 have zD : D.size ≤ 8192 := by rw [hD]; exact parts_len ha2 _ (by simp)
 have HD := lh hD
 obtain ⟨U, hU⟩ := nXe (bsOf h)
 have bU : bl U = h := by rw [hU, bl_bsOf]
 have zU : U.size ≤ 8192 := by rw [hU]; exact parts_len ha2 _ (by simp)
 have HU := lh hU
 obtain ⟨N, hN⟩ := nXe (bsOf n)
 have bN : bl N = n := by rw [hN, bl_bsOf]
 have zN : N.size ≤ 8192 := by rw [hN]; exact parts_len ha2 _ (by simp)
 have HN := lh hN
 have HK0 : Hid (∀ w, VarsD w → Calls Tryz.prog 90 #[.string K] w fun e w' => e = .returned (.int .u8 (kindD k)) ∧ w = w') := lh (by rw [← bK]; exact fun w hv => DlV.d_kind_ok w K hv)
 have hkk := kindD_le k
 obtain ⟨kk, hkq⟩ := nXe (kindD k)
 rw [← hkq] at HK0 hkk
 obtain ⟨n1, hn1⟩ := nXe (numI 4096 a)
 have Hn1 : Hid (∀ w, Calls Tryz.prog 91 #[.string A] w fun e w' => e = .returned (.int .i64 n1) ∧ w = w') := lh (by rw [hn1, ← bA]; exact fun w => d_number w A (by unfold maxLen; omega))
 obtain ⟨n2, hn2⟩ := nXe (numI 4096 b)
 have Hn2 : Hid (∀ w, Calls Tryz.prog 91 #[.string D] w fun e w' => e = .returned (.int .i64 n2) ∧ w = w') := lh (by rw [hn2, ← bD]; exact fun w => d_number w D (by unfold maxLen; omega))
 obtain ⟨n3, hn3⟩ := nXe (numI 4096 h)
 have Hn3 : Hid (∀ w, Calls Tryz.prog 91 #[.string U] w fun e w' => e = .returned (.int .i64 n3) ∧ w = w') := lh (by rw [hn3, ← bU]; exact fun w => d_number w U (by unfold maxLen; omega))
 obtain ⟨n4, hn4⟩ := nXe (numI 4096 n)
 have Hn4 : Hid (∀ w, Calls Tryz.prog 91 #[.string N] w fun e w' => e = .returned (.int .i64 n4) ∧ w = w') := lh (by rw [hn4, ← bN]; exact fun w => d_number w N (by unfold maxLen; omega))
 rw [parseD_two ha, readD_six ha2, ← hkq, ← hn1, ← hn2, ← hn3, ← hn4]
 obtain ⟨F, cz, cf, hF⟩ : ∃ (F : Array Value) (cz cf : Int), (if checkD ⟨kk, r, n1, n2, n3, n4, []⟩ = true then cz = 0 ∧ cf = 0 ∧ F = dlA kk R n1 n2 n3 n4 G else cz = 2 ∧ cf = 6 ∧ F = dlZ) := by
  split
  ·exact ⟨_, 0, 0, rfl, rfl, rfl⟩
  ·exact ⟨_, 2, 6, rfl, rfl, rfl⟩
 have hC0 : ∀ E1, E1 = dlA kk R n1 n2 n3 n4 G → ∀ w, VarsI w → Calls Tryz.prog 56 #[.agg E1] w (RB (.int .i64 cz) w) := by
  intro E1 hE1 w hv
  have := d_Check w E1 kk R n1 n2 n3 n4 G hE1 hv (by omega) (by omega) (by unfold maxLen; omega)
  rw [show checkD (dlOf kk R n1 n2 n3 n4 G) = checkD ⟨kk, r, n1, n2, n3, n4, []⟩ from checkD_sig bR (by rw [bG]; exact hg8)] at this
  by_cases hc : checkD ⟨kk, r, n1, n2, n3, n4, []⟩ = true
  ·rw [if_pos hc] at hF
   rw [hF.1]
   rw [hc] at this
   exact this
  ·rw [if_neg hc] at hF
   rw [hF.1]
   rw [Bool.not_eq_true] at hc
   rw [hc] at this
   exact this
 rw [show dlV ((if checkD ⟨kk, r, n1, n2, n3, n4, []⟩ = true then some ⟨kk, r, n1, n2, n3, n4, []⟩ else none : Option Dl).map fun e => withSigD e g) = .tuple #[.agg F, .int .i64 cf] from by
  split at hF
  ·rename_i hc
   rw [if_pos hc, hF.2.1, hF.2.2, hR, hG]
   rfl
  ·rename_i hc
   rw [if_neg hc, hF.2.1, hF.2.2]
   rfl]
 have hW : (cz = 0 ∧ cf = 0 ∧ F = dlA kk R n1 n2 n3 n4 G) ∨ ((cz != 0) = true ∧ cf = 6 ∧ F = dlZ) := by
  split at hF
  ·exact .inl hF
  ·exact .inr ⟨by rw [hF.1]; rfl, hF.2⟩
 clear hF
 obtain ⟨Z', hZ'⟩ : ∃ Z, Z = dlZ := ⟨_, rfl⟩
 rw [← hZ'] at hW
 obtain ⟨Z, hZ⟩ := nXe (dlZ)
 have HLIT : Hid ((#[.int .u8 0, .string ⟨#[]⟩, .int .i64 0, .int .i64 0, .int .i64 0, .int .i64 0, .string ⟨#[]⟩] : Array Value) = Z) := lh (by rw [hZ]; kernel_rfl)
 have HZN : Hid (Z.size = 7) := lh (by rw [hZ]; kernel_rfl)
 have HZS : Hid ((Tryz.prog.info? 56).map (·.size) = some Z.size) := lh (by rw [hZ]; kernel_rfl)
 have HZO : Hid (Z.all (·.oneCell') = true) := lh (by rw [hZ]; exact by simp [dlZ, pfZ, msZ, dlA, pfA, msA, byV, zero32, Value.oneCell'])
 try rw [← hZ]
 obtain ⟨w0, hw0⟩ := nXe (w.alloc (.cells Z 56))
 have hb0 : Below w.heap.size w w0 := by rw [hw0]; exact bAx
 have HX0 : Hid (w0.heap[w.heap.size]? = some (.cells Z 56 (0, 0))) := lh (by rw [hw0]; exact heap_new _ _)
 have lX0 := lt_row HX0.out
 have HBL0 := lh hb0
 have HW0 := lh hw0
 have HV0 := lh (hv.below hb0)
 clear hv
 have hZZ : Z = Z' := by rw [hZ, hZ']
 subst hZZ
 clear hw0 hb0 hZ hZ'
 obtain ⟨E1, hE1⟩ := nXe (dlA kk R n1 n2 n3 n4 G)
 have hE1n : E1.size = 7 := by rw [hE1]; rfl
 have HE1S : Hid ((Tryz.prog.info? 56).map (·.size) = some E1.size) := lh (by rw [hE1n, ← HZN.out]; exact HZS.out)
 have HE1Z : Hid (Z.size = E1.size) := lh (by rw [hE1n, HZN.out])
 have HE1N : Hid (7 = E1.size) := lh hE1n.symm
 have HE1O : Hid (E1.all (·.oneCell') = true) := lh (by rw [hE1]; simp [dlA, Value.oneCell'])
 have HE1 := lh hE1
 clear hE1n
 have HC := lh (hC0 E1 hE1)
 rw [← hE1] at hW
 have HW' := lh hW
 clear hC0 hW hkk hkq hn1 hn2 hn3 hn4 ha ha2 hT hG bT bG hE1 hg8 hK bK hR bR hA bA hD bD hU bU hN bN
 go_enter Tryz.func54, Tryz.ntmps54
 go_wp2_with fail
 rw [HLIT.out, ← HW0.out]
 refine (HALL.out w0).mono ?_
 rintro e w1 ⟨v, rfl, hl, hb⟩
 obtain ⟨B, cap, rfl, hB, hc⟩ := list_n 2 hl rfl (by omega)
 clear hl
 have hc0_1 : w1.cell? ⟨B, 0, none⟩ = some (.string T) := by rw [HT.out]; exact hc 0 _ rfl
 have hc1_1 : w1.cell? ⟨B, 1, none⟩ = some (.string G) := by rw [HG.out]; exact hc 1 _ rfl
 have hBX : ¬ w.heap.size = B := by omega
 clear hc hB
 have HX1 := lh ((hb.block _ lX0).trans HX0.out)
 have lX1 := lt_row HX1.out
 have HBL1 := tbB HBL0 hb
 have HV1 := lh (HV0.out.below hb)
 clear hb 
 clear lX0
 have hc0x1 := hc0_1
 clear hc0_1
 have hc1x1 := hc1_1
 clear hc1_1
 go_wp2_with fail
 refine (HALL2.out w1).mono ?_
 rintro e w2 ⟨v, rfl, hl, hb⟩
 obtain ⟨B2, cap2, rfl, hB2, hc⟩ := list_n 6 hl rfl (by omega)
 clear hl
 have hd0_1 : w2.cell? ⟨B2, 0, none⟩ = some (.string K) := by rw [HK.out]; exact hc 0 _ rfl
 have hd1_1 : w2.cell? ⟨B2, 1, none⟩ = some (.string R) := by rw [HR.out]; exact hc 1 _ rfl
 have hd2_1 : w2.cell? ⟨B2, 2, none⟩ = some (.string A) := by rw [HA.out]; exact hc 2 _ rfl
 have hd3_1 : w2.cell? ⟨B2, 3, none⟩ = some (.string D) := by rw [HD.out]; exact hc 3 _ rfl
 have hd4_1 : w2.cell? ⟨B2, 4, none⟩ = some (.string U) := by rw [HU.out]; exact hc 4 _ rfl
 have hd5_1 : w2.cell? ⟨B2, 5, none⟩ = some (.string N) := by rw [HN.out]; exact hc 5 _ rfl
 clear hc hB2
 have HX2 := lh ((hb.block _ lX1).trans HX1.out)
 have lX2 := lt_row HX2.out
 have HBL2 := tbB HBL1 hb
 have HV2 := lh (HV1.out.below hb)
 have hc0x2 := below_cell hb hc0x1
 have hc1x2 := below_cell hb hc1x1
 clear hb hc0x1 hc1x1
 clear lX1
 have hd0x2 := hd0_1
 clear hd0_1
 have hd1x2 := hd1_1
 clear hd1_1
 have hd2x2 := hd2_1
 clear hd2_1
 have hd3x2 := hd3_1
 clear hd3_1
 have hd4x2 := hd4_1
 clear hd4_1
 have hd5x2 := hd5_1
 clear hd5_1
 go_wp2_with fail
 refine wp_region_noPanic ?_
 refine Wr.region_K (S := (fun W => VarsD W ∧ W.cell? ⟨B2, 0, none⟩ = some (.string K) ∧ W.cell? ⟨B2, 1, none⟩ = some (.string R) ∧ W.cell? ⟨B2, 2, none⟩ = some (.string A) ∧ W.cell? ⟨B2, 3, none⟩ = some (.string D) ∧ W.cell? ⟨B2, 4, none⟩ = some (.string U) ∧ W.cell? ⟨B2, 5, none⟩ = some (.string N) ∧ W.cell? ⟨B, 1, none⟩ = some (.string G))) (K := []) (by kernel_rfl) ?_
 change Wr.wpAnyK _ _ _ _ _ _ _ _ _ (World.drew w2)
 have hBL0 : Below w2.heap.size w2 (World.drew w2) := Bl.drew (Below.refl _ _)
 have hS0 : VarsD (World.drew w2) ∧ (World.drew w2).cell? ⟨B2, 0, none⟩ = some (.string K) ∧ (World.drew w2).cell? ⟨B2, 1, none⟩ = some (.string R) ∧ (World.drew w2).cell? ⟨B2, 2, none⟩ = some (.string A) ∧ (World.drew w2).cell? ⟨B2, 3, none⟩ = some (.string D) ∧ (World.drew w2).cell? ⟨B2, 4, none⟩ = some (.string U) ∧ (World.drew w2).cell? ⟨B2, 5, none⟩ = some (.string N) ∧ (World.drew w2).cell? ⟨B, 1, none⟩ = some (.string G) := ⟨HV2.out.below hBL0, below_cell hBL0 hd0x2, below_cell hBL0 hd1x2, below_cell hBL0 hd2x2, below_cell hBL0 hd3x2, below_cell hBL0 hd4x2, below_cell hBL0 hd5x2, below_cell hBL0 hc1x2⟩
 refine Wr.tkK (i := 0) (v := ?_) rfl (.inl ⟨by rfl, ?_⟩) hS0 ?_
 rotate_left
 ·intro wq hSw
  obtain ⟨q0, q1, q2, q3, q4, q5, q6, q7⟩ := hSw
  go_simp
  rfl
 simp only [Act.put, sxx]
 refine Wr.tkK (i := 1) (v := ?_) rfl (.inl ⟨by rfl, ?_⟩) hS0 ?_
 rotate_left
 ·intro wq hSw
  obtain ⟨q0, q1, q2, q3, q4, q5, q6, q7⟩ := hSw
  go_simp
  rfl
 simp only [Act.put, sxx]
 refine Wr.tkK (i := 2) (v := ?_) rfl (.inl ⟨by rfl, ?_⟩) hS0 ?_
 rotate_left
 ·intro wq hSw
  obtain ⟨q0, q1, q2, q3, q4, q5, q6, q7⟩ := hSw
  go_simp
  rfl
 simp only [Act.put, sxx]
 refine WrC.wpAnyK_takeC (i := 3) (.tmp 38) (.string K) (v := .int .u8 kk) rfl (by kernel_rfl) (fun _ _ _ h => h) (by simp [undef]) (by rfl) (by rfl) ?_ hS0 ?_
 ·intro a' wq hx' hSw
  refine ⟨_, _, ?_, HK0.out wq hSw.1⟩
  go_simp
  first | done | rfl | exact ⟨⟨rfl, rfl⟩, rfl⟩ | exact ⟨rfl, rfl⟩ | exact hx' | (simp [go_sem] at hx'; exact hx')
 simp only [Act.put, sxx]
 refine Wr.tkK (i := 4) (v := ?_) rfl (.inl ⟨by rfl, ?_⟩) hS0 ?_
 rotate_left
 ·intro wq hSw
  obtain ⟨q0, q1, q2, q3, q4, q5, q6, q7⟩ := hSw
  go_simp
  rfl
 simp only [Act.put, sxx]
 refine Wr.tkK (i := 5) (v := ?_) rfl (.inl ⟨by rfl, ?_⟩) hS0 ?_
 rotate_left
 ·intro wq hSw
  obtain ⟨q0, q1, q2, q3, q4, q5, q6, q7⟩ := hSw
  go_simp
  rfl
 simp only [Act.put, sxx]
 refine Wr.tkK (i := 6) (v := ?_) rfl (.inl ⟨by rfl, ?_⟩) hS0 ?_
 rotate_left
 ·intro wq hSw
  obtain ⟨q0, q1, q2, q3, q4, q5, q6, q7⟩ := hSw
  go_simp
  rfl
 simp only [Act.put, sxx]
 refine Wr.tkK (i := 7) (v := ?_) rfl (.inl ⟨by rfl, ?_⟩) hS0 ?_
 rotate_left
 ·intro wq hSw
  obtain ⟨q0, q1, q2, q3, q4, q5, q6, q7⟩ := hSw
  go_simp
  rfl
 simp only [Act.put, sxx]
 refine Wr.tkK (i := 8) (v := ?_) rfl (.inl ⟨by rfl, ?_⟩) hS0 ?_
 rotate_left
 ·intro wq hSw
  obtain ⟨q0, q1, q2, q3, q4, q5, q6, q7⟩ := hSw
  go_simp
  rfl
 simp only [Act.put, sxx]
 refine Wr.tkK (i := 9) (v := ?_) rfl (.inl ⟨by rfl, ?_⟩) hS0 ?_
 rotate_left
 ·intro wq hSw
  obtain ⟨q0, q1, q2, q3, q4, q5, q6, q7⟩ := hSw
  go_simp
  rfl
 simp only [Act.put, sxx]
 refine WrC.wpAnyK_takeC (i := 10) (.tmp 45) (.string A) (v := .int .i64 n1) rfl (by kernel_rfl) (fun _ _ _ h => h) (by simp [undef]) (by rfl) (by rfl) ?_ hS0 ?_
 ·intro a' wq hx' hSw
  refine ⟨_, _, ?_, Hn1.out wq⟩
  go_simp
  first | done | rfl | exact ⟨⟨rfl, rfl⟩, rfl⟩ | exact ⟨rfl, rfl⟩ | exact hx' | (simp [go_sem] at hx'; exact hx')
 simp only [Act.put, sxx]
 refine Wr.tkK (i := 11) (v := ?_) rfl (.inl ⟨by rfl, ?_⟩) hS0 ?_
 rotate_left
 ·intro wq hSw
  obtain ⟨q0, q1, q2, q3, q4, q5, q6, q7⟩ := hSw
  go_simp
  rfl
 simp only [Act.put, sxx]
 refine Wr.tkK (i := 12) (v := ?_) rfl (.inl ⟨by rfl, ?_⟩) hS0 ?_
 rotate_left
 ·intro wq hSw
  obtain ⟨q0, q1, q2, q3, q4, q5, q6, q7⟩ := hSw
  go_simp
  rfl
 simp only [Act.put, sxx]
 refine Wr.tkK (i := 13) (v := ?_) rfl (.inl ⟨by rfl, ?_⟩) hS0 ?_
 rotate_left
 ·intro wq hSw
  obtain ⟨q0, q1, q2, q3, q4, q5, q6, q7⟩ := hSw
  go_simp
  rfl
 simp only [Act.put, sxx]
 refine WrC.wpAnyK_takeC (i := 14) (.tmp 49) (.string D) (v := .int .i64 n2) rfl (by kernel_rfl) (fun _ _ _ h => h) (by simp [undef]) (by rfl) (by rfl) ?_ hS0 ?_
 ·intro a' wq hx' hSw
  refine ⟨_, _, ?_, Hn2.out wq⟩
  go_simp
  first | done | rfl | exact ⟨⟨rfl, rfl⟩, rfl⟩ | exact ⟨rfl, rfl⟩ | exact hx' | (simp [go_sem] at hx'; exact hx')
 simp only [Act.put, sxx]
 refine Wr.tkK (i := 15) (v := ?_) rfl (.inl ⟨by rfl, ?_⟩) hS0 ?_
 rotate_left
 ·intro wq hSw
  obtain ⟨q0, q1, q2, q3, q4, q5, q6, q7⟩ := hSw
  go_simp
  rfl
 simp only [Act.put, sxx]
 refine Wr.tkK (i := 16) (v := ?_) rfl (.inl ⟨by rfl, ?_⟩) hS0 ?_
 rotate_left
 ·intro wq hSw
  obtain ⟨q0, q1, q2, q3, q4, q5, q6, q7⟩ := hSw
  go_simp
  rfl
 simp only [Act.put, sxx]
 refine Wr.tkK (i := 17) (v := ?_) rfl (.inl ⟨by rfl, ?_⟩) hS0 ?_
 rotate_left
 ·intro wq hSw
  obtain ⟨q0, q1, q2, q3, q4, q5, q6, q7⟩ := hSw
  go_simp
  rfl
 simp only [Act.put, sxx]
 refine WrC.wpAnyK_takeC (i := 18) (.tmp 53) (.string U) (v := .int .i64 n3) rfl (by kernel_rfl) (fun _ _ _ h => h) (by simp [undef]) (by rfl) (by rfl) ?_ hS0 ?_
 ·intro a' wq hx' hSw
  refine ⟨_, _, ?_, Hn3.out wq⟩
  go_simp
  first | done | rfl | exact ⟨⟨rfl, rfl⟩, rfl⟩ | exact ⟨rfl, rfl⟩ | exact hx' | (simp [go_sem] at hx'; exact hx')
 simp only [Act.put, sxx]
 refine Wr.tkK (i := 19) (v := ?_) rfl (.inl ⟨by rfl, ?_⟩) hS0 ?_
 rotate_left
 ·intro wq hSw
  obtain ⟨q0, q1, q2, q3, q4, q5, q6, q7⟩ := hSw
  go_simp
  rfl
 simp only [Act.put, sxx]
 refine Wr.tkK (i := 20) (v := ?_) rfl (.inl ⟨by rfl, ?_⟩) hS0 ?_
 rotate_left
 ·intro wq hSw
  obtain ⟨q0, q1, q2, q3, q4, q5, q6, q7⟩ := hSw
  go_simp
  rfl
 simp only [Act.put, sxx]
 refine Wr.tkK (i := 21) (v := ?_) rfl (.inl ⟨by rfl, ?_⟩) hS0 ?_
 rotate_left
 ·intro wq hSw
  obtain ⟨q0, q1, q2, q3, q4, q5, q6, q7⟩ := hSw
  go_simp
  rfl
 simp only [Act.put, sxx]
 refine WrC.wpAnyK_takeC (i := 22) (.tmp 57) (.string N) (v := .int .i64 n4) rfl (by kernel_rfl) (fun _ _ _ h => h) (by simp [undef]) (by rfl) (by rfl) ?_ hS0 ?_
 ·intro a' wq hx' hSw
  refine ⟨_, _, ?_, Hn4.out wq⟩
  go_simp
  first | done | rfl | exact ⟨⟨rfl, rfl⟩, rfl⟩ | exact ⟨rfl, rfl⟩ | exact hx' | (simp [go_sem] at hx'; exact hx')
 simp only [Act.put, sxx]
 refine Wr.tkK (i := 23) (v := ?_) rfl (.inl ⟨by rfl, ?_⟩) hS0 ?_
 rotate_left
 ·intro wq hSw
  obtain ⟨q0, q1, q2, q3, q4, q5, q6, q7⟩ := hSw
  go_simp
  rfl
 simp only [Act.put, sxx]
 refine Wr.tkK (i := 24) (v := ?_) rfl (.inl ⟨by rfl, ?_⟩) hS0 ?_
 rotate_left
 ·intro wq hSw
  obtain ⟨q0, q1, q2, q3, q4, q5, q6, q7⟩ := hSw
  go_simp
  rfl
 simp only [Act.put, sxx]
 refine Wr.tkK (i := 25) (v := ?_) rfl (.inl ⟨by rfl, ?_⟩) hS0 ?_
 rotate_left
 ·intro wq hSw
  obtain ⟨q0, q1, q2, q3, q4, q5, q6, q7⟩ := hSw
  go_simp
  rfl
 simp only [Act.put, sxx]
 refine Wr.wpAnyK_take (i := 26) (v := .agg E1) rfl (by kernel_rfl) (fun _ _ _ h => h) (WrC.yields_build _ _ rfl (by rfl) E1 (by rw [HE1.out]; kernel_rfl)) hS0 ?_
 simp only [Act.put, sxx]
 refine Wr.wpAnyK_one (i := 27) (by kernel_rfl) ?_
 refine wpOp_run rfl (by rfl) (w' := (World.drew w2).alloc (.cells #[.int .u8 0, .string ⟨#[]⟩, .int .i64 0, .int .i64 0, .int .i64 0, .int .i64 0, .string ⟨#[]⟩] 56)) (v := .pointer (some ⟨w2.heap.size, 0, none⟩)) (by go_simp; first | done | rfl) ?_
 obtain ⟨u1, hw_u1⟩ := nXe ((World.drew w2).alloc (.cells #[.int .u8 0, .string ⟨#[]⟩, .int .i64 0, .int .i64 0, .int .i64 0, .int .i64 0, .string ⟨#[]⟩] 56))
 rw [← hw_u1]
 have hb_u1 : Below (World.drew w2).heap.size (World.drew w2) u1 := by rw [hw_u1]; exact bAx
 have hn_u1 : u1.heap[(World.drew w2).heap.size]? = some (.cells #[.int .u8 0, .string ⟨#[]⟩, .int .i64 0, .int .i64 0, .int .i64 0, .int .i64 0, .string ⟨#[]⟩] 56 (0, 0)) := by rw [hw_u1]; exact heap_new' _ rfl
 have hBL1 : Below w2.heap.size w2 u1 := hBL0.trans (hb_u1.mono hBL0.size)
 have hS1 : VarsD u1 ∧ u1.cell? ⟨B2, 0, none⟩ = some (.string K) ∧ u1.cell? ⟨B2, 1, none⟩ = some (.string R) ∧ u1.cell? ⟨B2, 2, none⟩ = some (.string A) ∧ u1.cell? ⟨B2, 3, none⟩ = some (.string D) ∧ u1.cell? ⟨B2, 4, none⟩ = some (.string U) ∧ u1.cell? ⟨B2, 5, none⟩ = some (.string N) ∧ u1.cell? ⟨B, 1, none⟩ = some (.string G) := ⟨HV2.out.below hBL1, below_cell hBL1 hd0x2, below_cell hBL1 hd1x2, below_cell hBL1 hd2x2, below_cell hBL1 hd3x2, below_cell hBL1 hd4x2, below_cell hBL1 hd5x2, below_cell hBL1 hc1x2⟩
 clear hw_u1
 refine ⟨hS1, ?_⟩
 simp only [Act.put, sxx]
 refine Wr.wpAnyK_one (i := 28) (by kernel_rfl) ?_
 refine WrC.wpOp_store_row rfl (by rfl) _ _ _ rfl w2.heap.size E1 rfl rfl _ _ hn_u1 HE1S.out (by rw [← HE1N.out]; rfl) HE1O.out ?_
 intro w3 hw_w3
 have hBL2 : Below w2.heap.size w2 w3 := by rw [hw_w3.out]; exact below_row hBL1 (Nat.le_refl _) _
 have hy_w3 : w3.heap[w2.heap.size]? = some (.cells E1 56 (0, 0)) := by rw [hw_w3.out]; exact setRow_at hn_u1
 have hS2 : VarsD w3 ∧ w3.cell? ⟨B2, 0, none⟩ = some (.string K) ∧ w3.cell? ⟨B2, 1, none⟩ = some (.string R) ∧ w3.cell? ⟨B2, 2, none⟩ = some (.string A) ∧ w3.cell? ⟨B2, 3, none⟩ = some (.string D) ∧ w3.cell? ⟨B2, 4, none⟩ = some (.string U) ∧ w3.cell? ⟨B2, 5, none⟩ = some (.string N) ∧ w3.cell? ⟨B, 1, none⟩ = some (.string G) := ⟨HV2.out.below hBL2, below_cell hBL2 hd0x2, below_cell hBL2 hd1x2, below_cell hBL2 hd2x2, below_cell hBL2 hd3x2, below_cell hBL2 hd4x2, below_cell hBL2 hd5x2, below_cell hBL2 hc1x2⟩
 clear hw_w3
 refine ⟨hS2, ?_⟩
 simp only [Act.put, sxx]
 refine Wr.wpAnyK_done (by kernel_rfl) (NoPanic.normal ?_) _
 have hbn := hBL2
 have HY3 := lh hy_w3
 have lY3 := lt_row HY3.out
 clear hBL0 hS0 hBL1 hS1 hBL2 hS2 hn_u1 hb_u1 hy_w3
 have HX3 := lh ((hbn.block _ lX2).trans HX2.out)
 have lX3 := lt_row HX3.out
 have HBL3 := tbB HBL2 hbn
 have HV3 := lh (HV2.out.below hbn)
 have hc0x3 := below_cell hbn hc0x2
 have hc1x3 := below_cell hbn hc1x2
 have hd0x3 := below_cell hbn hd0x2
 have hd1x3 := below_cell hbn hd1x2
 have hd2x3 := below_cell hbn hd2x2
 have hd3x3 := below_cell hbn hd3x2
 have hd4x3 := below_cell hbn hd4x2
 have hd5x3 := below_cell hbn hd5x2
 clear hbn hc0x2 hc1x2 hd0x2 hd1x2 hd2x2 hd3x2 hd4x2 hd5x2
 clear lX2
 go_wp2_with (first | (refine wpList_load_row rfl _ _ rfl w2.heap.size rfl _ E1 (0, 0) _ HY3.out Tryz.underlying56 rfl HE1S.out ?_) | fail)
 refine (HC.out w3 HV3.out.i).mono ?_
 rintro e w4 ⟨rfl, hb⟩
 have HX4 := lh ((hb.block _ lX3).trans HX3.out)
 have lX4 := lt_row HX4.out
 have HY4 := lh ((hb.block _ lY3).trans HY3.out)
 have lY4 := lt_row HY4.out
 have HBL4 := tbB HBL3 hb
 have HV4 := lh (HV3.out.below hb)
 have hc0x4 := below_cell hb hc0x3
 have hc1x4 := below_cell hb hc1x3
 have hd0x4 := below_cell hb hd0x3
 have hd1x4 := below_cell hb hd1x3
 have hd2x4 := below_cell hb hd2x3
 have hd3x4 := below_cell hb hd3x3
 have hd4x4 := below_cell hb hd4x3
 have hd5x4 := below_cell hb hd5x3
 clear hb hc0x3 hc1x3 hd0x3 hd1x3 hd2x3 hd3x3 hd4x3 hd5x3
 clear lX3 lY3
 rcases HW'.out with ⟨hz, rfl, rfl⟩ | ⟨hz, rfl, hFZ⟩
 ·skip
  go_wp2_with (first | (refine wpList_load_row rfl _ _ rfl w2.heap.size rfl _ F (0, 0) _ HY4.out Tryz.underlying56 rfl HE1S.out ?_) | (refine wpList_store_rowA rfl _ _ _ rfl w.heap.size F rfl rfl _ _ HX4.out HE1S.out HE1Z.out HE1O.out ?_) | fail)
  intro wf hwf
  go_wp2
  refine bodyPost_ret (v := .tuple #[.agg F, .int .i64 0]) (results_cell_slot rfl _ _ w.heap.size 56 F (0, 0) _ rfl (by rw [hwf.out]; exact setRow_at HX4.out) Tryz.underlying56 rfl HE1S.out rfl) rfl ⟨rfl, by rw [hwf.out]; exact below_row HBL4.out (Nat.le_refl _) _⟩
 ·skip
  obtain rfl : Z = F := hFZ.symm
  go_wp2_with (first | (refine wpList_store_rowA rfl _ _ _ rfl w.heap.size Z rfl (by rw [← HLIT.out]; rfl) _ _ HX4.out HZS.out rfl HZO.out ?_) | fail)
  intro wf hwf
  go_wp2
  refine bodyPost_ret (v := .tuple #[.agg Z, .int .i64 6]) (results_cell_slot rfl _ _ w.heap.size 56 Z (0, 0) _ rfl (by rw [hwf.out]; exact setRow_at HX4.out) Tryz.underlying56 rfl HZS.out rfl) rfl ⟨rfl, by rw [hwf.out]; exact below_row HBL4.out (Nat.le_refl _) _⟩
theorem d_Parse (w : World) (s : ByteArray) (hs : s.size ≤ 140737488351232) (hv : VarsD w) :
 Calls Tryz.prog 54 #[.string s] w (RB (dlV (parseD (bl s))) w) := by
 obtain ⟨l, y, ha⟩ : ∃ l y, all (bl s) = (l, y) := ⟨_, _, rfl⟩
 by_cases h0 : y = 0
 ·subst h0
  by_cases h2 : l.length = 2
  ·match l, h2, ha with
   | [t, g], _, ha =>
     have hg8 : g.length ≤ 8192 := by
        have := parts_len ha g (by simp)
        rw [size_bsOf] at this
        exact this
     obtain ⟨l2, y2, ha2⟩ : ∃ l y, all t = (l, y) := ⟨_, _, rfl⟩
     by_cases h0 : y2 = 0
     ·subst h0
      by_cases h6 : l2.length = 6
      ·match l2, h6, ha2 with
       | [k, r, a, b, h, n], _, ha2 => exact d_Parse_six w s hs hv ha ha2 hg8
      ·exact d_Parse_bad2 w s hs hv ha ha2 (.inr ⟨rfl, h6⟩)
     ·exact d_Parse_bad2 w s hs hv ha ha2 (.inl h0)
  ·exact d_Parse_bad w s hs hv ha (.inr ⟨rfl, h2⟩)
 ·exact d_Parse_bad w s hs hv ha (.inl h0)
end Go.Proofs.YtkcikadgnnjjjaaGreatDoor.WireD
