/-
  WHAT IS PROVED: how bytes are read and made, and how a region that draws its order is walked. Condition: what each theorem names.
-/
import Derived.Test.YtadnldnmefhlcaaBase
import Derived.Lib.ConvBytes
import Derived.Laws.BytesString
import Derived.WalkSpells
import Derived.WalkLawsBesides
import Derived.RangeFuncNested
import Derived.RangeFuncCalls
import Derived.OrdersIn
import Derived.OrdersHeld
import Derived.OwnWalkIn
import Derived.Deep.RegionHeld3
import Derived.Laws.BitsAllLaws
import Derived.Lib.Hide
import Derived.Laws.Tables
import Derived.Laws.Rows
namespace Go.Proofs.Ytadnldnmefhlcaa
open Go Go.RowKit

/-- A slice of the call's own, in a block whose cells may be written (a block that was made of a text bears a mark behind its end). -/
def Ow (w : World) (base : Nat) (e : TypeId) (size : Nat) (v : Value) (n : Nat) (xs : List Value) : Prop :=
  xs.length = n * size ∧ ((v = .slice none 0 0 ∧ n = 0) ∨
    ∃ g cap cur fr, v = .slice (some ⟨g, 0, none⟩) n cap ∧ base ≤ g ∧ w.heap[g]? = some (.cells cur e fr) ∧ n ≤ cap ∧ cap ≤ maxLen ∧ cur.size = cap * size ∧ cur.toList.take (n * size) = xs ∧ ∀ j, j < cur.size → ¬ (fr.1 ≤ j ∧ j < fr.2))

section
variable {w : World} {base : Nat} {e : TypeId} {size : Nat} {v : Value} {n : Nat} {xs : List Value}

theorem Ow.of (h : w.ownsRow base e size v n xs) : Ow w base e size v n xs := by
  refine ⟨h.1, ?_⟩
  rcases h.2 with h0 | ⟨g, cap, cur, hv, hb, hg, hn, hm, hs, ht⟩
  · exact .inl h0
  · exact .inr ⟨g, cap, cur, (0, 0), hv, hb, hg, hn, hm, hs, ht, fun j _ h => by simp at h⟩

theorem Ow.nil (w : World) (base : Nat) (e : TypeId) (size : Nat) : Ow w base e size (.slice none 0 0) 0 [] := Ow.of (World.ownsRow_nil w base e size)

theorem Ow.sl (h : Ow w base e size v n xs) : Sl w v size n xs := by
  refine ⟨h.1, ?_⟩
  rcases h.2 with h0 | ⟨g, cap, cur, fr, rfl, hb, hg, hn, hm, hs, ht, _⟩
  · exact .inl h0
  · refine .inr ⟨_, cap, rfl, hn, hm, fun j u hu => ?_⟩
    rw [Addr.add_mid, Nat.zero_add, cell_row hg]
    rw [← ht, List.getElem?_take] at hu
    split at hu
    · simpa using hu
    · cases hu

theorem Ow.form (h : Ow w base e size v n xs) : ∃ a c, v = .slice a n c ∧ n ≤ c ∧ c ≤ maxLen := h.sl.form

theorem Ow.lt (h : Ow w base e size v n xs) : ∀ k, v.ownBlock = some k → base ≤ k ∧ k < w.heap.size := by
  intro k hk
  rcases h.2 with ⟨rfl, _⟩ | ⟨g, cap, cur, fr, rfl, hb, hg, _⟩
  · simp [Value.ownBlock] at hk
  · simp [Value.ownBlock] at hk
    subst hk
    exact ⟨hb, lt_row hg⟩

theorem Ow.ext {S : Nat → Prop} {w' : World} (h : Ow w base e size v n xs) (he : Ext S w w') (hS : ∀ k, v.ownBlock = some k → ¬ S k) : Ow w' base e size v n xs := by
  refine ⟨h.1, ?_⟩
  rcases h.2 with h0 | ⟨g, cap, cur, fr, rfl, hb, hg, r⟩
  · exact .inl h0
  · exact .inr ⟨g, cap, cur, fr, rfl, hb, by rw [he.block g (lt_row hg) (hS g rfl)]; exact hg, r⟩

theorem Ow.rebase {base' : Nat} (h : Ow w base e size v n xs) (hb : ∀ k, v.ownBlock = some k → base' ≤ k) : Ow w base' e size v n xs := by
  refine ⟨h.1, ?_⟩
  rcases h.2 with h0 | ⟨g, cap, cur, fr, rfl, _, r⟩
  · exact .inl h0
  · exact .inr ⟨g, cap, cur, fr, rfl, hb g rfl, r⟩
end

section
variable {P : Program} (w : World)

/-- append onto such a slice, of whatever source. -/
theorem run_appF (ty tx : TypeId) {t e : TypeId} {size bytes : Nat} {z : Value} (T : SliceTy P t e size bytes z) (base : Nat)
    (v : Value) (n : Nat) (xs : List Value) (hown : Ow w base e size v n xs)
    (x : Value) (m : Nat) (news : List Value) (hs : Src P size tx x m news w)
    (h63 : n + m ≤ maxLen) (hbytes : (n + m) * bytes ≤ 140737488355328) (hbase : base ≤ w.heap.size) :
    ∃ v' w', (Builtin.append_ #[t, tx] ty #[v, x]).run P w = .ok v' w' ∧ Ow w' base e size v' (n + m) (xs ++ news) ∧ w.grownBy w' v.ownBlock ∧
      (v'.ownBlock = v.ownBlock ∨ v'.ownBlock = some w.heap.size) := by
  rcases hown.2 with ⟨rfl, rfl⟩ | ⟨g, cap, cur, fr, rfl, hbg, hg, hnc, hcm, hcs, htake, hfr⟩
  · have hx : xs = [] := List.eq_nil_of_length_eq_zero (by simpa using hown.1)
    subst hx
    obtain ⟨v', w', h1, h2, h3, h4⟩ := run_app w ty tx T base _ 0 [] (World.ownsRow_nil w base e size) x m news hs h63 hbytes hbase
    exact ⟨v', w', h1, Ow.of h2, h3, h4⟩
  · obtain ⟨ht, ⟨i, hi, hz, hsize, hby⟩, hzs, hsz⟩ := T
    subst hsize
    subst hby
    have hl := hs.newsLen
    have hlen : (xs ++ news).length = (n + m) * i.size := by rw [List.length_append, hown.1, hl, Nat.add_mul]
    by_cases hroom : n + m ≤ cap
    · have hfit : n * i.size + news.length ≤ cur.size := by rw [hl, hcs, ← Nat.add_mul]; exact Nat.mul_le_mul_right _ hroom
      have hr := run_append_room_src (P := P) w t tx ty e i ht hi g 0 n cap x m news hs hroom
        (fun j hj => by rw [cell_row hg, Nat.zero_add, Array.getElem?_eq_getElem (by omega)]; rfl)
        (fun j hj => by
          have := hfr (0 + n * i.size + j) (by omega)
          simp only [World.frozen?, hg]
          simp only [Bool.and_eq_false_iff, decide_eq_false_iff_not]
          omega)
      rw [Nat.zero_add] at hr
      obtain ⟨cs', h1, h2, h3, h4, h5⟩ := heap_setCells_same news (n * i.size) w cur hg
      refine ⟨_, _, hr, ⟨hlen, .inr ⟨g, cap, cs', fr, rfl, hbg, h1, hroom, hcm, by omega, ?_, fun j hj => hfr j (by omega)⟩⟩, ?_, .inl rfl⟩
      · apply List.ext_getElem?
        intro j
        rw [List.getElem?_take]
        by_cases hj : j < (n + m) * i.size
        · rw [if_pos hj]
          rw [Nat.add_mul] at hj
          by_cases hj2 : j < n * i.size
          · rw [List.getElem?_append_left (by rw [hown.1]; exact hj2), ← htake, List.getElem?_take, if_pos hj2]
            have := h3 j hj2
            simpa using this
          · rw [List.getElem?_append_right (by rw [hown.1]; omega), hown.1]
            have := h4 (by omega) (j - n * i.size) (by omega)
            rw [show n * i.size + (j - n * i.size) = j by omega] at this
            simpa using this
        · rw [if_neg hj, List.getElem?_eq_none (by omega)]
      · have he := Ext.setMany g news (n * i.size) w
        exact ⟨he.os, he.tape, he.output, he.size, fun k hk hne => he.block k hk (fun e => hne (by rw [e]; rfl))⟩
    · have holds : ∀ j u, xs[j]? = some u → w.cell? ((⟨g, 0, none⟩ : Addr).add j) = some u := fun j u hu => by
        rcases hown.sl.2 with ⟨h0, _⟩ | ⟨a, c, ha, _, _, hc⟩
        · cases h0
        · cases ha; exact hc j u hu
      have hr := run_append_grow_src (P := P) w t tx ty e i z ht hi hz (some ⟨g, 0, none⟩) n cap xs
        (run_firstCells_some w.drew i.size n ⟨g, 0, none⟩ n cap xs hown.1 (by simpa using holds)) x m news hs (by omega) (by simp only [maxLen] at h63; omega) (growslice_fits (by omega) hbytes)
      have hge := grownCap_ge w (n + m) cap e
      have hcm' : grownCap w (n + m) cap e ≤ maxLen := grownCap_le_maxLen w (n + m) cap e h63
      refine ⟨_, _, hr, ⟨hlen, .inr ⟨w.heap.size, _, _, (0, 0), rfl, hbase, heap_alloc_new w.drew _, hge, hcm', ?_, ?_, fun j _ h => by simp at h⟩⟩, ⟨rfl, rfl, rfl, by simp, fun k hk _ => Below.heap_alloc w.drew _ k hk⟩, Or.inr rfl⟩
      · rw [Array.size_append, List.size_toArray, hlen, size_zeroCells, hzs, ← Nat.add_mul]
        congr 1
        omega
      · rw [Array.toList_append, ← hlen]
        exact List.take_left

theorem wp_appF {o : Oper} {a : Act} {K : Act → World → Prop} {Q : Exit → Act → World → Prop} (s x : Operand) (t tx : TypeId)
    (ho : o.op = .call { callee := .builtin .append, args := #[s, x], argTypes := #[t, tx] })
    {e : TypeId} {size bytes : Nat} {z : Value} (T : SliceTy P t e size bytes z) (base : Nat)
    (v : Value) (n : Nat) (xs : List Value) (hv : a.eval s = v) (hown : Ow w base e size v n xs)
    (y : Value) (m : Nat) (news : List Value) (hy : a.eval x = y) (hs : Src P size tx y m news w)
    (N : Nat) (hN : n + m = N) (zs : List Value) (hz : xs ++ news = zs)
    (h63 : N ≤ maxLen) (hbytes : N * bytes ≤ 140737488355328) (hbase : base ≤ w.heap.size)
    (h : ∀ a' c' w', Ow w' base e size (.slice a' N c') N zs → w.grownBy w' v.ownBlock → ((Value.slice a' N c').ownBlock = v.ownBlock ∨ (Value.slice a' N c').ownBlock = some w.heap.size) → K (a.put o.dst (.slice a' N c')) w') : o.wp P a w K Q := by
  subst hN
  subst hz
  obtain ⟨v', w', hr, h2, h3, h4⟩ := run_appF (P := P) w o.type tx T base v n xs hown y m news hs h63 hbytes hbase
  unfold Oper.wp execOp
  simp only [ho, resolve, invoke, builtin, Sem.run_bind, Sem.run_pure, Result.andThen_ok, List.map_toArray, List.map_cons, List.map_nil, hv, hy, hr]
  obtain ⟨a', c', rfl, _, _⟩ := h2.form
  exact h a' c' w' h2 h3 h4

theorem wpList_appF {ops : Array Oper} {rest : List Oper} {o : Oper} {a : Act} {Q : Exit → Act → World → Prop} (hgd : o.guard = none) (s x : Operand) (t tx : TypeId)
    (ho : o.op = .call { callee := .builtin .append, args := #[s, x], argTypes := #[t, tx] })
    {e : TypeId} {size bytes : Nat} {z : Value} (T : SliceTy P t e size bytes z) (base : Nat)
    (v : Value) (n : Nat) (xs : List Value) (hv : a.eval s = v) (hown : Ow w base e size v n xs)
    (y : Value) (m : Nat) (news : List Value) (hy : a.eval x = y) (hs : Src P size tx y m news w)
    (N : Nat) (hN : n + m = N) (zs : List Value) (hz : xs ++ news = zs)
    (h63 : N ≤ maxLen) (hbytes : N * bytes ≤ 140737488355328) (hbase : base ≤ w.heap.size)
    (h : ∀ a' c' w', Ow w' base e size (.slice a' N c') N zs → w.grownBy w' v.ownBlock → ((Value.slice a' N c').ownBlock = v.ownBlock ∨ (Value.slice a' N c').ownBlock = some w.heap.size) → wpList P ops Q rest (a.put o.dst (.slice a' N c')) w') : wpList P ops Q (o :: rest) a w :=
  wpList_plain hgd fun _ hK => wp_appF w s x t tx ho T base v n xs hv hown y m news hy hs N hN zs hz h63 hbytes hbase fun a' c' w' h2 h3 h4 => hK _ _ (h a' c' w' h2 h3 h4)

/-- Bytes as cells. -/
def byV (l : List UInt8) : List Value := l.map fun b => Value.int .u8 b.toNat
theorem byV_length (l : List UInt8) : (byV l).length = l.length := by simp [byV]
theorem byV_append (l r : List UInt8) : byV (l ++ r) = byV l ++ byV r := by simp [byV]
theorem byV_one (l : List UInt8) : ∀ u ∈ byV l, u.oneCell' = true := by
  intro u hu
  obtain ⟨s, _, rfl⟩ := List.mem_map.1 hu
  rfl
theorem byteCells_eq (s : ByteArray) : byteCells s = byV s.data.toList := rfl

theorem push_all : ∀ (l : List UInt8) (s : ByteArray), l.foldl (fun r b => r.push b) s = ⟨(s.data.toList ++ l).toArray⟩
  | [], s => by simp
  | b :: l, s => by
    rw [List.foldl_cons, push_all l (s.push b)]
    congr 1
    simp [ByteArray.push]

/-- '[]byte(s)'. -/
theorem ow_bytes {base : Nat} (e : TypeId) (s : ByteArray) (hs : s.size ≤ maxLen) (hb : base ≤ w.heap.size) :
    Ow (Go.Lib.bytesWorld w e s) base e 1 (.slice (some ⟨w.heap.size, 0, none⟩) s.size (grownCap w s.size 0 e)) s.size (byV s.data.toList) := by
  have hge := grownCap_ge w s.size 0 e
  have hc := grownCap_le_maxLen w s.size 0 e hs
  have hl : (byV s.data.toList).length = s.size := by rw [byV_length]; exact (Go.Lib.size_eq s).symm
  refine ⟨by omega, .inr ⟨_, _, _, _, rfl, hb, Go.Lib.bytesWorld_at_new w e s, hge, hc, ?_, ?_, fun j hj h => by omega⟩⟩
  · simp [Go.Lib.bytesCells]; omega
  · simp only [Go.Lib.bytesCells, Array.toList_append, Nat.mul_one]
    rw [List.take_left' (by simp)]
    simp [byV]
theorem below_bytes (e : TypeId) (s : ByteArray) : Below w.heap.size w (Go.Lib.bytesWorld w e s) :=
  ⟨by simp [Go.Lib.bytesWorld, World.freeze, World.alloc, World.drew, -World.alloc_eq, -World.drew_eq], by simp [Go.Lib.bytesWorld, World.freeze, World.alloc, World.drew, -World.alloc_eq, -World.drew_eq], by simp [Go.Lib.bytesWorld, World.freeze, World.alloc, World.drew, -World.alloc_eq, -World.drew_eq], by rw [Go.Lib.bytesWorld_size]; omega, fun k hk => Go.Lib.bytesWorld_at_old w e s k hk⟩

/-- 'string(b)'. -/
theorem run_text (src dst e : TypeId) (hs : P.underlying src = some (.slice e)) (he : P.underlying e = some (.int .u8)) (hd : P.underlying dst = some .string)
    (v : Value) (l : List UInt8) (hv : Sl w v 1 l.length (byV l)) : (convert src dst v).run P w = .ok (.string ⟨l.toArray⟩) w := by
  rcases hv.2 with ⟨rfl, h0⟩ | ⟨a, cap, rfl, hn, hm, hc⟩
  · have : l = [] := List.eq_nil_of_length_eq_zero h0
    subst this
    rw [run_convert_bytes_string w src dst e none 0 0 hs he hd]
    rfl
  · rw [run_convert_bytes_string w src dst e (some a) l.length cap hs he hd]
    have h1 : (loadCells a l.length).run P w = .ok ((l.map fun b => (b.toNat : Int)).map (Value.int .u8)).toArray w := by
      have := run_loadCells_list (P := P) w a (byV l) hc
      rw [byV_length] at this
      rw [this]
      simp [byV]
    rw [run_bytesToString w a l.length cap _ h1]
    congr 2
    rw [List.foldl_map]
    have h2 : (fun (r : ByteArray) (b : UInt8) => r.push (UInt8.ofNat (Int.toNat (b.toNat : Int)))) = fun r b => r.push b := by
      funext r b
      simp
    rw [h2, push_all]
    rfl
end

/-- The number of a slice's elements is that of its cells. -/
theorem Ow.bytes {w : World} {base : Nat} {e : TypeId} {v : Value} {n : Nat} {l : List UInt8} (h : Ow w base e 1 v n (byV l)) : Ow w base e 1 v l.length (byV l) := by
  have hl := h.1
  rw [byV_length, Nat.mul_one] at hl
  rw [hl]
  exact h
theorem byV_one_cell (b : UInt8) : [Value.int .u8 (b.toNat : Int)] = byV [b] := rfl
theorem or128 : ∀ a : Fin 256, (a.val ||| 128) = a.val % 128 + 128 := by decide +kernel
theorem bits_or128 (m : Nat) : bits .or .u8 ((m : Int) % 256) 128 = ((UInt8.ofNat (m % 128 + 128)).toNat : Int) := by
  have h := u8_or_nat (m % 256) 128 (by omega) (by omega)
  have e : ((m : Int) % 256) = ((m % 256 : Nat) : Int) := by omega
  rw [e]
  show bits .or .u8 ((m % 256 : Nat) : Int) ((128 : Nat) : Int) = _
  rw [h]
  have h2 := or128 ⟨m % 256, by omega⟩
  simp only at h2
  rw [h2]
  have h3 : (UInt8.ofNat (m % 128 + 128)).toNat = (m % 128 + 128) % 256 := rfl
  rw [h3]
  omega
theorem u8_small {m : Nat} (h : m < 256) : (m : Int) = ((UInt8.ofNat m).toNat : Int) := by
  have h3 : (UInt8.ofNat m).toNat = m % 256 := rfl
  rw [h3]
  omega
theorem u8_of_mod (m : Nat) : ((m : Int) % 256) = ((UInt8.ofNat m).toNat : Int) := by
  have h3 : (UInt8.ofNat m).toNat = m % 256 := rfl
  rw [h3]
  omega

/-! ### A slice that grew -/
theorem Ext.step {S S' : Nat → Prop} {a b c : World} (h : Ext S a b) (k : Ext S' b c) (hS : ∀ k, k < a.heap.size → S' k → S k) : Ext S a c :=
  ⟨k.os.trans h.os, k.tape.trans h.tape, k.output.trans h.output, Nat.le_trans h.size k.size, fun i hi hs => (k.block i (Nat.lt_of_lt_of_le hi h.size) (fun hs' => hs (hS i hi hs'))).trans (h.block i hi hs)⟩

/-- From v and the world w on, v' has grown in the world w', and owns 'cs' there. -/
structure Gr (base : Nat) (e : TypeId) (size : Nat) (w : World) (v : Value) (w' : World) (v' : Value) (n : Nat) (cs : List Value) : Prop where
  own : Ow w' base e size v' n cs
  ext : Ext (fun k => v.ownBlock = some k) w w'
  frm : v'.ownBlock = v.ownBlock ∨ ∃ k, v'.ownBlock = some k ∧ w.heap.size ≤ k

section
variable {base : Nat} {e : TypeId} {size : Nat} {w w1 w2 : World} {v v1 v2 : Value} {n n1 n2 : Nat} {cs cs1 cs2 : List Value}
theorem Gr.refl (h : Ow w base e size v n cs) : Gr base e size w v w v n cs := ⟨h, Ext.refl _ _, .inl rfl⟩
theorem Gr.sub (h : Gr base e size w v w1 v1 n1 cs1) : ∀ k, k < w.heap.size → v1.ownBlock = some k → v.ownBlock = some k := by
  intro k hk hs
  rcases h.frm with h' | ⟨j, h', hj⟩
  · rw [← h']; exact hs
  · rw [h'] at hs
    cases hs
    omega
theorem Gr.trans (h : Gr base e size w v w1 v1 n1 cs1) (k : Gr base e size w1 v1 w2 v2 n2 cs2) : Gr base e size w v w2 v2 n2 cs2 := by
  refine ⟨k.own, h.ext.step k.ext h.sub, ?_⟩
  rcases k.frm with h' | ⟨j, h', hj⟩
  · rw [h']; exact h.frm
  · exact .inr ⟨j, h', Nat.le_trans h.ext.size hj⟩
theorem Gr.still (h : Gr base e size w v w1 v1 n1 cs1) (k : Ext (fun _ => False) w1 w2) : Gr base e size w v w2 v1 n1 cs1 :=
  ⟨h.own.ext k (fun _ _ h => h), h.ext.step k (fun _ _ h => h.elim), h.frm⟩
theorem Gr.app {wx : World} (h : Gr base e size w v w1 v1 n1 cs1) (hE : Ext (fun _ => False) w1 wx) (hown : Ow w2 base e size v2 n2 cs2) (hg : wx.grownBy w2 v1.ownBlock) {K : Nat} (hat : v2.ownBlock = v1.ownBlock ∨ v2.ownBlock = some K) (hK : w1.heap.size ≤ K) : Gr base e size w v w2 v2 n2 cs2 := by
  refine h.trans ⟨hown, (hE.mono (S' := fun k => v1.ownBlock = some k) (fun _ _ h => h.elim)).grown hg (fun k h => .inl h), ?_⟩
  rcases hat with h' | h'
  · exact .inl h'
  · exact .inr ⟨_, h', hK⟩
theorem Gr.below (h : Gr base e size w v w1 v1 n1 cs1) (hv : ∀ k, v.ownBlock = some k → w.heap.size ≤ k) : Below w.heap.size w w1 :=
  h.ext.below (fun k hk hs => by have := hv k hs; omega)
theorem Gr.ofNil (h : Gr base e size w (.slice none 0 0) w1 v1 n1 cs1) : Below w.heap.size w w1 :=
  h.below (fun k hk => by simp [Value.ownBlock] at hk)
end

/-! ### Texts as lists of bytes -/
def bsOf (l : List UInt8) : ByteArray := ⟨l.toArray⟩
def bl (s : ByteArray) : List UInt8 := s.data.toList
theorem bl_bsOf (l : List UInt8) : bl (bsOf l) = l := by simp [bl, bsOf]
theorem bsOf_bl (s : ByteArray) : bsOf (bl s) = s := by simp [bl, bsOf]
theorem bl_length (s : ByteArray) : (bl s).length = s.size := (Go.Lib.size_eq s).symm
theorem size_bsOf (l : List UInt8) : (bsOf l).size = l.length := by rw [← bl_length, bl_bsOf]
theorem bl_inj {s t : ByteArray} (h : bl s = bl t) : s = t := by rw [← bsOf_bl s, h, bsOf_bl]
theorem bl_append (s t : ByteArray) : bl (s ++ t) = bl s ++ bl t := by simp [bl]
theorem bl_extract (s : ByteArray) (a b : Nat) : bl (s.extract a b) = ((bl s).drop a).take (b - a) := by
  unfold bl
  rw [Go.Lib.extract_data]
theorem bl_get (s : ByteArray) (k : Nat) (h : k < s.size) : (bl s)[k]? = some s[k] := by
  unfold bl
  have hk : k < s.data.toList.length := by rw [← Go.Lib.size_eq]; exact h
  rw [List.getElem?_eq_getElem hk]
  rfl
theorem bl_drop (s : ByteArray) (k : Nat) (h : k < s.size) : (bl s).drop k = s[k] :: (bl s).drop (k + 1) := by
  have hk : k < (bl s).length := by rw [bl_length]; exact h
  rw [List.drop_eq_getElem_cons hk]
  congr 1
theorem bl_toList (s : ByteArray) : s.toList = bl s := ByteArray.toList_eq s
theorem run_text' {P : Program} (w : World) (src dst e : TypeId) (hs : P.underlying src = some (.slice e)) (he : P.underlying e = some (.int .u8)) (hd : P.underlying dst = some .string)
    (v : Value) (l : List UInt8) (hv : Sl w v 1 l.length (byV l)) : (convert src dst v).run P w = .ok (.string (bsOf l)) w := run_text w src dst e hs he hd v l hv

section
variable {P : Program} {w : World}
theorem src_one {e e' tx : TypeId} {u : Value} (hk : P.underlying tx = some (.slice e')) (h1 : u.oneCell' = true) : Src P 1 tx (.slice (some ⟨w.heap.size, 0, none⟩) 1 1) 1 [u] (w.alloc (.cells #[u] e)) :=
  Src.ofSlice _ hk _ _ _ _ rfl (by simpa using cell_one_new w u e) (by simpa using h1)

/-- append onto a slice that grew. -/
theorem wpList_appG {ops : Array Oper} {rest : List Oper} {o : Oper} {a : Act} {Q : Exit → Act → World → Prop} (hgd : o.guard = none) (s x : Operand) (t tx : TypeId)
    (ho : o.op = .call { callee := .builtin .append, args := #[s, x], argTypes := #[t, tx] })
    {e : TypeId} {size bytes : Nat} {z : Value} (T : SliceTy P t e size bytes z) {base : Nat} {w0 wr : World} {v0 v : Value} {n : Nat} {xs : List Value} (HG : Gr base e size w0 v0 wr v n xs) (hv : a.eval s = v)
    (y : Value) (m : Nat) (news : List Value) (hy : a.eval x = y) (hE : Ext (fun _ => False) wr w) (hs : Src P size tx y m news w)
    (N : Nat) (hN : n + m = N) (zs : List Value) (hz : xs ++ news = zs)
    (h63 : N ≤ maxLen) (hbytes : N * bytes ≤ 140737488355328) (hbase : base ≤ w0.heap.size)
    (h : ∀ a' c' w', Gr base e size w0 v0 w' (.slice a' N c') N zs → w.grownBy w' v.ownBlock → wpList P ops Q rest (a.put o.dst (.slice a' N c')) w') : wpList P ops Q (o :: rest) a w :=
  wpList_appF w hgd s x t tx ho T base v n xs hv (HG.own.ext hE (fun _ _ h => h)) y m news hy hs N hN zs hz h63 hbytes (Nat.le_trans hbase (Nat.le_trans HG.ext.size hE.size)) fun a' c' w' h2 h3 h4 => h a' c' w' (HG.app hE h2 h3 h4 hE.size) h3
end
end Go.Proofs.Ytadnldnmefhlcaa

namespace Go.Proofs.Ytadnldnmefhlcaa
open Go Go.RowKit

section
variable {P : Program} {l n : Nat} {ops : Array Oper} {Q : Exit → Act → World → Prop}

/-- It is no 'defer' statement. -/
def noDefer (o : Oper) : Bool := match o.op with
  | .defer _ => false
  | _ => true
theorem noDefer_spec {o : Oper} (h : noDefer o = true) (c : Go.Call) : o.op ≠ .defer c := by
  intro e
  rw [noDefer, e] at h
  cases h

theorem opIn_round {o : Oper} {a : Act} {w : World} {K : Act → World → Prop} (hd : noDefer o = true) (h : o.wp P a w K Q) : o.wpIn (Fence.wide.inRound l) n P a w K Q := by
  refine ⟨fun _ _ => trivial, ?_⟩
  have hs : o.semAt (Fence.wide.inRound l).round a.eval = execOp a.eval o := Oper.semAt_some l a.eval o (noDefer_spec hd)
  rw [hs]
  unfold Oper.wp at h
  generalize (execOp a.eval o).run P w = r at h ⊢
  cases r with
  | ok nx w' =>
    cases nx with
    | value v => exact h
    | skip => exact h
    | defer d => exact h
    | enter f args => exact ⟨fun hx => by simp [Fence.wide] at hx, CallsIn.inRound l (callsIn_wide.2 h)⟩
    | row r args => exact ⟨fun hx => by simp [Fence.wide] at hx, fun c cs _ => let ⟨v, w2, hr, s⟩ := h c cs; ⟨v, w2, hr, stepsIn_wide.2 s⟩⟩
    | round a b c d e => exact h.elim
    | _ => exact h.elim
  | halt x w' =>
    cases x with
    | panic v => exact h
    | _ => exact h.elim

theorem wpOpIn_round {i : Nat} {a : Act} {w : World} {K : Act → World → Prop} (hd : ops.all noDefer = true) (hQ : ¬ LetsOut Q) (h : wpOp P ops Q i K a w) : wpOpIn (Fence.wide.inRound l) n P ops Q i K a w := by
  unfold wpOp at h
  unfold wpOpIn
  cases ho : ops[i]? with
  | none => rw [ho] at h; exact h
  | some o =>
    rw [ho] at h
    simp only at h ⊢
    have hdo : noDefer o = true := by
      obtain ⟨hi, he⟩ := Array.getElem?_eq_some_iff.1 ho
      rw [← he]
      exact (Array.all_eq_true.1 hd) i hi
    split at h
    · rename_i hw
      rw [if_pos hw]
      rcases h with h | ⟨_, h⟩
      · exact opIn_round hdo h
      · exact absurd h hQ
    · rename_i hw
      rw [if_neg hw]
      exact ⟨fun _ _ => trivial, h⟩

theorem wpAnyIn_round {md : Region.Mode} (hd : ops.all noDefer = true) (hQ : ¬ LetsOut Q) : ∀ (fuel : Nat) (listed : Array Bool) (a : Act) (w : World), wpAny P md ops Q fuel listed a w → wpAnyIn (Fence.wide.inRound l) n P md ops Q fuel listed a w
  | 0, _, _, _, h => h
  | fuel + 1, _, _, _, h => ⟨h.1, fun i hi => wpOpIn_round hd hQ (wpOp_mono (fun a' w' h' => wpAnyIn_round hd hQ fuel _ a' w' h') (h.2 i hi))⟩

/-- One operation that is carried out. -/
theorem wpOp_run {i : Nat} {o : Oper} {a : Act} {w w' : World} {v : Value} {K : Act → World → Prop} (ho : ops[i]? = some o) (hw : Region.wanted o (yielded ops a.tmps) = true) (hr : (execOp a.eval o).run P w = .ok (.value v) w')
    (h : K (a.put o.dst v) w') : wpOp P ops Q i K a w := by
  unfold wpOp
  simp only [ho, hw, if_true, Oper.wp, hr]
  exact .inl h

/-- A call of a Go function that returns. -/
theorem wpOp_call {i : Nat} {o : Oper} {a : Act} {w w' : World} {f : FuncId} {args : Array Value} {K : Act → World → Prop} (ho : ops[i]? = some o) (hw : Region.wanted o (yielded ops a.tmps) = true) (hr : (execOp a.eval o).run P w = .ok (.enter f args) w')
    (h : Calls P f args w' fun e w'' => ∃ v, e = .returned v ∧ K (a.put o.dst v) w'') : wpOp P ops Q i K a w := by
  unfold wpOp
  simp only [ho, hw, if_true, Oper.wp, hr]
  refine .inl (h.mono ?_)
  rintro e w'' ⟨v, rfl, hk⟩
  exact hk

/-- One that yields nothing (a store). -/
theorem wpOp_skip {i : Nat} {o : Oper} {a : Act} {w w' : World} {K : Act → World → Prop} (ho : ops[i]? = some o) (hw : Region.wanted o (yielded ops a.tmps) = true) (hr : (execOp a.eval o).run P w = .ok .skip w')
    (h : K (a.put o.dst undef) w') : wpOp P ops Q i K a w := by
  unfold wpOp
  simp only [ho, hw, if_true, Oper.wp, hr]
  exact .inl h

/-- A region that draws its order, in a round: by the laws for whatever order. -/
theorem region_round {id : Nat} {a : Act} {w : World} (hm : P.follows .mixedOrders = true) (hd : ops.all noDefer = true) (hQ : ¬ LetsOut Q) (S : World → Prop)
    (h : wpAnyH P .any ops Q S ops.size (Array.replicate ops.size false) a w.drew) : (Code.region id ops true).wpIn (Fence.wide.inRound l) n P Q a w :=
  wpIn_region_any hm (wpAnyIn_round hd hQ _ _ _ _ (wpAny_of_held _ _ _ _ h))
end
end Go.Proofs.Ytadnldnmefhlcaa

namespace Go.Proofs.Ytadnldnmefhlcaa.U32
open Go Go.RowKit Go.Proofs.Ytadnldnmefhlcaa
set_option linter.unusedVariables false
set_option linter.unusedSimpArgs false

/-- A number of 32 bits, as a cell has it. -/
def u (x : UInt32) : Int := x.toNat
theorem u_lt (x : UInt32) : u x < 4294967296 := by have := x.toNat_lt; unfold u; omega
theorem u_ge (x : UInt32) : 0 ≤ u x := by unfold u; omega
theorem u_toNat (x : UInt32) : (u x).toNat = x.toNat := rfl
abbrev V (x : UInt32) : Value := .int .u32 (u x)

section
variable (t : TypeId) (yk : IntKind) (x y : UInt32)
theorem add' : (u x + u y) % 4294967296 = u (x + y) := by
  unfold u; rw [UInt32.toNat_add]; omega
theorem b_add : binOp .add t (.int .u32 (u x)) (.int .u32 (u y)) = pure (.int .u32 (u (x + y))) := by
  rw [binOp_add]
  show pure (Value.int .u32 (IntKind.u32.wrap (u x + u y))) = _
  rw [IntKind.wrap_u32', add']
theorem b_xor : binOp .xor t (.int .u32 (u x)) (.int .u32 (u y)) = pure (.int .u32 (u (x ^^^ y))) := by
  rw [binOp_xor, intBits_xor]
  congr 2
  show bits .xor .u32 (x.toNat : Int) (y.toNat : Int) = _
  rw [u32_xor_nat _ _ x.toNat_lt y.toNat_lt, ← UInt32.toNat_xor]
  rfl
theorem b_or : binOp .or t (.int .u32 (u x)) (.int .u32 (u y)) = pure (.int .u32 (u (x ||| y))) := by
  rw [binOp_or, intBits_or]
  congr 2
  show bits .or .u32 (x.toNat : Int) (y.toNat : Int) = _
  rw [u32_or_nat _ _ x.toNat_lt y.toNat_lt, ← UInt32.toNat_or]
  rfl
theorem b_and : binOp .and t (.int .u32 (u x)) (.int .u32 (u y)) = pure (.int .u32 (u (x &&& y))) := by
  rw [binOp_and, intBits_and]
  congr 2
  show bits .and .u32 (x.toNat : Int) (y.toNat : Int) = _
  rw [u32_and_nat _ _ x.toNat_lt y.toNat_lt, ← UInt32.toNat_and]
  rfl
theorem b_not : binOp .xor t (.int .u32 (u x)) (.int .u32 4294967295) = pure (.int .u32 (u (~~~x))) := by
  have := b_xor t x 0xFFFFFFFF
  have e : u 0xFFFFFFFF = 4294967295 := by decide
  rw [e] at this
  rw [this]
  congr 3
  apply UInt32.toBitVec_inj.1
  rw [UInt32.toBitVec_xor, UInt32.toBitVec_not, show (0xFFFFFFFF : UInt32).toBitVec = BitVec.allOnes 32 by decide, BitVec.xor_allOnes]
theorem shr_nat (n : Nat) (hn : n < 32) : u x / 2 ^ n = u (x >>> UInt32.ofNat n) := by
  unfold u
  rw [UInt32.toNat_shiftRight, UInt32.toNat_ofNat', Nat.shiftRight_eq_div_pow, Nat.mod_eq_of_lt (a := n) (b := 2 ^ 32) (by omega), Nat.mod_eq_of_lt (a := n) (b := 32) hn]
  push_cast
  rfl
theorem shl_nat (n : Nat) (hn : n < 32) : (u x * 2 ^ n) % 4294967296 = u (x <<< UInt32.ofNat n) := by
  unfold u
  rw [UInt32.toNat_shiftLeft, UInt32.toNat_ofNat', Nat.shiftLeft_eq, Nat.mod_eq_of_lt (a := n) (b := 2 ^ 32) (by omega), Nat.mod_eq_of_lt (a := n) (b := 32) hn]
  rw [Int.natCast_emod, Int.natCast_mul, Int.natCast_pow]
  rfl
theorem b_shr (n : Nat) (hn : n < 32) : binOp .shr t (.int .u32 (u x)) (.int yk n) = pure (.int .u32 (u (x >>> UInt32.ofNat n))) := by
  rw [binOp_shr, shift_shr _ _ _ _ (by omega) (by simp [IntKind.bits]; omega), Int.toNat_natCast, shr_nat x n hn]
theorem b_shl (n : Nat) (hn : n < 32) : binOp .shl t (.int .u32 (u x)) (.int yk n) = pure (.int .u32 (u (x <<< UInt32.ofNat n))) := by
  rw [binOp_shl, shift_shl _ _ _ _ (by omega) (by simp [IntKind.bits]; omega), Int.toNat_natCast, IntKind.wrap_u32', shl_nat x n hn]
theorem un_not : Op.unary .xor (.int .u32 (u x)) = pure (.int .u32 (u (~~~x))) := by
  have h := b_xor 0 0xFFFFFFFF x
  have e : u 0xFFFFFFFF = 4294967295 := by decide
  rw [e, binOp_xor] at h
  have : Op.unary .xor (.int .u32 (u x)) = Op.intBits .xor .u32 4294967295 (u x) := rfl
  rw [this, h]
  congr 3
theorem b_shr3 : binOp .shr t (.int .u32 (u x)) (.int yk 3) = pure (.int .u32 (u (x >>> 3))) := b_shr t yk x 3 (by omega)
theorem b_shr10 : binOp .shr t (.int .u32 (u x)) (.int yk 10) = pure (.int .u32 (u (x >>> 10))) := b_shr t yk x 10 (by omega)
end
end Go.Proofs.Ytadnldnmefhlcaa.U32

namespace Go.Proofs.Ytadnldnmefhlcaa.Steps
open Go Go.RowKit Go.Proofs.Ytadnldnmefhlcaa
set_option linter.unusedVariables false
set_option linter.unusedSimpArgs false

theorem wpOp_off {P : Program} {ops : Array Oper} {Q : Exit → Act → World → Prop} {i : Nat} {o : Oper} {a : Act} {w : World} {K : Act → World → Prop} (ho : ops[i]? = some o) (hw : Region.wanted o (yielded ops a.tmps) = false) (h : K (a.put o.dst undef) w) : wpOp P ops Q i K a w := by
  unfold wpOp
  simp only [ho, hw]
  exact h
theorem below_cell {w w' : World} {p : Addr} {v : Value} (hb : Below w.heap.size w w') (h : w.cell? p = some v) : w'.cell? p = some v := (hb.cell (World.block_lt_of_cell? w _ h)).trans h
theorem cell_alloc {w : World} {p : Addr} {v : Value} (h : w.cell? p = some v) (o : Obj) : (w.alloc o).cell? p = some v :=
  (((Below.refl _ w).alloc (Nat.le_refl _) o).cell (World.block_lt_of_cell? w _ h)).trans h

/-- A block that is written anew, whole. -/
theorem setRow_at {w : World} {g : Nat} {old cs : Array Value} {t : TypeId} {fr : Nat × Nat} (h : w.heap[g]? = some (.cells old t fr)) : (w.setRow g cs).heap[g]? = some (.cells cs t fr) := setRow_heap w g old cs t fr h
theorem setRow_far {w : World} {g k : Nat} (cs : Array Value) (h : k ≠ g) : (w.setRow g cs).heap[k]? = w.heap[k]? := setRow_other w g k cs h
theorem setRow_size (w : World) (g : Nat) (cs : Array Value) : (w.setRow g cs).heap.size = w.heap.size := by simp [World.setRow]
theorem below_row {B : Nat} {w0 w : World} {g : Nat} (h : Below B w0 w) (hg : B ≤ g) (cs : Array Value) : Below B w0 (w.setRow g cs) :=
  h.trans ⟨rfl, rfl, rfl, by simp [World.setRow], fun k hk => setRow_other w g k cs (by omega)⟩

/-- A store of a whole row: the world behind it under a name of its own. -/
theorem wpList_store_rowA {P : Program} {ops : Array Oper} {rest : List Oper} {o : Oper} {a : Act} {w : World} {Q : Exit → Act → World → Prop} (hgd : o.guard = none) (ty : TypeId) (x y : Operand) (ho : o.op = .store ty x y)
    (g : Nat) (cells : Array Value) (hx : a.eval x = .pointer (some ⟨g, 0, none⟩)) (hy : a.eval y = .agg cells)
    (t : TypeId) (old : Array Value) (hg : w.heap[g]? = some (.cells old t (0, 0))) (hi : (P.info? ty).map (·.size) = some cells.size)
    (hold : old.size = cells.size) (h1 : cells.all (·.oneCell') = true)
    (h : ∀ w', Hid (w' = w.setRow g cells) → wpList P ops Q rest (a.put o.dst undef) w') : wpList P ops Q (o :: rest) a w :=
  wpList_store_row hgd ty x y ho g cells hx hy t old hg hi hold h1 (h _ (Lib.hid rfl))

end Go.Proofs.Ytadnldnmefhlcaa.Steps

namespace Go.Proofs.Ytadnldnmefhlcaa.Uniform
open Go Go.RowKit Go.Proofs.Ytadnldnmefhlcaa
set_option linter.unusedVariables false
set_option linter.unusedSimpArgs false

section
variable {P : Program} {ops : Array Oper} {S : World → Prop} {md : Region.Mode} {Q : Exit → Act → World → Prop}

/-- It yields v, and leaves a world that meets S. -/
def UStep (P : Program) (S : World → Prop) (o : Oper) (v : Value) (a : Act) (w : World) : Prop :=
  match (execOp a.eval o).run P w with
  | .ok (.value u) w' => u = v ∧ S w'
  | .ok .skip w' => undef = v ∧ S w'
  | .ok (.enter f args) w' => Calls P f args w' fun e w'' => e = .returned v ∧ S w''
  | _ => False
theorem UStep.value {o : Oper} {v : Value} {a : Act} {w w' : World} (h : (execOp a.eval o).run P w = .ok (.value v) w') (hS : S w') : UStep P S o v a w := by
  unfold UStep
  rw [h]
  exact ⟨rfl, hS⟩
theorem UStep.skip {o : Oper} {a : Act} {w w' : World} (h : (execOp a.eval o).run P w = .ok .skip w') (hS : S w') : UStep P S o undef a w := by
  unfold UStep
  rw [h]
  exact ⟨rfl, hS⟩
theorem UStep.call {o : Oper} {v : Value} {a : Act} {w w' : World} {f : FuncId} {args : Array Value} (h : (execOp a.eval o).run P w = .ok (.enter f args) w') (hc : Calls P f args w' fun e w'' => e = .returned v ∧ S w'') : UStep P S o v a w := by
  unfold UStep
  rw [h]
  exact hc

def Uni (P : Program) (ops : Array Oper) (S : World → Prop) (o : Oper) (v : Value) (a : Act) : Prop :=
  (Region.wanted o (yielded ops a.tmps) = true ∧ ∀ w, S w → UStep P S o v a w) ∨
  (Region.wanted o (yielded ops a.tmps) = false ∧ v = undef)

theorem Uni.of_same {o : Oper} {v : Value} {a a' : Act} (hy : Uni P ops S o v a) (he : execOp a'.eval o = execOp a.eval o)
    (hw : Region.wanted o (yielded ops a'.tmps) = Region.wanted o (yielded ops a.tmps)) : Uni P ops S o v a' := by
  unfold Uni UStep at *
  rw [he, hw]
  exact hy

theorem Uni.wpOp {i : Nat} {o : Oper} {v : Value} {a : Act} (hi : ops[i]? = some o) (hy : Uni P ops S o v a)
    {K : Act → World → Prop} {w : World} (hS : S w) (h : ∀ w', S w' → K (a.put o.dst v) w') : wpOp P ops Q i K a w := by
  unfold Go.wpOp
  simp only [hi]
  rcases hy with ⟨hw, hv⟩ | ⟨hw, rfl⟩
  · simp only [hw, if_true]
    refine .inl ?_
    have := hv w hS
    unfold UStep at this
    unfold Oper.wp
    generalize (execOp a.eval o).run P w = r at this ⊢
    cases r with
    | ok n w' =>
      cases n with
      | value u =>
        obtain ⟨rfl, h'⟩ := this
        exact h w' h'
      | skip =>
        obtain ⟨rfl, h'⟩ := this
        exact h w' h'
      | enter f args =>
        refine Calls.mono this fun e w'' he => ?_
        obtain ⟨rfl, h'⟩ := he
        exact h w'' h'
      | _ => exact this.elim
    | halt x w' => exact this.elim
  · simp only [hw, Bool.false_eq_true, if_false]
    exact h w hS

/-- Whatever order is picked from here on. -/
def wpAnyU (P : Program) (md : Region.Mode) (ops : Array Oper) (Q : Exit → Act → World → Prop) (S : World → Prop) : Nat → Array Bool → Act → Prop
  | 0, listed, a => Region.ready md ops listed = [] ∧ ∀ w, S w → Q .normal a w
  | fuel + 1, listed, a =>
    (Region.ready md ops listed = [] → ∀ w, S w → Q .normal a w) ∧
    ∀ i ∈ Region.ready md ops listed, ∃ oi v, ops[i]? = some oi ∧ Uni P ops S oi v a ∧ wpAnyU P md ops Q S fuel (listed.setIfInBounds i true) (a.put oi.dst v)

theorem wpAny_of_uni : ∀ (fuel : Nat) (listed : Array Bool) (a : Act), wpAnyU P md ops Q S fuel listed a → ∀ w, S w → wpAny P md ops Q fuel listed a w
  | 0, _, _, h, w, hS => ⟨h.1, h.2 w hS⟩
  | fuel + 1, _, _, h, w, hS => ⟨fun hr => h.1 hr w hS, fun i hi => by
    obtain ⟨oi, v, ho, hu, h'⟩ := h.2 i hi
    exact hu.wpOp ho hS fun w' hS' => wpAny_of_uni fuel _ _ h' w' hS'⟩

theorem wpAnyU_first {i : Nat} {oi : Oper} {v : Value} (hi : ops[i]? = some oi) (hsel : ∀ (j : Nat) (o : Oper) cs b, ops[j]? = some o → o.op ≠ .select cs b) :
    ∀ (fuel : Nat) (listed : Array Bool) (a : Act),
      (∀ j oj, ops[j]? = some oj → j ≠ i → listed.getD j true = false → (∀ e ∈ oj.after, Region.binds md e = true → e.on ≠ i) → oi.apart ops oj = true) →
      i ∈ Region.ready md ops listed → Uni P ops S oi v a →
      wpAnyU P md ops Q S fuel (listed.setIfInBounds i true) (a.put oi.dst v) → wpAnyU P md ops Q S (fuel + 1) listed a := by
  intro fuel
  induction fuel with
  | zero =>
    intro listed a _ hr hy H
    refine ⟨fun h => (by rw [h] at hr; cases hr), fun j hj => ?_⟩
    by_cases hji : j = i
    · subst hji; exact ⟨oi, v, hi, hy, H⟩
    · have := ready_mono hj hji
      rw [H.1] at this
      cases this
  | succ fuel ih =>
    intro listed a hfree hr hy H
    refine ⟨fun h => (by rw [h] at hr; cases hr), fun j hj => ?_⟩
    by_cases hji : j = i
    · subst hji; exact ⟨oi, v, hi, hy, H⟩
    · obtain ⟨oj', vj, hoj', huj, h1⟩ := H.2 j (ready_mono hj hji)
      obtain ⟨hjun, oj, hoj, hall⟩ := mem_ready.1 hj
      obtain rfl : oj = oj' := Option.some.inj (hoj.symm.trans hoj')
      have hnot : ∀ e ∈ oj.after, Region.binds md e = true → e.on ≠ i := fun e he hb heq => by
        have h1 := hall e he hb
        have h0 := (mem_ready.1 hr).1
        rw [heq] at h1
        rcases Nat.lt_or_ge i listed.size with h' | h'
        · simp [h'] at h0 h1; rw [h0] at h1; cases h1
        · simp [Array.getElem?_eq_none h'] at h1
      have hap := hfree j oj hoj hji hjun hnot
      obtain ⟨a1, a2, a3⟩ := Oper.apart_spec hap
      have hsi := fun cs b => hsel i oi cs b hi
      have hsj := fun cs b => hsel j oj cs b hoj
      have huj' : Uni P ops S oj vj a := huj.of_same (execOp_put oj hsj a oi.dst v a1).symm (wanted_put oj a oi.dst v a1).symm
      have hui' : Uni P ops S oi v (a.put oj.dst vj) := hy.of_same (execOp_put oi hsi a oj.dst vj a3) (wanted_put oi a oj.dst vj a3)
      have hfree' : ∀ k ok, ops[k]? = some ok → k ≠ i → (listed.setIfInBounds j true).getD k true = false →
          (∀ e ∈ ok.after, Region.binds md e = true → e.on ≠ i) → oi.apart ops ok = true := fun k ok hk hki hun hno => by
        refine hfree k ok hk hki ?_ hno
        by_cases hjk : j = k
        · subst hjk; exact hjun
        · rw [getD_set_ne true hjk] at hun; exact hun
      refine ⟨oj, vj, hoj, huj', ih (listed.setIfInBounds j true) _ hfree' (ready_mono hr (Ne.symm hji)) hui' ?_⟩
      rw [Array.setIfInBounds_comm _ _ hji, ← Act.put_comm a v vj a2]
      exact h1

/-- An order in which they may come up, one by one, each free. -/
def planB (md : Region.Mode) (ops : Array Oper) : Array Bool → List Nat → Bool
  | listed, [] => (Region.ready md ops listed).isEmpty
  | listed, i :: is => (ops[i]?).isSome && Region.free md ops listed i && (Region.ready md ops listed).contains i && planB md ops (listed.setIfInBounds i true) is

def Chain (P : Program) (ops : Array Oper) (S : World → Prop) (Q : Exit → Act → World → Prop) : List Nat → Act → Prop
  | [], a => ∀ w, S w → Q .normal a w
  | i :: is, a => ∃ oi v, ops[i]? = some oi ∧ Uni P ops S oi v a ∧ Chain P ops S Q is (a.put oi.dst v)

theorem wpAnyU_done {listed : Array Bool} {a : Act} (hr : Region.ready md ops listed = []) (h : ∀ w, S w → Q .normal a w) : ∀ fuel, wpAnyU P md ops Q S fuel listed a
  | 0 => ⟨hr, h⟩
  | _ + 1 => ⟨fun _ => h, by rw [hr]; simp⟩

theorem wpAnyU_chain (hs : Region.noSelect ops = true) : ∀ (is : List Nat) (fuel : Nat) (listed : Array Bool) (a : Act), planB md ops listed is = true → is.length ≤ fuel → Chain P ops S Q is a → wpAnyU P md ops Q S fuel listed a
  | [], fuel, listed, a, hp, _, h => wpAnyU_done (by simpa [planB] using hp) h fuel
  | i :: is, 0, listed, a, _, hl, _ => by simp at hl
  | i :: is, fuel + 1, listed, a, hp, hl, h => by
    simp only [planB, Bool.and_eq_true] at hp
    obtain ⟨⟨⟨_, hf⟩, hr⟩, hp'⟩ := hp
    obtain ⟨oi, v, hi, hu, h'⟩ := h
    exact wpAnyU_first hi (Region.noSelect_spec hs) fuel listed a (Region.free_spec hi hf) (by simpa using hr) hu (wpAnyU_chain hs is fuel _ _ hp' (by simpa using hl) h')

/-- **THE LAW**: is: an order in which the operations may come up; each yields its value in whatever world meets S, and leaves one. -/
theorem region_chain {id : Nat} {a : Act} {w : World} (S : World → Prop) (is : List Nat) (hm : P.follows .mixedOrders = true)
    (hp : (Region.noSelect ops && (planB .any ops (Array.replicate ops.size false) is && decide (is.length ≤ ops.size))) = true) (hS : S w.drew) (h : Chain P ops S Q is a) : (Code.region id ops true).wp P Q a w := by
  simp only [Bool.and_eq_true, decide_eq_true_eq] at hp
  exact wp_region_any hm (wpAny_of_uni _ _ _ (wpAnyU_chain hp.1 is _ _ _ hp.2.1 hp.2.2 h) _ hS)

end
end Go.Proofs.Ytadnldnmefhlcaa.Uniform
