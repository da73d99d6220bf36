/-
  WHAT IS PROVED: entries, heads, deals, proofs and messages as rows of cells, and when texts are such. No condition beside what each theorem names.
-/
import Derived.Test.YtdmonfimdinkeaaGreatDoorEnt
import Derived.Test.YtdmonfimdinkeaaGreatDoorWireS
import Derived.Laws.CopyRow
namespace Go.Proofs.YtdmonfimdinkeaaGreatDoor.WireT
open Go Go.RowKit Go.Shelf Go.Proofs.YtdmonfimdinkeaaGreatDoor Go.Proofs.YtdmonfimdinkeaaGreatDoor.OctetS Go.Proofs.YtdmonfimdinkeaaGreatDoor.IdentS Go.Proofs.YtdmonfimdinkeaaGreatDoor.EntS Go.Proofs.YtdmonfimdinkeaaGreatDoor.WireS Go.Proofs.YtdmonfimdinkeaaGreatDoor.OctG Go.Proofs.YtdmonfimdinkeaaGreatDoor.OctP Go.Proofs.YtdmonfimdinkeaaGreatDoor.OctQ Go.Proofs.YtdmonfimdinkeaaGreatDoor.EventP Go.Proofs.YtdmonfimdinkeaaGreatDoor.EventC Go.Proofs.YtdmonfimdinkeaaGreatDoor.EntP
set_option linter.unusedVariables false
set_option linter.unusedSimpArgs false

/-! ### Small numbers -/
def numI (m : Nat) (t : List UInt8) : Int := match small m t with | some n => n | none => -1
theorem numI_some {m n : Nat} {t : List UInt8} (h : small m t = some n) : numI m t = n := by unfold numI; rw [h]
theorem numI_none {m : Nat} {t : List UInt8} (h : small m t = none) : numI m t = -1 := by unfold numI; rw [h]
theorem small_cases (m : Nat) {t : List UInt8} {n u : Nat} {y : Int} (hg : getNum t = (n, u, y)) :
    (y ≠ 0 ∧ small m t = none) ∨ (y = 0 ∧ u < t.length ∧ small m t = none) ∨ (y = 0 ∧ u = t.length ∧ m < n ∧ n ≤ maxNum ∧ small m t = none) ∨ (y = 0 ∧ u = t.length ∧ n ≤ m ∧ n ≤ maxNum ∧ small m t = some n) := by
  by_cases hy : y = 0
  · subst hy
    obtain ⟨_, _, hu, _, hn⟩ := getNum_ok hg
    by_cases h1 : u < t.length
    · exact .inr (.inl ⟨rfl, h1, by unfold small; rw [hg]; exact if_neg (fun h => by simp only at h; omega)⟩)
    · by_cases h2 : m < n
      · exact .inr (.inr (.inl ⟨rfl, by omega, h2, hn, by unfold small; rw [hg]; exact if_neg (fun h => by simp only at h; omega)⟩))
      · exact .inr (.inr (.inr ⟨rfl, by omega, by omega, hn, by unfold small; rw [hg]; exact if_pos ⟨rfl, by simp only; omega, by simp only; omega⟩⟩))
  · exact .inl ⟨hy, by unfold small; rw [hg]; exact if_neg (fun h => hy h.1)⟩
theorem getNum_le {t : List UInt8} {n u : Nat} {y : Int} (hg : getNum t = (n, u, y)) : n ≤ maxNum := by
  rcases getNum_why t with h | h | h
  · rw [hg] at h
    simp only at h
    subst h
    exact (getNum_ok hg).2.2.2.2
  · rw [hg] at h; cases h; omega
  · rw [hg] at h; cases h; omega
theorem small_le {m n : Nat} {t : List UInt8} (h : small m t = some n) : n ≤ m := (small_spec h).1
theorem place_small (t : List UInt8) : placeB (numI 4096 t) = (small 4096 t).isSome := by
  cases h : small 4096 t with
  | none => rw [numI_none h]; rfl
  | some n => rw [numI_some h]; have := small_le h; simp [placeB]; omega

/-! ### A list, and its cells -/
theorem list_at {w0 w : World} {v : Value} {l : List (List UInt8)} (h : ListAt w0 w v l) (hl : l ≠ []) :
    ∃ B cap, v = .slice (some ⟨B, 0, none⟩) l.length cap ∧ w0.heap.size ≤ B ∧ ∀ j t, l[j]? = some t → w.cell? ⟨B, j, none⟩ = some (.string (bsOf t)) := by
  unfold ListAt at h
  have hs := Sl.ofOwn h
  rcases h.2 with ⟨_, h0⟩ | ⟨B, cap, cur, rfl, hB, _⟩
  · exfalso
    exact hl (by simpa [strV] using h0)
  · rcases hs.2 with ⟨h0, _⟩ | ⟨a', cap', e, _, _, hc⟩
    · cases h0
    · simp only [Value.slice.injEq, Option.some.injEq] at e
      obtain ⟨rfl, _, rfl⟩ := e
      refine ⟨B, cap, rfl, hB, fun j t ht => ?_⟩
      have := hc j (.string (bsOf t)) (by simp [strV, ht])
      rw [Addr.add_mid, Nat.zero_add] at this
      exact this

/-! ### Entries -/
theorem entA_one (r : ByteArray) (ep ix : Int) (pv : List UInt8) (e s : ByteArray) : (entA r ep ix pv e s).all (·.oneCell') = true := by
  simp [entA, byV, Value.oneCell']
theorem entA_size {r : ByteArray} {ep ix : Int} {pv : List UInt8} {e s : ByteArray} (h : pv.length = 32) : (entA r ep ix pv e s).size = 37 := by simp [entA, byV_length, h]
def zero32 : List UInt8 := List.replicate 32 0
theorem zero32_len : zero32.length = 32 := rfl
theorem ent_copy (r : ByteArray) (ep ix : Int) {z pv : List UInt8} (hz : z.length = 32) (hp : pv.length = 32) (e s : ByteArray) :
    ((entA r ep ix z e s).toList.take 3 ++ byV (pv.take 32) ++ (entA r ep ix z e s).toList.drop (3 + 32)).toArray = entA r ep ix pv e s := by
  have h1 : pv.take 32 = pv := List.take_of_length_le (by omega)
  rw [h1]
  unfold entA
  have h2 : (byV z).length = 32 := by rw [byV_length, hz]
  have h3 : ([.string r, .int .i64 ep, .int .i64 ix] ++ byV z ++ [.string e, .string s] : List Value).drop (3 + 32) = [.string e, .string s] := by
    have h4 : ([.string r, .int .i64 ep, .int .i64 ix] ++ byV z : List Value).length = 3 + 32 := by simp [h2]
    rw [← h4, List.drop_left]
  simp only [h3]
  congr 1

/-! ### Heads -/
def hdA (r : ByteArray) (ep ix : Int) (sm : List UInt8) (s : ByteArray) : Array Value := ([.string r, .int .i64 ep, .int .i64 ix] ++ byV sm ++ [.string s] : List Value).toArray
structure HdP (p : Array Value) (r : ByteArray) (ep ix : Int) (sm : List UInt8) (s : ByteArray) : Prop where
  eq : p = hdA r ep ix sm s
  len : sm.length = 32
section
variable {p : Array Value} {r : ByteArray} {ep ix : Int} {sm : List UInt8} {s : ByteArray}
theorem HdP.size (h : HdP p r ep ix sm s) : p.size = 36 := by rw [h.eq]; simp [hdA, byV_length, h.len]
theorem HdP.c0 (h : HdP p r ep ix sm s) : p[0]? = some (.string r) := by rw [h.eq]; rfl
theorem HdP.c1 (h : HdP p r ep ix sm s) : p[1]? = some (.int .i64 ep) := by rw [h.eq]; rfl
theorem HdP.c2 (h : HdP p r ep ix sm s) : p[2]? = some (.int .i64 ix) := by rw [h.eq]; rfl
theorem HdP.cp (h : HdP p r ep ix sm s) (j : Nat) (u : Value) (hj : (byV sm)[j]? = some u) : p[3 + j]? = some u := by
  have hl : j < 32 := by
    have := (List.getElem?_eq_some_iff.1 hj).1
    rw [byV_length, h.len] at this
    exact this
  rw [h.eq]
  unfold hdA
  rw [List.getElem?_toArray, List.getElem?_append_left (by simp [byV_length, h.len]; omega), List.getElem?_append_right (by simp)]
  simpa using hj
theorem HdP.c35 (h : HdP p r ep ix sm s) : p[35]? = some (.string s) := by
  rw [h.eq]
  unfold hdA
  rw [List.getElem?_toArray, List.getElem?_append_right (by simp [byV_length, h.len])]
  simp [byV_length, h.len]
end
theorem hdA_one (r : ByteArray) (ep ix : Int) (pv : List UInt8) (s : ByteArray) : (hdA r ep ix pv s).all (·.oneCell') = true := by
  simp [hdA, byV, Value.oneCell']
theorem hdA_size {r : ByteArray} {ep ix : Int} {pv : List UInt8} {s : ByteArray} (h : pv.length = 32) : (hdA r ep ix pv s).size = 36 := by simp [hdA, byV_length, h]
def hdZ : Array Value := hdA ⟨#[]⟩ 0 0 zero32 ⟨#[]⟩
def hdV : Option Hd → Value
  | some e => .tuple #[.agg (hdA (bsOf e.room) e.ep e.ix e.sum (bsOf e.sig)), .int .i64 0]
  | none => .tuple #[.agg hdZ, .int .i64 6]
theorem hd_copy (r : ByteArray) (ep ix : Int) {z pv : List UInt8} (hz : z.length = 32) (hp : pv.length = 32) (s : ByteArray) :
    ((hdA r ep ix z s).toList.take 3 ++ byV (pv.take 32) ++ (hdA r ep ix z s).toList.drop (3 + 32)).toArray = hdA r ep ix pv s := by
  have h1 : pv.take 32 = pv := List.take_of_length_le (by omega)
  rw [h1]
  unfold hdA
  have h2 : (byV z).length = 32 := by rw [byV_length, hz]
  have h3 : ([.string r, .int .i64 ep, .int .i64 ix] ++ byV z ++ [.string s] : List Value).drop (3 + 32) = [.string s] := by
    have h4 : ([.string r, .int .i64 ep, .int .i64 ix] ++ byV z : List Value).length = 3 + 32 := by simp [h2]
    rw [← h4, List.drop_left]
  simp only [h3]
  congr 1
theorem hd_sig (r : ByteArray) (ep ix : Int) {pv : List UInt8} (hp : pv.length = 32) (s s' : ByteArray) : (hdA r ep ix pv s).setIfInBounds 35 (.string s') = hdA r ep ix pv s' := by
  have h2 : (byV pv).length = 32 := by rw [byV_length, hp]
  obtain ⟨l, hl⟩ : ∃ l, l = byV pv := ⟨_, rfl⟩
  unfold hdA
  rw [← hl] at h2 ⊢
  rw [List.setIfInBounds_toArray]
  congr 1
  rw [List.set_append_right _ _ (by simp [h2])]
  simp [h2]
def hdOf (r : ByteArray) (ep ix : Int) (sm : List UInt8) (s : ByteArray) : Hd := ⟨bl r, ep, ix, sm, bl s⟩
def checkH (e : Hd) : Bool := roomB e.room && (placeB e.ep && (placeB e.ix && decide (e.sig.length ≤ 8192)))
theorem readH_bad {s : List UInt8} {l : List (List UInt8)} {y : Int} (ha : all s = (l, y)) (h : y ≠ 0 ∨ l.length ≠ 5) : readH s = none := by
  unfold readH
  rw [ha]
  rcases h with h | h
  · exact if_neg h
  · split
    · unfold readHL
      split
      · rename_i heq
        simp only at heq
        subst heq
        simp at h
      · rfl
    · rfl
theorem readH_mark {s : List UInt8} {k r a b p : List UInt8} (ha : all s = ([k, r, a, b, p], 0)) (h : k ≠ markH) : readH s = none := by
  unfold readH
  rw [ha]
  simp [readHL, h]
theorem readH_five {s : List UInt8} {r a b p : List UInt8} (ha : all s = ([markH, r, a, b, p], 0)) :
    readH s = if p.length = 32 ∧ checkH ⟨r, numI 4096 a, numI 4096 b, p, []⟩ = true then some ⟨r, numI 4096 a, numI 4096 b, p, []⟩ else none := by
  unfold readH
  rw [ha]
  simp only [if_true, readHL, checkH, place_small, List.length_nil]
  cases h1 : small 4096 a with
  | none => simp
  | some x =>
    cases h2 : small 4096 b with
    | none => simp
    | some z =>
      simp only [Option.bind_some, numI_some h1, numI_some h2, Option.isSome_some, Bool.true_and]
      by_cases h3 : p.length = 32 ∧ roomB r = true
      · rw [if_pos h3, if_pos ⟨h3.1, by simp [h3.2]⟩]
      · rw [if_neg h3, if_neg (fun h => h3 ⟨h.1, by simpa using h.2⟩)]
theorem readH_len {s : List UInt8} {e : Hd} (h : readH s = some e) : e.sum.length = 32 ∧ e.sig = [] ∧ checkH e = true := by
  obtain ⟨l, y, ha⟩ : ∃ l y, all s = (l, y) := ⟨_, _, rfl⟩
  by_cases h0 : y = 0 ∧ l.length = 5
  · obtain ⟨rfl, h6⟩ := h0
    match l, h6, ha with
    | [k, r, a, b, p], _, ha =>
      by_cases hk : k = markH
      · subst hk
        rw [readH_five ha] at h
        split at h
        · rename_i hc
          cases h
          exact ⟨hc.1, rfl, hc.2⟩
        · cases h
      · rw [readH_mark ha hk] at h
        cases h
  · rw [readH_bad ha (by omega)] at h
    cases h

/-! ### Bytes: two texts -/
theorem parseH_bad {s : List UInt8} {l : List (List UInt8)} {y : Int} (ha : all s = (l, y)) (h : y ≠ 0 ∨ l.length ≠ 2) : parseH s = none := by
  unfold parseH
  rw [ha]
  rcases h with h | h
  · exact if_neg h
  · split
    · unfold parseHL
      split
      · rename_i heq
        simp only at heq
        subst heq
        simp at h
      · rfl
    · rfl
theorem parseH_two {s t g : List UInt8} (ha : all s = ([t, g], 0)) : parseH s = (readH t).map fun e => withSigH e g := by
  unfold parseH
  rw [ha]
  rfl

/-! ### Deals -/
def dlA (k : Int) (r : ByteArray) (ep ix hub next : Int) (s : ByteArray) : Array Value := #[.int .u8 k, .string r, .int .i64 ep, .int .i64 ix, .int .i64 hub, .int .i64 next, .string s]
def dlZ : Array Value := dlA 0 ⟨#[]⟩ 0 0 0 0 ⟨#[]⟩
def dlV : Option Dl → Value
  | some e => .tuple #[.agg (dlA e.kind (bsOf e.room) e.ep e.ix e.hub e.next (bsOf e.sig)), .int .i64 0]
  | none => .tuple #[.agg dlZ, .int .i64 6]
theorem parseD_bad {s : List UInt8} {l : List (List UInt8)} {y : Int} (ha : all s = (l, y)) (h : y ≠ 0 ∨ l.length ≠ 2) : parseD s = none := by
  unfold parseD
  rw [ha]
  rcases h with h | h
  · exact if_neg h
  · split
    · unfold parseDL
      split
      · rename_i heq
        simp only at heq
        subst heq
        simp at h
      · rfl
    · rfl
theorem parseD_two {s t g : List UInt8} (ha : all s = ([t, g], 0)) : parseD s = (readD t).map fun e => withSigD e g := by
  unfold parseD
  rw [ha]
  rfl
theorem readD_bad {s : List UInt8} {l : List (List UInt8)} {y : Int} (ha : all s = (l, y)) (h : y ≠ 0 ∨ l.length ≠ 6) : readD s = none := by
  unfold readD
  rw [ha]
  rcases h with h | h
  · exact if_neg h
  · split
    · unfold readDL
      split
      · rename_i heq
        simp only at heq
        subst heq
        simp at h
      · rfl
    · rfl
theorem readD_six {s : List UInt8} {k r a b h n : List UInt8} (ha : all s = ([k, r, a, b, h, n], 0)) :
    readD s = if checkD ⟨kindD k, r, numI 4096 a, numI 4096 b, numI 4096 h, numI 4096 n, []⟩ = true then some ⟨kindD k, r, numI 4096 a, numI 4096 b, numI 4096 h, numI 4096 n, []⟩ else none := by
  have hno : ∀ {t : List UInt8}, small 4096 t = none → ¬ 0 ≤ numI 4096 t := fun h => by rw [numI_none h]; omega
  unfold readD
  rw [ha]
  simp only [if_true, readDL]
  cases h1 : small 4096 a with
  | none => simp [checkD, place_small, h1]
  | some x =>
    cases h2 : small 4096 b with
    | none => simp [checkD, place_small, h2]
    | some z =>
      cases h3 : small 4096 h with
      | none => simp [checkD, hno h3]
      | some p =>
        cases h4 : small 4096 n with
        | none => simp [checkD, hno h4]
        | some q => simp only [Option.bind_some, numI_some h1, numI_some h2, numI_some h3, numI_some h4]

/-! ### Proofs -/
def pfA (n : Int) (a x b y : ByteArray) : Array Value := #[.int .i64 n, .string a, .string x, .string b, .string y]
def pfZ : Array Value := pfA 0 ⟨#[]⟩ ⟨#[]⟩ ⟨#[]⟩ ⟨#[]⟩

/-! ### Rejections -/

/-! ### Messages -/
def msA (k f t : Int) (b : ByteArray) : Array Value := #[.int .u8 k, .int .i64 f, .int .i64 t, .string b]
def msZ : Array Value := msA 0 0 0 ⟨#[]⟩

/-! ### Results and rows -/
theorem results_cell_slot {P : Program} {fn : Func} {p q : Tmp} {ty : TypeId} (h : fn.results = #[.cell p ty, .tmp q]) (tmps : Array Value) (w : World) (g : Nat) (t : TypeId) (cs : Array Value) (fr : Nat × Nat) (d : TypeDesc)
    (hp : tmps.getD p undef = .pointer (some ⟨g, 0, none⟩)) (hg : w.heap[g]? = some (.cells cs t fr))
    (hu : P.underlying ty = some d) (hd : (match d with | .struct _ | .array _ _ => true | _ => false) = true) (hi : (P.info? ty).map (·.size) = some cs.size) {v : Value} (hq : tmps.getD q undef = v) :
    (results fn tmps).run P w = .ok (.tuple #[.agg cs, v]) w := by
  have hp' : tmps[p]?.getD undef = .pointer (some ⟨g, 0, none⟩) := by simpa using hp
  have hq' : tmps[q]?.getD undef = v := by simpa using hq
  simp [results, h, hp', hq', asAddr, run_loadVar_row w g t ty cs fr d hg hu hd hi]
theorem wpList_load_rowG {P : Program} {ops : Array Oper} {rest : List Oper} {o : Oper} {a : Act} {w : World} {Q : Exit → Act → World → Prop} (hw : Region.wanted o (yielded ops a.tmps) = true) (ty : TypeId) (x : Operand) (ho : o.op = .load ty x)
    (g : Nat) (hx : a.eval x = .pointer (some ⟨g, 0, none⟩)) (t : TypeId) (cs : Array Value) (fr : Nat × Nat) (d : TypeDesc) (hg : w.heap[g]? = some (.cells cs t fr))
    (hu : P.underlying ty = some d) (hd : (match d with | .struct _ | .array _ _ => true | _ => false) = true) (hi : (P.info? ty).map (·.size) = some cs.size)
    (h : wpList P ops Q rest (a.put o.dst (.agg cs)) w) : wpList P ops Q (o :: rest) a w := by
  unfold wpList
  rw [if_pos hw]
  exact .inl (wp_load_row ty x ho g hx t cs fr d hg hu hd hi h)
/-! ### More ways to see a list, and a text -/
theorem list_n {w0 w : World} {v : Value} {l : List (List UInt8)} (n : Nat) (h : ListAt w0 w v l) (hl : l.length = n) (h0 : n ≠ 0) :
    ∃ B cap, v = .slice (some ⟨B, 0, none⟩) n cap ∧ w0.heap.size ≤ B ∧ ∀ j t, l[j]? = some t → w.cell? ⟨B, j, none⟩ = some (.string (bsOf t)) := by
  subst hl
  exact list_at h (fun e => h0 (by rw [e]; rfl))
theorem readH_no {s r a b p : List UInt8} (ha : all s = ([markH, r, a, b, p], 0)) (h : p.length ≠ 32 ∨ small 4096 a = none ∨ small 4096 b = none) : readH s = none := by
  rw [readH_five ha, if_neg]
  rintro ⟨h1, h2⟩
  rcases h with h | h | h
  · exact h h1
  · simp [checkH, place_small, h] at h2
  · simp [checkH, place_small, h] at h2
theorem readH_yes {s r a b p : List UInt8} {x z : Nat} (ha : all s = ([markH, r, a, b, p], 0)) (hx : small 4096 a = some x) (hz : small 4096 b = some z) (hp : p.length = 32) :
    readH s = if checkH ⟨r, x, z, p, []⟩ = true then some ⟨r, x, z, p, []⟩ else none := by
  rw [readH_five ha, numI_some hx, numI_some hz]
  simp only [hp, true_and]
theorem bsOf_nil : bsOf [] = ⟨#[]⟩ := rfl
theorem parts_len {s : List UInt8} {l : List (List UInt8)} (ha : all s = (l, 0)) (t : List UInt8) (ht : t ∈ l) : (bsOf t).size ≤ 8192 := by
  obtain ⟨hfit, _⟩ := all_ok ha
  rw [size_bsOf]
  exact (fits_iff.1 hfit).2 t ht
end Go.Proofs.YtdmonfimdinkeaaGreatDoor.WireT
