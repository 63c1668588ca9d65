/-
  The reference's Reads as a whole: what it hands back is the plain run of the operations on a plain reader.
-/
import Derived.Test.YtpnpikanmgoaiaaDoorReads
import Derived.Laws.EntriesVeiled
import Derived.Deep.RegionHeld3
import Derived.Deep.DeepCutAuto
import Derived.Deep.AppendLies
import Derived.Deep.CutBlock
import Derived.KernelRfl
namespace Go.Proofs.YtpnpikanmgoaiaaDoor
open Go.RowKit

def bar : ByteArray := ⟨#[124]⟩
def blank : ByteArray := ⟨#[32]⟩
/-- one operation of the reference: what it got, and the state behind it -/
def Rd.op (r : Rd) (what n : Int) : ByteArray × Rd :=
  if what = 0 then r.take n false
  else if what = 1 then (itoaB (Rd.beNum (r.take n true).1.data.toList), (r.take n true).2)
  else if what = 2 then (boolB r.zeros.1, r.zeros.2)
  else if what = 3 then (itoaB r.place ++ blank ++ itoaB (r.take n false).1.size ++ blank ++ (r.take n false).1 ++ blank ++ itoaB ((r.take n false).2.err.elim 0 (·.1)), (r.take n false).2)
  else if what = 4 then (⟨#[]⟩, r.fail 6 n)
  else (⟨#[]⟩, r)
def Rd.line (got : ByteArray) (r : Rd) : ByteArray := got ++ bar ++ itoaB ((r.s.size : Int) - r.at_) ++ blank ++ itoaB r.place
/-- the state behind all operations -/
def Rd.run : Rd → List (Int × Int) → Rd
  | r, [] => r
  | r, (a, n) :: l => Rd.run (r.op a n).2 l
/-- the lines -/
def Rd.lines : Rd → List (Int × Int) → List ByteArray
  | _, [] => []
  | r, (a, n) :: l => Rd.line (r.op a n).1 (r.op a n).2 :: Rd.lines (r.op a n).2 l

theorem Rd.lines_length : ∀ (l : List (Int × Int)) (r : Rd), (Rd.lines r l).length = l.length
  | [], _ => rfl
  | (a, n) :: l, r => by simp only [Rd.lines, List.length_cons, Rd.lines_length l]
theorem Rd.run_snoc : ∀ (l : List (Int × Int)) (r : Rd) (k : Nat) (_ : k < l.length), Rd.run r (l.take (k + 1)) = ((Rd.run r (l.take k)).op (l.getD k (0, 0)).1 (l.getD k (0, 0)).2).2
  | (a, n) :: l, r, 0, _ => rfl
  | (a, n) :: l, r, k + 1, h => by
    simp only [List.take_succ_cons, Rd.run, List.getD_cons_succ]
    exact Rd.run_snoc l _ k (by simpa using h)
theorem Rd.lines_snoc : ∀ (l : List (Int × Int)) (r : Rd) (k : Nat) (_ : k < l.length), (Rd.lines r l).take (k + 1) = (Rd.lines r l).take k ++
    [Rd.line ((Rd.run r (l.take k)).op (l.getD k (0, 0)).1 (l.getD k (0, 0)).2).1 ((Rd.run r (l.take k)).op (l.getD k (0, 0)).1 (l.getD k (0, 0)).2).2]
  | (a, n) :: l, r, 0, _ => rfl
  | (a, n) :: l, r, k + 1, h => by
    simp only [Rd.lines, List.take_succ_cons, Rd.run, List.getD_cons_succ, List.cons_append]
    rw [Rd.lines_snoc l _ k (by simpa using h)]

/-- a slice of pairs of numbers, as it is read: empty, or at a place -/
def RPairs (w : World) (v : Value) (xs : List (Int × Int)) : Prop :=
  ∃ c : Nat, (xs = [] ∧ ∃ A, v = .slice A 0 c) ∨ (xs ≠ [] ∧ ∃ b o : Nat, v = .slice (some ⟨b, o, none⟩) xs.length c ∧ ∀ k, k < xs.length → w.cell? ⟨b, o + k * 2, none⟩ = some (.int .i64 (xs.getD k (0, 0)).1) ∧ w.cell? ⟨b, o + k * 2 + 1, none⟩ = some (.int .i64 (xs.getD k (0, 0)).2))

theorem own_keeps {S : Nat → Prop} {w w' : World} {base : Nat} {e : TypeId} {size n : Nat} {v : Value} {xs : List Value} (h : w.ownsRow base e size v n xs) (hk : Keeps S w w') (hs : ∀ i, base ≤ i → ¬ S i) : w'.ownsRow base e size v n xs := by
  obtain ⟨h1, h2⟩ := h
  refine ⟨h1, ?_⟩
  rcases h2 with h2 | ⟨g, cap, cur, hv, hg, hh, r⟩
  · exact .inl h2
  · exact .inr ⟨g, cap, cur, hv, hg, (hk.block g (heap_lt hh) (hs g hg)).trans hh, r⟩
theorem own_below' {w w' : World} {base : Nat} {e : TypeId} {size n : Nat} {v : Value} {xs : List Value} (h : w.ownsRow base e size v n xs) (hb : Below w.heap.size w w') : w'.ownsRow base e size v n xs :=
  own_keeps (S := fun _ => False) h (.of_below hb) (fun _ _ h => h)
theorem own_lower' {w : World} {base base' : Nat} {e : TypeId} {size n : Nat} {v : Value} {xs : List Value} (h : w.ownsRow base e size v n xs) (hb : base' ≤ base) : w.ownsRow base' e size v n xs := by
  obtain ⟨h1, h2⟩ := h
  refine ⟨h1, ?_⟩
  rcases h2 with h2 | ⟨g, cap, cur, hv, hg, hh, r⟩
  · exact .inl h2
  · exact .inr ⟨g, cap, cur, hv, Nat.le_trans hb hg, hh, r⟩
/-- what is kept over an operation of the round, B the heap's size at the begin -/
structure Kept (w wr : World) (v : Value) (k : Nat) (xs : List Value) (r : Rd) : Prop where
  st : IsRef wr w.heap.size (w.heap.size + 1) (w.heap.size + 1 + 1) (w.heap.size + 1 + 1 + 1) (w.heap.size + 1 + 1 + 1 + 1 + 1) r
  own : wr.ownsRow (w.heap.size + 6) 9 1 v k xs
  old : Below w.heap.size w wr
  big : w.heap.size + 6 ≤ wr.heap.size
theorem Kept.below {w wr w' : World} {v : Value} {k : Nat} {xs : List Value} {r : Rd} (h : Kept w wr v k xs r) (hb : Below wr.heap.size wr w') : Kept w w' v k xs r :=
  ⟨h.st.keep hb, own_below' h.own hb, h.old.trans (hb.mono (by have := h.big; omega)), Nat.le_trans h.big hb.size⟩
theorem Kept.keeps {w wr w' : World} {v : Value} {k : Nat} {xs : List Value} {r r' : Rd} (h : Kept w wr v k xs r) (hk : Keeps (Mine (w.heap.size + 1 + 1) (w.heap.size + 1 + 1 + 1)) wr w') (hs : IsRef w' w.heap.size (w.heap.size + 1) (w.heap.size + 1 + 1) (w.heap.size + 1 + 1 + 1) (w.heap.size + 1 + 1 + 1 + 1 + 1) r') : Kept w w' v k xs r' :=
  ⟨hs, own_keeps h.own hk (fun i hi hm => by rcases hm with hm | hm <;> omega), h.old.trans (hk.below (by have := h.big; omega) (fun i hi hm => by rcases hm with hm | hm <;> omega)), Nat.le_trans h.big hk.size⟩
theorem Rd.op0 (r : Rd) (n : Int) : r.op 0 n = r.take n false := rfl
theorem Rd.op1 (r : Rd) (n : Int) : r.op 1 n = (itoaB (Rd.beNum (r.take n true).1.data.toList), (r.take n true).2) := rfl
theorem Rd.op2 (r : Rd) (n : Int) : r.op 2 n = (boolB r.zeros.1, r.zeros.2) := rfl
theorem Rd.op3 (r : Rd) (n : Int) : r.op 3 n = (itoaB r.place ++ blank ++ itoaB (r.take n false).1.size ++ blank ++ (r.take n false).1 ++ blank ++ itoaB ((r.take n false).2.err.elim 0 (·.1)), (r.take n false).2) := rfl
theorem Rd.take_size {r : Rd} (h : r.ok) (n : Int) (b : Bool) : (r.take n b).1.size ≤ 1099511627776 := by
  unfold Rd.take
  split
  · exact Rd.bytes_size (Rd.numPre_ok h n) n
  · exact Rd.bytes_size h n
/-- a fold of bytes stays an int -/
theorem bits_range (x y : Int) : -9223372036854775808 ≤ bits .or .i64 x y ∧ bits .or .i64 x y ≤ 9223372036854775807 := by
  show -9223372036854775808 ≤ IntKind.i64.wrap _ ∧ IntKind.i64.wrap _ ≤ 9223372036854775807
  rw [IntKind.wrap_i64]
  omega
theorem beNum_range (l : List UInt8) : -9223372036854775808 ≤ Rd.beNum l ∧ Rd.beNum l ≤ 9223372036854775807 := by
  rcases List.eq_nil_or_concat l with rfl | ⟨l', c, rfl⟩
  · exact ⟨by decide, by decide⟩
  · have : Rd.beNum (l'.concat c) = Rd.step (Rd.beNum l') c := by rw [List.concat_eq_append]; unfold Rd.beNum; rw [List.foldl_append]; rfl
    rw [this]
    exact bits_range _ _
theorem Rd.op4 (r : Rd) (n : Int) : r.op 4 n = (⟨#[]⟩, r.fail 6 n) := rfl
theorem Rd.op_else (r : Rd) {a : Int} (n : Int) (h : a < 0 ∨ 4 < a) : r.op a n = (⟨#[]⟩, r) := by
  unfold Rd.op
  rw [if_neg (by omega), if_neg (by omega), if_neg (by omega), if_neg (by omega), if_neg (by omega)]

/-- the number in a block's first cell (for a loop's measure) -/
def placeOf (w : World) (g : Nat) : Nat := match w.cell? ⟨g, 0, none⟩ with | some (.int _ n) => n.toNat | _ => 0
theorem placeOf_of {w : World} {g k : Nat} (h : w.cell? ⟨g, 0, none⟩ = some (.int .i64 (k : Int))) : placeOf w g = k := by unfold placeOf; rw [h]; simp

theorem errno_range {w : World} {S O N T F : Nat} {r : Rd} (h : IsRef w S O N T F r) : -9223372036854775808 ≤ r.err.elim 0 (·.1) ∧ r.err.elim 0 (·.1) ≤ 9223372036854775807 := by
  cases he : r.err with
  | none => exact ⟨by decide, by decide⟩
  | some x =>
    obtain ⟨e, p⟩ := x
    have := h.nz e p he
    simp only [Option.elim]
    omega
theorem bar_size : (⟨#[124]⟩ : ByteArray).size = 1 := rfl
theorem sp_size : (⟨#[32]⟩ : ByteArray).size = 1 := rfl
/-- a sum of two strings, under a name of its own -/
theorem cat_named (a b : ByteArray) (h : a.size + b.size ≤ 9223372036854775807) : ∃ y, a ++ b = y ∧ y.size = a.size + b.size ∧ ∀ W, (Op.stringOp .add a b).run Tryd.prog W = .ok (.string y) W :=
  ⟨a ++ b, rfl, by simp [ByteArray.size_append], fun W => run_string_add_sum W a b h⟩
theorem sk_step {w w1 w2 : World} {v : Value} {k : Nat} {xs : List Value} {r : Rd} {q : Int} (h1 : w1.cell? ⟨w.heap.size + 1 + 1, 0, none⟩ = some (.int .i64 q)) (h2 : Hid (Kept w w1 v k xs r)) (hb : Below w1.heap.size w1 w2) :
    w2.cell? ⟨w.heap.size + 1 + 1, 0, none⟩ = some (.int .i64 q) ∧ Hid (Kept w w2 v k xs r) :=
  ⟨(hb.cell (p := ⟨w.heap.size + 1 + 1, 0, none⟩) (by have := h2.out.big; show w.heap.size + 1 + 1 < _; omega)).trans h1, Lib.hid (h2.out.below hb)⟩

def ErrIn (r : Rd) : Prop := ∀ e p, r.err = some (e, p) → 0 < e ∧ e ≤ 100
theorem ErrIn.range {r : Rd} (h : ErrIn r) : 0 ≤ r.err.elim 0 (·.1) ∧ r.err.elim 0 (·.1) ≤ 100 := by
  cases he : r.err with
  | none => exact ⟨by decide, by decide⟩
  | some x =>
    obtain ⟨e, p⟩ := x
    have := h e p he
    simp only [Option.elim]
    omega
theorem ErrIn.fail {r : Rd} (h : ErrIn r) (e p : Int) (he : 0 < e ∧ e ≤ 100) : ErrIn (r.fail e p) := by
  unfold Rd.fail
  split
  · intro e' p' h'; simp only [Option.some.injEq, Prod.mk.injEq] at h'; omega
  · exact h
theorem ErrIn.bytes {r : Rd} (h : ErrIn r) (n : Int) : ErrIn (r.bytes n).2 := by
  unfold Rd.bytes
  split
  · exact h
  · split
    · exact h.fail _ _ (by decide)
    · split
      · exact h.fail _ _ (by decide)
      · exact h
theorem ErrIn.take {r : Rd} (h : ErrIn r) (n : Int) (b : Bool) : ErrIn (r.take n b).2 := by
  unfold Rd.take
  split
  · refine ErrIn.bytes ?_ n
    unfold Rd.numPre
    split
    · exact h.fail _ _ (by decide)
    · exact h
  · exact h.bytes n
theorem Rd.op_size {r : Rd} (h : r.ok) (he : ErrIn r) (a n : Int) : (r.op a n).1.size ≤ 1099511627900 := by
  have h0 := Rd.take_size h n false
  obtain ⟨e0, e1⟩ := (he.take n false).range
  unfold Rd.ok at h
  unfold Rd.op
  split
  · first | omega | (simp only; omega)
  · split
    · have := itoaB_size (beNum_range (r.take n true).1.data.toList).1 (beNum_range (r.take n true).1.data.toList).2
      first | omega | (simp only; omega)
    · split
      · have := boolB_size r.zeros.1
        first | omega | (simp only; omega)
      · split
        · have z1 := itoaB_size (n := r.place) (by unfold Rd.place; omega) (by unfold Rd.place; omega)
          have z2 := itoaB_size (n := ((r.take n false).1.size : Int)) (by omega) (by omega)
          have z3 := itoaB_size (n := (r.take n false).2.err.elim 0 (·.1)) (by omega) (by omega)
          have hb : blank.size = 1 := rfl
          simp only [ByteArray.size_append, hb]
          omega
        · split
          · show 0 ≤ _; omega
          · show 0 ≤ _; omega
theorem str_info : ∃ i, (Tryd.prog).info? 9 = some i ∧ i.zero = some (.string ⟨#[]⟩) ∧ i.size = 1 ∧ i.bytes = 16 := info_parts (by kernel_rfl)
theorem own_far {w : World} {base : Nat} {e : TypeId} {size n : Nat} {v : Value} {xs : List Value} (h : w.ownsRow base e size v n xs) {i : Nat} (hi : i < base) : some i ≠ v.ownBlock := by
  rcases h.2 with ⟨rfl, _⟩ | ⟨g, cap, cur, rfl, hg, _⟩
  · simp [Value.ownBlock]
  · simp only [Value.ownBlock, ne_eq, Option.some.injEq]; omega
theorem Kept.push {w wr w1 : World} {v v1 : Value} {k : Nat} {xs ys : List Value} {r : Rd} (h : Kept w wr v k xs r) (hown : w1.ownsRow (w.heap.size + 6) 9 1 v1 (k + 1) ys) (hg : wr.grownBy w1 v.ownBlock) : Kept w w1 v1 (k + 1) ys r := by
  have hb := h.big
  have hk : Below (w.heap.size + 6) wr w1 := ⟨hg.os, hg.tape, hg.output, hg.size, fun i hi => hg.block i (by omega) (own_far h.own hi)⟩
  obtain ⟨a1, a2, a3, a4, a5, a6, a7, a8⟩ := h.st
  exact ⟨⟨a1, a2, a3, (hk.block _ (by omega)).trans a4, (hk.block _ (by omega)).trans a5, (hk.block _ (by omega)).trans a6, (hk.block _ (by omega)).trans a7, (hk.block _ (by omega)).trans a8⟩, hown, h.old.trans (hk.mono (by omega)), Nat.le_trans hb hg.size⟩
theorem rest_of {w w1 : World} {v : Value} {k : Nat} {xs : List Value} {r : Rd} (h : Kept w w1 v k xs r) : w1.cell? ⟨w.heap.size, 0, none⟩ = some (.string r.s) ∧ w1.cell? ⟨w.heap.size + 1, 0, none⟩ = some (.int .i64 r.off) ∧ w1.cell? ⟨w.heap.size + 1 + 1 + 1, 0, none⟩ = some (.int .i64 r.at_) := by
  obtain ⟨d0, d1, _, _, d4, _, _, _, _⟩ := h.st.cells
  exact ⟨d0, d1, d4⟩

theorem reads_end {w wr w' : World} {v : Value} {k : Nat} {xs : List Value} {r : Rd} (h : Kept w wr v k xs r) (hk : Keeps (Mine (w.heap.size + 1 + 1) (w.heap.size + 1 + 1 + 1)) wr w') :
    w'.ownsRow w.heap.size 9 1 v k xs ∧ Below w.heap.size w w' :=
  ⟨own_lower' (own_keeps h.own hk (fun i hi hm => by rcases hm with hm | hm <;> omega)) (by omega), h.old.trans (hk.below (by have := h.big; omega) (fun i hi hm => by rcases hm with hm | hm <;> omega))⟩

theorem good_any (w : World) : Calls Tryd.prog 52 #[] w fun e w' => e = .returned (.agg #[.int .i64 0, .int .i64 (-1)]) ∧ w' = w.alloc (.cells #[.int .i64 0, .int .i64 (-1)] 33) := by
  go_enter Tryd.func52, Tryd.ntmps52
  go_wp2
  exact bodyPost_ret (v := .agg #[.int .i64 0, .int .i64 (-1)]) (by simp [results, Tryd.results52, go_sem]) rfl ⟨rfl, rfl⟩

/-- the state as Reads lays it -/
theorem ref_start (w : World) (s : ByteArray) (off : Int) (hs : s.size ≤ 100) (h0 : 0 ≤ off) (h1 : off ≤ 1099511627776) :
    IsRef ((((((w.alloc (.cells #[.string s] 9)).alloc (.cells #[.int .i64 off] 3)).alloc (.cells #[.int .i64 0, .int .i64 (-1)] 33)).alloc (.cells #[.int .i64 0] 3)).alloc (.cells #[.int .i64 0, .int .i64 (-1)] 33)).alloc
      (.cells #[.func (Fn.func 95) #[] #[.pointer (some ⟨w.heap.size + 1 + 1, 0, none⟩)]] 116)) w.heap.size (w.heap.size + 1) (w.heap.size + 1 + 1) (w.heap.size + 1 + 1 + 1) (w.heap.size + 1 + 1 + 1 + 1 + 1) ⟨s, 0, off, none⟩ := by
  refine ⟨⟨Nat.zero_le _, by simp only; omega, h0, by simp only; omega⟩, by omega, (fun e p h => by cases h), ?_, ?_, ?_, ?_, ?_⟩
  all_goals simp only [World.alloc, Array.getElem?_push, Array.size_push]
  all_goals (repeat (first | rw [if_pos (by omega)] | rw [if_neg (by omega)]))
  all_goals rfl

set_option maxRecDepth 100000 in
set_option maxHeartbeats 8000000 in
theorem reads_some (s : ByteArray) (off : Int) (b o c : Nat) (l : List (Int × Int)) (w : World) (hs : s.size ≤ 100) (h0 : 0 ≤ off) (h1 : off ≤ 1099511627776) (hl : l.length ≤ 30)
    (hc : ∀ k, k < l.length → w.cell? ⟨b, o + k * 2, none⟩ = some (.int .i64 (l.getD k (0, 0)).1) ∧ w.cell? ⟨b, o + k * 2 + 1, none⟩ = some (.int .i64 (l.getD k (0, 0)).2)) (hg : Glob w) :
    Calls Tryd.prog 33 #[.string s, .int .i64 off, .slice (some ⟨b, o, none⟩) l.length c] w fun e w' => ∃ v r, r = Rd.run ⟨s, 0, off, none⟩ l ∧ e = .returned (.tuple #[v, .agg #[.int .i64 (r.err.elim 0 (·.1)), .int .i64 (r.err.elim (-1) (·.2))]]) ∧
      w'.ownsRow w.heap.size 9 1 v l.length ((Rd.lines ⟨s, 0, off, none⟩ l).map Value.string) ∧ Below w.heap.size w w' := by
  have hmf : ∀ (fn : Fn) (first cap : Array Value) (w : World), (Instr.makeFunc fn first cap).run Tryd.prog w = .ok (.func fn first cap) w := fun _ _ _ _ => rfl
  have HC := Lib.hid hc
  have HG := Lib.hid hg
  have HS := Lib.hid (ref_start w s off hs h0 h1)
  clear hc hg
  go_enter Tryd.func33, Tryd.ntmps33
  go_wp2_with (first | (go_at_call 52; refine (good_any _).mono ?_; rintro e w' ⟨rfl, rfl⟩))
  go_loopw [6, 24] (fun v i wr => ∃ k : Nat, k ≤ l.length ∧ i = .int .i64 k ∧ Kept w wr v k (((Rd.lines ⟨s, 0, off, none⟩ l).take k).map Value.string) (Rd.run ⟨s, 0, off, none⟩ (l.take k))) (fun _ i _ => l.length - (intOf i).toNat)
  case atStart => exact ⟨0, Nat.zero_le _, rfl, HS.out, World.ownsRow_nil _ _ _ _, (((((((Below.refl _ w).alloc (by simp) _).alloc (by simp; try omega) _).alloc (by simp; try omega) _).alloc (by simp; try omega) _).alloc (by simp; try omega) _).alloc (by simp; try omega) _), by simp⟩
  case round =>
    obtain ⟨k, hk, rfl, hK⟩ := hrel
    have HK := Lib.hid hK
    clear hK
    by_cases hlt : k < l.length
    · obtain ⟨e0, e1⟩ := HC.out k hlt
      have hbb : b < w.heap.size := World.block_lt_of_cell? w _ e0
      have c0 := (HK.out.old.cell (p := ⟨b, o + k * 2, none⟩) hbb).trans e0
      have c1 := (HK.out.old.cell (p := ⟨b, o + k * 2 + 1, none⟩) hbb).trans e1
      have HR := Lib.hid (Rd.run_snoc l ⟨s, 0, off, none⟩ k hlt)
      have HL := Lib.hid (Rd.lines_snoc l ⟨s, 0, off, none⟩ k hlt)
      clear e0 e1
      generalize (l.getD k (0, 0)).1 = a at *
      generalize (l.getD k (0, 0)).2 = n at *
      generalize Rd.run ⟨s, 0, off, none⟩ (l.take k) = r at *
      go_upto_block 2 with fail
      go_cut [13] (fun got wx => got = .string (r.op a n).1 ∧ Hid (Kept w wx u6 k (((Rd.lines ⟨s, 0, off, none⟩ l).take k).map Value.string) (r.op a n).2))
      case first =>
        have hbx : Below wr.heap.size wr (wr.alloc (.cells #[.int .i64 a, .int .i64 n] 107)) := (Below.refl _ _).alloc (Nat.le_refl _) _
        have HX := Lib.hid (HK.out.below hbx)
        clear hbx
        by_cases h0 : a = 0
        · subst h0
          go_wp2_with (first
            | (go_at_call 96; refine (take_any _ _ _ _ _ n false _ r HX.out.st).mono ?_; rintro ev w2 ⟨rfl, h2, h3⟩; have H2 := Lib.hid h2; have H3 := Lib.hid h3; clear h2 h3))
          go_meet
          exact ⟨rfl, Lib.hid (HX.out.keeps H3.out H2.out)⟩
        · by_cases h4 : a = 4
          · subst h4
            obtain ⟨_, _, _, _, _, d5, _, _, _⟩ := HX.out.st.cells
            go_wp2_with (first
              | (go_at_call 95; refine (note_any _ _ _ _ _ 6 n _ r HX.out.st (by decide)).mono ?_; rintro ev w2 ⟨rfl, h2, h3⟩; have H2 := Lib.hid h2; have H3 := Lib.hid h3; clear h2 h3))
            go_meet
            exact ⟨rfl, Lib.hid (HX.out.keeps H3.out H2.out)⟩
          · by_cases h1 : a = 1
            · subst h1
              have hsz := Rd.take_size HX.out.st.ok n true
              have kb := fun (s : ByteArray) (W : World) => Lib.run_convert_string_bytes (P := Tryd.prog) W 9 150 5 s Tryd.underlying9 Tryd.underlying150 Tryd.underlying5
              have HOP := Lib.hid (Rd.op1 r n)
              go_wp2_with (first
                | (go_at_call 96; refine (take_any _ _ _ _ _ n true _ r HX.out.st).mono ?_; generalize hbq : (r.take n true).1 = bt at hsz; have HBQ := Lib.hid hbq; clear hbq; rintro ev w2 ⟨rfl, h2, h3⟩; have H2 := Lib.hid (HX.out.keeps h3 h2); clear h2 h3))
              have hW : Below w2.heap.size w2 (Lib.bytesWorld w2 5 bt) := ⟨rfl, rfl, rfl, by rw [Lib.bytesWorld_size]; omega, fun k hk => Lib.bytesWorld_at_old w2 5 bt k hk⟩
              have hC : ∀ (k : Nat) (hk : k < bt.size), (Lib.bytesWorld w2 5 bt).cell? ⟨w2.heap.size, k, none⟩ = some (.int .u8 (bt[k].toNat : Int)) := fun k hk => by
                rw [Lib.bytesWorld_cell w2 5 bt k hk]
                have h' : k < bt.data.toList.length := by rw [toList_length]; exact hk
                simp [List.getD_eq_getElem?_getD, List.getElem?_eq_getElem h']
                rfl
              generalize Lib.bytesWorld w2 5 bt = W at *
              have HW := Lib.hid hW
              have HCB := Lib.hid hC
              clear hW hC kb
              go_loop [14, 44] (fun x i => ∃ j : Nat, j ≤ bt.size ∧ i = .int .i64 j ∧ x = .int .i64 (Rd.beNum (bt.data.toList.take j))) (fun _ i => bt.size - (intOf i).toNat)
              case atStart => exact ⟨0, Nat.zero_le _, rfl, rfl⟩
              case round =>
                obtain ⟨j, hj, rfl, rfl⟩ := hrel
                by_cases hlj : j < bt.size
                · have hcj := HCB.out j hlj
                  have HSJ := Lib.hid (beNum_snoc bt j hlj)
                  have hbd : 0 ≤ ((bt[j]).toNat : Int) ∧ ((bt[j]).toNat : Int) ≤ 255 := ⟨by omega, by have := (bt[j]).toNat_lt; omega⟩
                  generalize Rd.beNum (bt.data.toList.take j) = x at *
                  go_wp2_with fail
                  go_round
                  case rel => exact ⟨j + 1, by omega, by go_num, by rw [HSJ.out]; rfl⟩
                  case measure => simp [intOf]; omega
                · have hkb : bt.data.toList.take j = bt.data.toList := List.take_of_length_le (by rw [toList_length]; omega)
                  rw [hkb]
                  obtain ⟨n0, n1⟩ := beNum_range bt.data.toList
                  have HKB := Lib.hid HBQ.out
                  clear hkb
                  generalize hq : Rd.beNum bt.data.toList = q at *
                  have HQ := Lib.hid hq
                  clear hq
                  go_wp2_with (first
                    | (go_at_call 35; refine (itoa_any q n0 n1 _ (HG.out.below (H2.out.old.trans (HW.out.mono (by have := H2.out.big; omega)))).pow).mono ?_; rintro ev w3 ⟨rfl, hb3⟩; have HB3 := Lib.hid hb3; clear hb3))
                  go_meet
                  rw [HOP.out, HBQ.out, HQ.out]
                  exact ⟨rfl, Lib.hid ((H2.out.below HW.out).below HB3.out)⟩
            · by_cases h2 : a = 2
              · subst h2
                have HOP := Lib.hid (Rd.op2 r n)
                obtain ⟨s', a0, off', er⟩ := r
                cases er with
                | some x =>
                  obtain ⟨e0, p0⟩ := x
                  have hz : (e0 == 0) = false := by have := HX.out.st.nz e0 p0 rfl; simp; omega
                  obtain ⟨_, _, d2, d3, _, _, _, _, _⟩ := HX.out.st.cells
                  simp only [Option.elim] at d2 d3
                  go_wp2_with fail
                  refine wp_loop_rounds 1 ?_
                  rw [rounds_succ]
                  go_wp2_with (first
                    | (go_at_call 81; refine (is_any _ _ _).mono ?_; rintro ev w2 ⟨rfl, hb2⟩; have H2 := Lib.hid (HX.out.below hb2); clear hb2 d2 d3; obtain ⟨_, _, d2, d3, _, _, _, _, _⟩ := H2.out.st.cells; simp only [Option.elim] at d2 d3)
                    | (go_at_call 81; refine (is_any _ _ _).mono ?_; rintro ev w3 ⟨rfl, hb3⟩; have H3 := Lib.hid (H2.out.below hb3); clear hb3)
                    | (go_at_call 37; refine (boolB_any _ _).mono ?_; rintro ev w4 ⟨rfl, rfl⟩))
                  go_meet
                  rw [HOP.out, Rd.zeros_some rfl]
                  exact ⟨rfl, H3⟩
                | none =>
                  obtain ⟨o1, o2, o3, o4⟩ := HX.out.st.ok
                  simp only at o1 o2 o3 o4
                  go_wp2_with fail
                  go_loopw [] (fun wx => ∃ j : Nat, j ≤ s'.size ∧ Hid (j + Rd.noughts (s'.data.toList.drop j) = a0 + Rd.noughts (s'.data.toList.drop a0)) ∧ Hid (Kept w wx u6 k (((Rd.lines ⟨s, 0, off, none⟩ l).take k).map Value.string) ⟨s', j, off', none⟩)) (fun wx => s'.size - placeOf wx (w.heap.size + 1 + 1 + 1))
                  case atStart => exact ⟨a0, o1, Lib.hid rfl, HX⟩
                  case round =>
                    obtain ⟨j, hj, HJ, HI⟩ := hrel
                    obtain ⟨d0, d1, d2, d3, d4, d5, _, _, f4⟩ := HI.out.st.cells
                    simp only [Option.elim] at d2 d3
                    simp only at d0 d1 d4
                    have HA := Lib.hid (placeOf_of d4)
                    by_cases hlj : j < s'.size
                    · by_cases hcz : s'[j] = 0
                      · have hz : ((s'[j]).toNat : Int) ≤ 0 := by rw [hcz]; decide
                        go_wp2_with (first
                          | (go_at_call 81; refine (is_any _ _ _).mono ?_; rintro ev w2 ⟨rfl, hb2⟩; have H2 := Lib.hid (HI.out.below hb2); clear hb2 d0 d1 d2 d3 d4 d5 f4; obtain ⟨d0, d1, d2, d3, d4, d5, _, _, f4⟩ := H2.out.st.cells; simp only [Option.elim] at d2 d3; simp only at d0 d1 d4))
                        have HI2 := H2.out.st.moved (j + 1) hlj ((j : Int) + 1) (by simp)
                        go_roundw
                        case rel =>
                          refine ⟨j + 1, hlj, Lib.hid ?_, Lib.hid (H2.out.keeps (Keeps.set _ (.inr rfl) 0 _) HI2)⟩
                          have h1 := HJ.out
                          rw [Rd.noughts_at _ _ hlj, if_pos hcz] at h1
                          omega
                        case measure =>
                          obtain ⟨_, _, _, _, g4, _, _, _, _⟩ := HI2.cells
                          have h2 := placeOf_of g4
                          have h4 := HA.out
                          simp only at h2
                          rw [h2, h4]
                          omega
                      · have hz : 0 < ((s'[j]).toNat : Int) := by
                          have : (s'[j]).toNat ≠ 0 := fun h => hcz (UInt8.toNat_inj.1 h)
                          omega
                        go_wp2_with (first
                          | (go_at_call 81; refine (is_any _ _ _).mono ?_; rintro ev w2 ⟨rfl, hb2⟩; have H2 := Lib.hid (HI.out.below hb2); clear hb2 d0 d1 d2 d3 d4 d5 f4; obtain ⟨d0, d1, d2, d3, d4, d5, _, _, f4⟩ := H2.out.st.cells; simp only [Option.elim] at d2 d3; simp only at d0 d1 d4)
                          | (go_at_call 95; refine (note_any _ _ _ _ _ 15 _ _ _ H2.out.st (by decide)).mono ?_; rintro ev w3 ⟨rfl, h2, h3⟩; have H3 := Lib.hid (H2.out.keeps h3 h2); clear h2 h3 d0 d1 d2 d3 d4 d5 f4; obtain ⟨_, _, d2, d3, _, _, _, _, _⟩ := H3.out.st.cells; simp only [Rd.fail, Option.elim] at d2 d3)
                          | (go_at_call 81; refine (is_any _ _ _).mono ?_; rintro ev w4 ⟨rfl, hb4⟩; have H4 := Lib.hid (H3.out.below hb4); clear hb4)
                          | (go_at_call 37; refine (boolB_any _ _).mono ?_; rintro ev w5 ⟨rfl, rfl⟩))
                        go_meet
                        rw [HOP.out, Rd.zeros_bad (r := ⟨s', a0, off', none⟩) rfl HJ.out hlj hcz]
                        exact ⟨rfl, H4⟩
                    · go_wp2_with (first
                          | (go_at_call 81; refine (is_any _ _ _).mono ?_; rintro ev w2 ⟨rfl, hb2⟩; have H2 := Lib.hid (HI.out.below hb2); clear hb2 d0 d1 d2 d3 d4 d5 f4; obtain ⟨d0, d1, d2, d3, d4, d5, _, _, f4⟩ := H2.out.st.cells; simp only [Option.elim] at d2 d3; simp only at d0 d1 d4)
                          | (go_at_call 81; refine (is_any _ _ _).mono ?_; rintro ev w3 ⟨rfl, hb3⟩; have H3 := Lib.hid (H2.out.below hb3); clear hb3)
                          | (go_at_call 37; refine (boolB_any _ _).mono ?_; rintro ev w5 ⟨rfl, rfl⟩))
                      go_meet
                      rw [HOP.out, Rd.zeros_good (r := ⟨s', a0, off', none⟩) rfl HJ.out (by simp only; omega)]
                      exact ⟨rfl, H3⟩
              · by_cases h3 : a = 3
                · subst h3
                  have HOP := Lib.hid (Rd.op3 r n)
                  obtain ⟨o1, o2, o3, o4⟩ := HX.out.st.ok
                  have hsz := Rd.take_size HX.out.st.ok n false
                  obtain ⟨_, d1, _, _, d4, _, _, _, _⟩ := HX.out.st.cells
                  have HPL := Lib.hid (show r.place = r.off + r.at_ from rfl)
                  go_wp2_with (first
                    | (go_at_call 96; refine (take_any _ _ _ _ _ n false _ r HX.out.st).mono ?_; generalize hbq : (r.take n false).1 = bt at hsz; have HBQ := Lib.hid hbq; clear hbq; generalize hr3 : (r.take n false).2 = r3; have HR3 := Lib.hid hr3; clear hr3; rintro ev w2 ⟨rfl, h2, h3⟩; have H2 := Lib.hid (HX.out.keeps h3 h2); clear h2 h3))
                  obtain ⟨_, _, e2, _, _, _, _, _, _⟩ := H2.out.st.cells
                  obtain ⟨q0, q1⟩ := errno_range H2.out.st
                  generalize hq : r3.err.elim 0 (·.1) = q at *
                  have HQ := Lib.hid hq
                  clear hq
                  have z1 := itoaB_size (n := r.off + (r.at_ : Int)) (by omega) (by omega)
                  have z2 := itoaB_size (n := (bt.size : Int)) (by omega) (by omega)
                  have z3 := itoaB_size q0 q1
                  obtain ⟨s1, hs1, g1, k1⟩ := cat_named (itoaB (r.off + (r.at_ : Int))) ⟨#[32]⟩ (by rw [sp_size]; omega)
                  obtain ⟨s2, hs2, g2, k2⟩ := cat_named s1 (itoaB (bt.size : Int)) (by rw [sp_size] at g1; omega)
                  obtain ⟨s3, hs3, g3, k3⟩ := cat_named s2 ⟨#[32]⟩ (by rw [sp_size] at g1 ⊢; omega)
                  obtain ⟨s4, hs4, g4, k4⟩ := cat_named s3 bt (by rw [sp_size] at g1 g3; omega)
                  obtain ⟨s5, hs5, g5, k5⟩ := cat_named s4 ⟨#[32]⟩ (by rw [sp_size] at g1 g3 ⊢; omega)
                  obtain ⟨s6, hs6, g6, k6⟩ := cat_named s5 (itoaB q) (by rw [sp_size] at g1 g3 g5; omega)
                  have HCAT := Lib.hid (show itoaB (r.off + (r.at_ : Int)) ++ blank ++ itoaB bt.size ++ blank ++ bt ++ blank ++ itoaB q = s6 by unfold blank; rw [hs1, hs2, hs3, hs4, hs5, hs6])
                  clear g1 g2 g3 g4 g5 g6
                  go_region_held3 (fun w' => w'.cell? ⟨w.heap.size + 1 + 1, 0, none⟩ = some (.int .i64 q) ∧ Hid (Kept w w' u6 k (((Rd.lines ⟨s, 0, off, none⟩ l).take k).map Value.string) r3))
                    (first
                      | (apply sk_step (hb := (Below.refl _ _).drew) <;> assumption)
                      | (go_split_ands; apply sk_step (hb := by assumption) <;> assumption)
                      | go_keep)
                    (first | (go_at_call 35; go_split_ands; refine (itoa_any _ (by omega) (by omega) _ (HG.out.below (Hid.out (p := Kept w _ _ _ _ _) (by assumption)).old).pow).mono ?_; rintro ev wi ⟨rfl, hbi⟩))
                  go_wp2_with fail
                  go_meet
                  go_split_ands
                  rw [HOP.out, HR3.out, HBQ.out, HPL.out, HQ.out, HCAT.out]
                  exact ⟨rfl, by assumption⟩
                · have he := Lib.hid (Rd.op_else r (a := a) n (by omega))
                  go_wp2_with fail
                  go_meet
                  rw [he.out]
                  exact ⟨rfl, HX⟩
      case rest =>
        have HOS := Lib.hid (Rd.op_size HK.out.st.ok HK.out.st.nz a n)
        obtain ⟨rfl, H1⟩ := hcut
        generalize (r.op a n).1 = gb at *
        generalize (r.op a n).2 = r2 at *
        have hgs := HOS.out
        obtain ⟨o1, o2, o3, o4⟩ := H1.out.st.ok
        have HPL := Lib.hid (show r2.place = r2.off + r2.at_ from rfl)
        have z1 := itoaB_size (n := (r2.s.size : Int) - (r2.at_ : Int)) (by omega) (by omega)
        have z2 := itoaB_size (n := r2.off + (r2.at_ : Int)) (by omega) (by omega)
        obtain ⟨s1, hs1, g1, k1⟩ := cat_named gb ⟨#[124]⟩ (by rw [bar_size]; omega)
        obtain ⟨s2, hs2, g2, k2⟩ := cat_named s1 (itoaB ((r2.s.size : Int) - (r2.at_ : Int))) (by rw [bar_size] at g1; omega)
        obtain ⟨s3, hs3, g3, k3⟩ := cat_named s2 ⟨#[32]⟩ (by rw [bar_size] at g1; rw [sp_size]; omega)
        obtain ⟨s4, hs4, g4, k4⟩ := cat_named s3 (itoaB (r2.off + (r2.at_ : Int))) (by rw [bar_size] at g1; rw [sp_size] at g3; omega)
        have HCAT := Lib.hid (show Rd.line gb r2 = s4 by unfold Rd.line bar blank; rw [HPL.out, hs1, hs2, hs3, hs4])
        clear g1 g2 g3 g4
        obtain ⟨d0, d1, d4⟩ := rest_of H1.out
        have HD := Lib.hid (H1.out.below ((Below.refl _ _).drew))
        obtain ⟨i0, hi0, hz0, hz1, hz2⟩ := str_info
        have hw1 : IntKind.i64.wrap ((r2.s.size : Int) - (r2.at_ : Int)) = (r2.s.size : Int) - (r2.at_ : Int) := by rw [IntKind.wrap_i64]; omega
        have hw2 : IntKind.i64.wrap (r2.off + (r2.at_ : Int)) = r2.off + (r2.at_ : Int) := by rw [IntKind.wrap_i64]; omega
        have hmx : k + 1 ≤ maxLen := by show k + 1 ≤ 9223372036854775807; omega
        go_wp2_with fail
        go_region_held3 (fun w' => w'.cell? ⟨w.heap.size, 0, none⟩ = some (.string r2.s) ∧ w'.cell? ⟨w.heap.size + 1, 0, none⟩ = some (.int .i64 r2.off) ∧ w'.cell? ⟨w.heap.size + 1 + 1 + 1, 0, none⟩ = some (.int .i64 r2.at_))
          (first
            | (exact rest_of (Hid.out (by assumption)))
            | (exact rest_of (Kept.below (Hid.out (by assumption)) ((Below.refl _ _).alloc (Nat.le_refl _) _))))
          (first
            | (go_at_call 35; refine (itoa_any _ (by omega) (by omega) _ (HG.out.below (Hid.out (p := Kept w _ _ _ _ _) (by assumption)).old).pow).mono ?_; rintro ev wi ⟨rfl, hbi⟩; have HKi := Lib.hid (Kept.below (Hid.out (by assumption)) hbi))
            | (refine step_append_lies _ (by rfl) _ _ _ (by rfl) (w.heap.size + 6) 9 i0 _ 1 16 Tryd.underlying66 hi0 hz0 hz1 hz2 rfl (by omega) u6 k _ (by rfl) (show Kept w _ u6 k _ r2 from Kept.below (Hid.out (by assumption)) ((Below.refl _ _).alloc (Nat.le_refl _) _)).own ⟨_, 0, none⟩ 1 1 [.string s4] (by rfl) (by rfl) (World.news_of_block (cs := #[.string s4]) (t := 9) (fr := (0, 0)) (heap_alloc_new _ _)) (by simp [Value.oneCell']) (by omega) hmx (by omega) (show Kept w _ u6 k _ r2 from Kept.below (Hid.out (by assumption)) ((Below.refl _ _).alloc (Nat.le_refl _) _)).big _ rfl ?_; intro gg cap w1 hown1 hgrow hat hlt; have HP := Lib.hid (Kept.push (Kept.below (Hid.out (by assumption)) ((Below.refl _ _).alloc (Nat.le_refl _) _)) hown1 hgrow)))
        clear hown1 hgrow
        go_wp2_with fail
        go_roundw
        case rel =>
          refine ⟨k + 1, by omega, by go_num, ?_⟩
          rw [HL.out, HR.out, HCAT.out, List.map_append]
          exact HP.out
        case measure => simp [intOf]; omega
    · have hkl : k = l.length := by omega
      have HT := Lib.hid (show (Rd.lines ⟨s, 0, off, none⟩ l).take k = Rd.lines ⟨s, 0, off, none⟩ l from List.take_of_length_le (by rw [Rd.lines_length]; omega))
      have HU := Lib.hid (show l.take k = l from List.take_of_length_le (by omega))
      have HK2 : Hid (Kept w wr u6 l.length ((Rd.lines ⟨s, 0, off, none⟩ l).map Value.string) (Rd.run ⟨s, 0, off, none⟩ l)) := Lib.hid (by have := HK.out; rw [HT.out, HU.out, hkl] at this; exact this)
      clear HK
      generalize hr : Rd.run ⟨s, 0, off, none⟩ l = r at *
      obtain ⟨_, _, d2, d3, _, _, f2, f3, _⟩ := HK2.out.st.cells
      go_wp2_with fail
      go_region
      all_goals go_wp2_with fail
      all_goals refine bodyPost_ret (v := .tuple #[u6, .agg #[.int .i64 (r.err.elim 0 (·.1)), .int .i64 (r.err.elim (-1) (·.2))]]) (by simp [results, Tryd.results33, go_sem, d2, d3]) rfl ?_
      all_goals refine ⟨u6, r, hr.symm, rfl, ?_⟩
      all_goals
        refine reads_end HK2.out (((Keeps.set _ (.inl rfl) 0 _).trans (Keeps.set _ (.inl rfl) 1 _)).trans (.of_below (Below.refl _ _).drew))

set_option maxRecDepth 100000 in
set_option maxHeartbeats 4000000 in
theorem reads_nil (s : ByteArray) (off : Int) (A : Option Addr) (c : Nat) (w : World) (hs : s.size ≤ 100) (h0 : 0 ≤ off) (h1 : off ≤ 1099511627776) :
    Calls Tryd.prog 33 #[.string s, .int .i64 off, .slice A 0 c] w fun e w' => e = .returned (.tuple #[.slice none 0 0, .agg #[.int .i64 0, .int .i64 (-1)]]) ∧ Below w.heap.size w w' := by
  have hmf : ∀ (fn : Fn) (first cap : Array Value) (w : World), (Instr.makeFunc fn first cap).run Tryd.prog w = .ok (.func fn first cap) w := fun _ _ _ _ => rfl
  have HS := Lib.hid (ref_start w s off hs h0 h1)
  go_enter Tryd.func33, Tryd.ntmps33
  go_wp2_with (first | (go_at_call 52; refine (good_any _).mono ?_; rintro e w' ⟨rfl, rfl⟩))
  refine wp_loop_rounds 1 ?_
  rw [rounds_succ]
  go_wp2_with fail
  have HK : Hid (Kept w _ (.slice none 0 0) 0 [] ⟨s, 0, off, none⟩) := Lib.hid ⟨HS.out, World.ownsRow_nil _ _ _ _, (((((((Below.refl _ w).alloc (by simp) _).alloc (by simp; try omega) _).alloc (by simp; try omega) _).alloc (by simp; try omega) _).alloc (by simp; try omega) _).alloc (by simp; try omega) _), by simp⟩
  obtain ⟨_, _, d2, d3, _, _, f2, f3, _⟩ := HK.out.st.cells
  simp only [Option.elim] at d2 d3
  generalize (((((w.alloc (.cells #[.string s] 9)).alloc (.cells #[.int .i64 off] 3)).alloc (.cells #[.int .i64 0, .int .i64 (-1)] 33)).alloc (.cells #[.int .i64 0] 3)).alloc (.cells #[.int .i64 0, .int .i64 (-1)] 33)).alloc _ = wr at *
  clear HS
  go_region
  all_goals go_wp2_with fail
  all_goals refine bodyPost_ret (v := .tuple #[.slice none 0 0, .agg #[.int .i64 0, .int .i64 (-1)]]) (by simp [results, Tryd.results33, go_sem, d2, d3]) rfl ?_
  all_goals refine ⟨rfl, (reads_end HK.out (((Keeps.set _ (.inl rfl) 0 _).trans (Keeps.set _ (.inl rfl) 1 _)).trans (.of_below (Below.refl _ _).drew))).2⟩
theorem reads_any (s : ByteArray) (off : Int) (v : Value) (l : List (Int × Int)) (w : World) (hs : s.size ≤ 100) (h0 : 0 ≤ off) (h1 : off ≤ 1099511627776) (hl : l.length ≤ 30) (hv : RPairs w v l) (hg : Glob w) :
    Calls Tryd.prog 33 #[.string s, .int .i64 off, v] w fun e w' => ∃ v r, r = Rd.run ⟨s, 0, off, none⟩ l ∧ e = .returned (.tuple #[v, .agg #[.int .i64 (r.err.elim 0 (·.1)), .int .i64 (r.err.elim (-1) (·.2))]]) ∧
      w'.ownsRow w.heap.size 9 1 v l.length ((Rd.lines ⟨s, 0, off, none⟩ l).map Value.string) ∧ Below w.heap.size w w' := by
  obtain ⟨c, ⟨rfl, A, rfl⟩ | ⟨_, b, o, rfl, hc⟩⟩ := hv
  · refine (reads_nil s off A c w hs h0 h1).mono ?_
    rintro e w' ⟨rfl, hb⟩
    exact ⟨_, _, rfl, rfl, World.ownsRow_nil _ _ _ _, hb⟩
  · exact reads_some s off b o c l w hs h0 h1 hl hc hg
end Go.Proofs.YtpnpikanmgoaiaaDoor
