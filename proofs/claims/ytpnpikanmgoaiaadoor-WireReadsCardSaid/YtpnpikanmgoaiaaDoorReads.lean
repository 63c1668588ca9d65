/-
  The reference's Reads (1.2): its state in memory is a plain reader, its two closures do what the plain reader's operations do.
-/
import Derived.Test.YtpnpikanmgoaiaaDoorNum
import Derived.Deep.DeepCutAuto
namespace Go.Proofs.YtpnpikanmgoaiaaDoor
open Go.RowKit

/-- Blocks outside S are as they were. -/
structure Keeps (S : Nat → Prop) (w w' : World) : Prop where
  os : w'.os = w.os
  tape : w'.tape = w.tape
  output : w'.output = w.output
  size : w.heap.size ≤ w'.heap.size
  block : ∀ i, i < w.heap.size → ¬ S i → w'.heap[i]? = w.heap[i]?
theorem Keeps.refl (S : Nat → Prop) (w : World) : Keeps S w w := ⟨rfl, rfl, rfl, Nat.le_refl _, fun _ _ _ => rfl⟩
theorem Keeps.trans {S : Nat → Prop} {a b c : World} (h : Keeps S a b) (k : Keeps S b c) : Keeps S a c :=
  ⟨k.os.trans h.os, k.tape.trans h.tape, k.output.trans h.output, Nat.le_trans h.size k.size, fun i hi hn => (k.block i (Nat.lt_of_lt_of_le hi h.size) hn).trans (h.block i hi hn)⟩
theorem Keeps.of_below {S : Nat → Prop} {a b : World} (h : Below a.heap.size a b) : Keeps S a b := ⟨h.os, h.tape, h.output, h.size, fun i hi _ => h.block i hi⟩
theorem Keeps.of_grown {S : Nat → Prop} {a b : World} {row : Option Nat} (h : a.grownBy b row) (hr : ∀ g, row = some g → S g) : Keeps S a b :=
  ⟨h.os, h.tape, h.output, h.size, fun i hi hn => h.block i hi (fun e => hn (hr i e.symm))⟩
theorem Keeps.set {S : Nat → Prop} (w : World) {g : Nat} (hg : S g) (i : Nat) (u : Value) : Keeps S w (w.setCell ⟨g, i, none⟩ u) := .of_grown (grown_set w g i u) (fun k e => by injection e with e; exact e ▸ hg)
theorem Keeps.mono {S S' : Nat → Prop} {a b : World} (h : Keeps S a b) (hs : ∀ i, S i → S' i) : Keeps S' a b := ⟨h.os, h.tape, h.output, h.size, fun i hi hn => h.block i hi (fun e => hn (hs i e))⟩
theorem Keeps.below {S : Nat → Prop} {a b : World} {B : Nat} (h : Keeps S a b) (hB : B ≤ a.heap.size) (hs : ∀ i, i < B → ¬ S i) : Below B a b := ⟨h.os, h.tape, h.output, h.size, fun i hi => h.block i (by omega) (hs i hi)⟩

/-- The state of Reads: blocks S, O, N, T, F: the text, the offset, what was noted, the place, the closure 'note'. -/
structure IsRef (w : World) (S O N T F : Nat) (r : Rd) : Prop where
  ok : r.ok
  hOT : O ≠ T
  nz : ∀ e p, r.err = some (e, p) → 0 < e ∧ e ≤ 100
  bs : w.heap[S]? = some (.cells #[.string r.s] 9 (0, 0))
  bo : w.heap[O]? = some (.cells #[.int .i64 r.off] 3 (0, 0))
  bn : w.heap[N]? = some (.cells #[.int .i64 (r.err.elim 0 (·.1)), .int .i64 (r.err.elim (-1) (·.2))] 33 (0, 0))
  ba : w.heap[T]? = some (.cells #[.int .i64 r.at_] 3 (0, 0))
  bf : w.heap[F]? = some (.cells #[.func (Fn.func 95) #[] #[.pointer (some ⟨N, 0, none⟩)]] 116 (0, 0))
def Mine (N T : Nat) (i : Nat) : Prop := i = N ∨ i = T
theorem IsRef.keep {w w' : World} {S O N T F : Nat} {r : Rd} (h : IsRef w S O N T F r) (hb : Below w.heap.size w w') : IsRef w' S O N T F r :=
  ⟨h.ok, h.hOT, h.nz, (hb.block _ (heap_lt h.bs)).trans h.bs, (hb.block _ (heap_lt h.bo)).trans h.bo, (hb.block _ (heap_lt h.bn)).trans h.bn, (hb.block _ (heap_lt h.ba)).trans h.ba, (hb.block _ (heap_lt h.bf)).trans h.bf⟩

theorem is_any (e p : Int) (w : World) : Calls Tryd.prog 81 #[.agg #[.int .i64 e, .int .i64 p]] w fun ev w' => ev = .returned (.bool (e == 0)) ∧ Below w.heap.size w w' := by
  go_enter Tryd.func81, Tryd.ntmps81
  go_wp2
  go_ret
  exact ⟨by simp, (Below.refl _ _).alloc (Nat.le_refl _) _⟩

theorem IsRef.cells {w : World} {S O N T F : Nat} {r : Rd} (h : IsRef w S O N T F r) : w.cell? ⟨S, 0, none⟩ = some (.string r.s) ∧ w.cell? ⟨O, 0, none⟩ = some (.int .i64 r.off) ∧ w.cell? ⟨N, 0, none⟩ = some (.int .i64 (r.err.elim 0 (·.1))) ∧ w.cell? ⟨N, 1, none⟩ = some (.int .i64 (r.err.elim (-1) (·.2))) ∧
    w.cell? ⟨T, 0, none⟩ = some (.int .i64 r.at_) ∧ w.cell? ⟨F, 0, none⟩ = some (.func (Fn.func 95) #[] #[.pointer (some ⟨N, 0, none⟩)]) ∧ w.frozen? ⟨N, 0, none⟩ = false ∧ w.frozen? ⟨N, 1, none⟩ = false ∧ w.frozen? ⟨T, 0, none⟩ = false :=
  ⟨by rw [heap_cell h.bs]; rfl, by rw [heap_cell h.bo]; rfl, by rw [heap_cell h.bn]; rfl, by rw [heap_cell h.bn]; rfl, by rw [heap_cell h.ba]; rfl, by rw [heap_cell h.bf]; rfl, heap_frozen h.bn 0, heap_frozen h.bn 1, heap_frozen h.ba 0⟩
theorem set_far {w : World} {k g i : Nat} {o : Obj} {u : Value} (h : w.heap[k]? = some o) (hne : k ≠ g) : (w.setCell ⟨g, i, none⟩ u).heap[k]? = some o := (Below.heap_setCell w ⟨g, i, none⟩ u k hne).trans h
/-- the note is written -/
theorem IsRef.noted {w : World} {S O N T F : Nat} {s : ByteArray} {a0 : Nat} {off E p : Int} (h : IsRef w S O N T F ⟨s, a0, off, none⟩) (hE : 0 < E ∧ E ≤ 100) : IsRef ((w.setCell ⟨N, 0, none⟩ (.int .i64 E)).setCell ⟨N, 1, none⟩ (.int .i64 p)) S O N T F ⟨s, a0, off, some (E, p)⟩ :=
  ⟨h.ok, h.hOT, fun e q he => by simp only [Option.some.injEq, Prod.mk.injEq] at he; exact he.1 ▸ hE, set_far (set_far h.bs (heap_ne h.bs h.bn (by decide))) (heap_ne h.bs h.bn (by decide)), set_far (set_far h.bo (heap_ne h.bo h.bn (by decide))) (heap_ne h.bo h.bn (by decide)), heap_set (heap_set h.bn 0 _) 1 _, set_far (set_far h.ba (heap_ne h.ba h.bn (by decide))) (heap_ne h.ba h.bn (by decide)), set_far (set_far h.bf (heap_ne h.bf h.bn (by decide))) (heap_ne h.bf h.bn (by decide))⟩
/-- the place is written -/
theorem IsRef.moved {w : World} {S O N T F : Nat} {s : ByteArray} {a0 : Nat} {off : Int} {er : Option (Int × Int)} (h : IsRef w S O N T F ⟨s, a0, off, er⟩) (k : Nat) (hk : k ≤ s.size) (x : Int) (hx : x = (k : Int)) : IsRef (w.setCell ⟨T, 0, none⟩ (.int .i64 x)) S O N T F ⟨s, k, off, er⟩ := by
  subst hx
  exact ⟨⟨hk, h.ok.2⟩, h.hOT, h.nz, set_far h.bs (heap_ne h.bs h.ba (by decide)), set_far h.bo h.hOT, set_far h.bn (heap_ne h.bn h.ba (by decide)), heap_set h.ba 0 _, set_far h.bf (heap_ne h.bf h.ba (by decide))⟩

theorem note_none (S O N T F : Nat) (E p : Int) (w : World) (s : ByteArray) (a0 : Nat) (off : Int) (h : IsRef w S O N T F ⟨s, a0, off, none⟩) (hE : 0 < E ∧ E ≤ 100) :
    Calls Tryd.prog 95 #[.int .i64 E, .int .i64 p, .pointer (some ⟨N, 0, none⟩)] w fun ev w' => ev = .returned (.tuple #[]) ∧ IsRef w' S O N T F ⟨s, a0, off, some (E, p)⟩ ∧ Keeps (Mine N T) w w' := by
  obtain ⟨_, _, c2, c3, _, _, f0, f1, _⟩ := h.cells
  simp only [Option.elim] at c2 c3
  have H := Lib.hid h
  clear h
  go_enter Tryd.func95, Tryd.ntmps95
  go_wp2_with (go_at_call 81; refine (is_any 0 (-1) _).mono ?_; rintro ev w1 ⟨rfl, hb⟩; have H1 := Lib.hid (H.out.keep hb); have HB := Lib.hid hb; obtain ⟨_, _, d2, d3, _, _, e0, e1, _⟩ := H1.out.cells; simp only [Option.elim] at d2 d3; clear c2 c3 f0 f1 hb)
  go_end0
  exact ⟨rfl, H1.out.noted hE, (Keeps.of_below HB.out).trans ((Keeps.set _ (.inl rfl) 0 _).trans (Keeps.set _ (.inl rfl) 1 _))⟩
theorem note_some (S O N T F : Nat) (E p : Int) (w : World) (s : ByteArray) (a0 : Nat) (off e0 p0 : Int) (h : IsRef w S O N T F ⟨s, a0, off, some (e0, p0)⟩) :
    Calls Tryd.prog 95 #[.int .i64 E, .int .i64 p, .pointer (some ⟨N, 0, none⟩)] w fun ev w' => ev = .returned (.tuple #[]) ∧ IsRef w' S O N T F ⟨s, a0, off, some (e0, p0)⟩ ∧ Keeps (Mine N T) w w' := by
  obtain ⟨_, _, c2, c3, _, _, f0, f1, _⟩ := h.cells
  simp only [Option.elim] at c2 c3
  have hz : (e0 == 0) = false := by have := h.nz e0 p0 rfl; simp; omega
  have H := Lib.hid h
  clear h
  go_enter Tryd.func95, Tryd.ntmps95
  go_wp2_with (go_at_call 81; refine (is_any e0 p0 _).mono ?_; rintro ev w1 ⟨rfl, hb⟩; have H1 := Lib.hid (H.out.keep hb); have HB := Lib.hid hb; clear hb)
  go_end0
  exact ⟨rfl, H1.out, Keeps.of_below HB.out⟩
theorem note_any (S O N T F : Nat) (E p : Int) (w : World) (r : Rd) (h : IsRef w S O N T F r) (hE : 0 < E ∧ E ≤ 100) :
    Calls Tryd.prog 95 #[.int .i64 E, .int .i64 p, .pointer (some ⟨N, 0, none⟩)] w fun ev w' => ev = .returned (.tuple #[]) ∧ IsRef w' S O N T F (r.fail E p) ∧ Keeps (Mine N T) w w' := by
  obtain ⟨s, a0, off, er⟩ := r
  cases er with
  | none => exact note_none S O N T F E p w s a0 off h hE
  | some x => exact note_some S O N T F E p w s a0 off x.1 x.2 h

/-- what 'take' makes of the state -/
def Rd.take (r : Rd) (n : Int) (num : Bool) : ByteArray × Rd := if num then (r.numPre n).bytes n else r.bytes n

theorem take_some (S O N T F : Nat) (n : Int) (num : Bool) (w : World) (s : ByteArray) (a0 : Nat) (off e0 p0 : Int) (h : IsRef w S O N T F ⟨s, a0, off, some (e0, p0)⟩) :
    Calls Tryd.prog 96 #[.int .i64 n, .bool num, .pointer (some ⟨N, 0, none⟩), .pointer (some ⟨F, 0, none⟩), .pointer (some ⟨O, 0, none⟩), .pointer (some ⟨T, 0, none⟩), .pointer (some ⟨S, 0, none⟩)] w
      fun ev w' => ev = .returned (.string ⟨#[]⟩) ∧ IsRef w' S O N T F ⟨s, a0, off, some (e0, p0)⟩ ∧ Keeps (Mine N T) w w' := by
  obtain ⟨_, _, c2, c3, _, _, f0, f1, _⟩ := h.cells
  simp only [Option.elim] at c2 c3
  have hz : (e0 == 0) = false := by have := h.nz e0 p0 rfl; simp; omega
  have hnot : ∀ (x : Bool) (w : World), (Op.unary .not (.bool x)).run Tryd.prog w = .ok (.bool (!x)) w := fun _ _ => rfl
  have H := Lib.hid h
  clear h
  go_enter Tryd.func96, Tryd.ntmps96
  go_wp2_with (go_at_call 81; refine (is_any e0 p0 _).mono ?_; rintro ev w1 ⟨rfl, hb⟩; have H1 := Lib.hid (H.out.keep hb); have HB := Lib.hid hb; clear hb)
  go_ret
  exact ⟨rfl, H1.out, Keeps.of_below HB.out⟩
set_option maxHeartbeats 4000000 in
theorem take_none (S O N T F : Nat) (n : Int) (num : Bool) (w : World) (s : ByteArray) (a0 : Nat) (off : Int) (h : IsRef w S O N T F ⟨s, a0, off, none⟩) :
    Calls Tryd.prog 96 #[.int .i64 n, .bool num, .pointer (some ⟨N, 0, none⟩), .pointer (some ⟨F, 0, none⟩), .pointer (some ⟨O, 0, none⟩), .pointer (some ⟨T, 0, none⟩), .pointer (some ⟨S, 0, none⟩)] w
      fun ev w' => ev = .returned (.string (Rd.take ⟨s, a0, off, none⟩ n num).1) ∧ IsRef w' S O N T F (Rd.take ⟨s, a0, off, none⟩ n num).2 ∧ Keeps (Mine N T) w w' := by
  obtain ⟨o1, o2, o3, o4⟩ := h.ok
  simp only at o1 o2 o3 o4
  have hnot : ∀ (x : Bool) (w : World), (Op.unary .not (.bool x)).run Tryd.prog w = .ok (.bool (!x)) w := fun _ _ => rfl
  obtain ⟨c0, c1, c2, c3, c4, c5, f0, f1, f2⟩ := h.cells
  simp only [Option.elim] at c2 c3
  simp only at c0 c1 c4
  have hst : S ≠ T := heap_ne h.bs h.ba (by decide)
  have hts : T ≠ S := Ne.symm hst
  have H := Lib.hid h
  clear h
  have hcases : (n < 0 ∧ Rd.take ⟨s, a0, off, none⟩ n num = (⟨#[]⟩, ⟨s, a0, off, some (2, off + a0)⟩)) ∨
      (0 ≤ n ∧ n < 1 ∧ num = true ∧ Rd.take ⟨s, a0, off, none⟩ n num = (⟨#[]⟩, ⟨s, a0, off, some (2, off + a0)⟩)) ∨
      (0 ≤ n ∧ 8 < n ∧ num = true ∧ Rd.take ⟨s, a0, off, none⟩ n num = (⟨#[]⟩, ⟨s, a0, off, some (2, off + a0)⟩)) ∨
      (0 ≤ n ∧ (num = true ∧ 1 ≤ n ∧ n ≤ 8 ∨ num = false) ∧ (s.size : Int) - a0 < n ∧ Rd.take ⟨s, a0, off, none⟩ n num = (⟨#[]⟩, ⟨s, a0, off, some (7, off + a0)⟩)) ∨
      (∃ m : Nat, n = m ∧ (num = true ∧ 1 ≤ n ∧ n ≤ 8 ∨ num = false) ∧ a0 + m ≤ s.size ∧ Rd.take ⟨s, a0, off, none⟩ n num = (s.extract a0 (a0 + m), ⟨s, a0 + m, off, none⟩)) := by
    unfold Rd.take
    cases num with
    | false =>
      by_cases h0 : n < 0
      · exact .inl ⟨h0, by simp only [Bool.false_eq_true, if_false, Rd.bytes, Option.isSome_none, if_pos h0]; rfl⟩
      · by_cases h1 : (s.size : Int) - a0 < n
        · exact .inr (.inr (.inr (.inl ⟨by omega, .inr rfl, h1, by simp only [Bool.false_eq_true, if_false, Rd.bytes, Option.isSome_none, if_neg h0, if_pos h1]; rfl⟩)))
        · obtain ⟨m, rfl⟩ := Int.eq_ofNat_of_zero_le (Int.not_lt.1 h0)
          exact .inr (.inr (.inr (.inr ⟨m, rfl, .inr rfl, by omega, by simp only [Bool.false_eq_true, if_false, Rd.bytes, Option.isSome_none, if_neg h0, if_neg h1, Int.toNat_natCast]⟩)))
    | true =>
      by_cases h8 : n < 1 ∨ 8 < n
      · have hp : Rd.numPre ⟨s, a0, off, none⟩ n = ⟨s, a0, off, some (2, off + a0)⟩ := Rd.numPre_out rfl h8
        have hb : Rd.bytes ⟨s, a0, off, some (2, off + a0)⟩ n = (⟨#[]⟩, ⟨s, a0, off, some (2, off + a0)⟩) := by simp only [Rd.bytes, Option.isSome_some, if_true]
        have ht : (if true = true then Rd.bytes (Rd.numPre ⟨s, a0, off, none⟩ n) n else Rd.bytes ⟨s, a0, off, none⟩ n) = (⟨#[]⟩, ⟨s, a0, off, some (2, off + a0)⟩) := by rw [if_pos rfl, hp, hb]
        by_cases h0 : n < 0
        · exact .inl ⟨h0, ht⟩
        · by_cases h1 : n < 1
          · exact .inr (.inl ⟨by omega, h1, rfl, ht⟩)
          · exact .inr (.inr (.inl ⟨by omega, by omega, rfl, ht⟩))
      · have hp : Rd.numPre ⟨s, a0, off, none⟩ n = ⟨s, a0, off, none⟩ := Rd.numPre_in (by omega) (by omega)
        have ht : (if true = true then Rd.bytes (Rd.numPre ⟨s, a0, off, none⟩ n) n else Rd.bytes ⟨s, a0, off, none⟩ n) = Rd.bytes ⟨s, a0, off, none⟩ n := by rw [if_pos rfl, hp]
        rw [ht]
        by_cases h1 : (s.size : Int) - a0 < n
        · exact .inr (.inr (.inr (.inl ⟨by omega, .inl ⟨rfl, by omega, by omega⟩, h1, by simp only [Bool.false_eq_true, if_false, Rd.bytes, Option.isSome_none, if_neg (show ¬ n < 0 by omega), if_pos h1]; rfl⟩)))
        · obtain ⟨m, rfl⟩ := Int.eq_ofNat_of_zero_le (show 0 ≤ n by omega)
          exact .inr (.inr (.inr (.inr ⟨m, rfl, .inl ⟨rfl, by omega, by omega⟩, by omega, by simp only [Bool.false_eq_true, if_false, Rd.bytes, Option.isSome_none, if_neg (show ¬ ((m : Int) < 0) by omega), if_neg h1, Int.toNat_natCast]⟩)))
  rcases hcases with ⟨hn, ht⟩ | ⟨hn0, hn1, rfl, ht⟩ | ⟨hn0, hn8, rfl, ht⟩ | ⟨hn0, hnum, hlen, ht⟩ | ⟨m, rfl, hnum, hlen, ht⟩
  all_goals
    have HT := Lib.hid ht
    clear ht
  · go_enter Tryd.func96, Tryd.ntmps96
    go_wp2_with (first
      | (go_at_call 81; refine (is_any 0 (-1) _).mono ?_; rintro ev w1 ⟨rfl, hb⟩; have H1 := Lib.hid (H.out.keep hb); have HB := Lib.hid hb; obtain ⟨d0, d1, _, _, d4, d5, _, _, e2⟩ := H1.out.cells; simp only at d0 d1 d4 d5; clear c0 c1 c2 c3 c4 c5 f0 f1 f2 hb)
      | (go_at_call 95; refine (note_any S O N T F _ _ _ _ H1.out (by decide)).mono ?_; rintro ev w2 ⟨rfl, h2, h3⟩; have H2 := Lib.hid h2; have H3 := Lib.hid h3; clear h2 h3))
    go_ret
    rw [HT.out]
    exact ⟨rfl, H2.out, (Keeps.of_below HB.out).trans H3.out⟩
  · go_enter Tryd.func96, Tryd.ntmps96
    go_wp2_with (first
      | (go_at_call 81; refine (is_any 0 (-1) _).mono ?_; rintro ev w1 ⟨rfl, hb⟩; have H1 := Lib.hid (H.out.keep hb); have HB := Lib.hid hb; obtain ⟨d0, d1, _, _, d4, d5, _, _, e2⟩ := H1.out.cells; simp only at d0 d1 d4 d5; clear c0 c1 c2 c3 c4 c5 f0 f1 f2 hb)
      | (go_at_call 95; refine (note_any S O N T F _ _ _ _ H1.out (by decide)).mono ?_; rintro ev w2 ⟨rfl, h2, h3⟩; have H2 := Lib.hid h2; have H3 := Lib.hid h3; clear h2 h3))
    go_ret
    rw [HT.out]
    exact ⟨rfl, H2.out, (Keeps.of_below HB.out).trans H3.out⟩
  · go_enter Tryd.func96, Tryd.ntmps96
    go_wp2_with (first
      | (go_at_call 81; refine (is_any 0 (-1) _).mono ?_; rintro ev w1 ⟨rfl, hb⟩; have H1 := Lib.hid (H.out.keep hb); have HB := Lib.hid hb; obtain ⟨d0, d1, _, _, d4, d5, _, _, e2⟩ := H1.out.cells; simp only at d0 d1 d4 d5; clear c0 c1 c2 c3 c4 c5 f0 f1 f2 hb)
      | (go_at_call 95; refine (note_any S O N T F _ _ _ _ H1.out (by decide)).mono ?_; rintro ev w2 ⟨rfl, h2, h3⟩; have H2 := Lib.hid h2; have H3 := Lib.hid h3; clear h2 h3))
    go_ret
    rw [HT.out]
    exact ⟨rfl, H2.out, (Keeps.of_below HB.out).trans H3.out⟩
  · rcases hnum with ⟨rfl, hn1, hn8⟩ | rfl
    all_goals
      go_enter Tryd.func96, Tryd.ntmps96
      go_wp2_with (first
        | (go_at_call 81; refine (is_any 0 (-1) _).mono ?_; rintro ev w1 ⟨rfl, hb⟩; have H1 := Lib.hid (H.out.keep hb); have HB := Lib.hid hb; obtain ⟨d0, d1, _, _, d4, d5, _, _, e2⟩ := H1.out.cells; simp only at d0 d1 d4 d5; clear c0 c1 c2 c3 c4 c5 f0 f1 f2 hb)
        | (go_at_call 95; refine (note_any S O N T F _ _ _ _ H1.out (by decide)).mono ?_; rintro ev w2 ⟨rfl, h2, h3⟩; have H2 := Lib.hid h2; have H3 := Lib.hid h3; clear h2 h3))
      go_ret
      rw [HT.out]
      exact ⟨rfl, H2.out, (Keeps.of_below HB.out).trans H3.out⟩
  · rcases hnum with ⟨rfl, hn1, hn8⟩ | rfl
    all_goals
      go_enter Tryd.func96, Tryd.ntmps96
      go_wp2_with (first
        | (go_at_call 81; refine (is_any 0 (-1) _).mono ?_; rintro ev w1 ⟨rfl, hb⟩; have H1 := Lib.hid (H.out.keep hb); have HB := Lib.hid hb; obtain ⟨d0, d1, _, _, d4, d5, _, _, e2⟩ := H1.out.cells; simp only at d0 d1 d4 d5; clear c0 c1 c2 c3 c4 c5 f0 f1 f2 hb)
        | (go_at_call 95; refine (note_any S O N T F _ _ _ _ H1.out (by decide)).mono ?_; rintro ev w2 ⟨rfl, h2, h3⟩; have H2 := Lib.hid h2; have H3 := Lib.hid h3; clear h2 h3))
      go_ret
      rw [HT.out]
      exact ⟨by simp, H1.out.moved (a0 + m) hlen ((a0 : Int) + m) (by simp), (Keeps.of_below HB.out).trans (Keeps.set _ (.inr rfl) 0 _)⟩
theorem take_any (S O N T F : Nat) (n : Int) (num : Bool) (w : World) (r : Rd) (h : IsRef w S O N T F r) :
    Calls Tryd.prog 96 #[.int .i64 n, .bool num, .pointer (some ⟨N, 0, none⟩), .pointer (some ⟨F, 0, none⟩), .pointer (some ⟨O, 0, none⟩), .pointer (some ⟨T, 0, none⟩), .pointer (some ⟨S, 0, none⟩)] w
      fun ev w' => ev = .returned (.string (r.take n num).1) ∧ IsRef w' S O N T F (r.take n num).2 ∧ Keeps (Mine N T) w w' := by
  obtain ⟨s, a0, off, er⟩ := r
  cases er with
  | none => exact take_none S O N T F n num w s a0 off h
  | some x =>
    have ht : Rd.take ⟨s, a0, off, some x⟩ n num = (⟨#[]⟩, ⟨s, a0, off, some x⟩) := by
      unfold Rd.take
      rw [Rd.numPre_some rfl]
      simp only [Rd.bytes, Option.isSome_some, if_true, ite_self]
    rw [ht]
    exact take_some S O N T F n num w s a0 off x.1 x.2 h
end Go.Proofs.YtpnpikanmgoaiaaDoor
