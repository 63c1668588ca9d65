/-
  The law WireReads (4.3): the program's reader and the reference's Reads hold the same plain reader, line by line.
-/
import Derived.Test.YtpnpikanmgoaiaaDoorReads2
import Derived.StillTailTactics
namespace Go.Proofs.YtpnpikanmgoaiaaDoor
open Go.RowKit

theorem rd_at' (g : Nat) (w : World) (r : Rd) (h : IsRd w g r) : Calls Tryd.prog 40 #[.pointer (some ⟨g, 0, none⟩)] w fun e w' => e = .returned (.int .i64 r.place) ∧ Below w.heap.size w w' := by
  refine (rd_at g w r h).mono ?_
  rintro e w' ⟨rfl, n, rfl⟩
  exact ⟨rfl, below_drewN' (Below.refl _ _) n⟩
theorem rd_left' (g : Nat) (w : World) (r : Rd) (h : IsRd w g r) : Calls Tryd.prog 41 #[.pointer (some ⟨g, 0, none⟩)] w fun e w' => e = .returned (.int .i64 ((r.s.size : Int) - r.at_)) ∧ Below w.heap.size w w' := by
  refine (rd_left g w r h).mono ?_
  rintro e w' ⟨rfl, n, rfl⟩
  exact ⟨rfl, below_drewN' (Below.refl _ _) n⟩
/-- the reader that Sub hands out, ahead of its one operation -/
theorem sub_at (g : Nat) (w : World) (bt : ByteArray) (pl : Int) (er : Option (Int × Int)) (h : IsRd w g ⟨bt, 0, pl, er⟩) : Calls Tryd.prog 40 #[.pointer (some ⟨g, 0, none⟩)] w fun e w' => e = .returned (.int .i64 pl) ∧ Below w.heap.size w w' := by
  have := rd_at' g w _ h
  simp only [Rd.place, Int.natCast_zero, Int.add_zero] at this
  exact this
theorem sub_left (g : Nat) (w : World) (bt : ByteArray) (pl : Int) (er : Option (Int × Int)) (h : IsRd w g ⟨bt, 0, pl, er⟩) : Calls Tryd.prog 41 #[.pointer (some ⟨g, 0, none⟩)] w fun e w' => e = .returned (.int .i64 (bt.size : Int)) ∧ Below w.heap.size w w' := by
  have := rd_left' g w _ h
  simp only [Int.natCast_zero, Int.sub_zero] at this
  exact this
theorem sub_bytes_none (g : Nat) (w : World) (bt : ByteArray) (pl : Int) (h : IsRd w g ⟨bt, 0, pl, none⟩) : Calls Tryd.prog 34 #[.pointer (some ⟨g, 0, none⟩), .int .i64 (bt.size : Int)] w
    fun e w' => e = .returned (.string bt) ∧ IsRd w' g ⟨bt, bt.size, pl, none⟩ ∧ w.grownBy w' (some g) := by
  have hb : Rd.bytes ⟨bt, 0, pl, none⟩ (bt.size : Int) = (bt, ⟨bt, bt.size, pl, none⟩) := by
    unfold Rd.bytes
    simp only [Option.isSome_none, Bool.false_eq_true, if_false]
    rw [if_neg (by omega), if_neg (by omega)]
    simp
  have := rd_bytes g (bt.size : Int) w _ h
  rw [hb] at this
  exact this
theorem sub_bytes_some (g : Nat) (w : World) (bt : ByteArray) (hbt : bt = ⟨#[]⟩) (pl : Int) (x : Int × Int) (n : Int) (h : IsRd w g ⟨bt, 0, pl, some x⟩) : Calls Tryd.prog 34 #[.pointer (some ⟨g, 0, none⟩), .int .i64 n] w
    fun e w' => e = .returned (.string bt) ∧ IsRd w' g ⟨bt, 0, pl, some x⟩ ∧ w.grownBy w' (some g) := by
  subst hbt
  have hb : Rd.bytes ⟨⟨#[]⟩, 0, pl, some x⟩ n = (⟨#[]⟩, ⟨⟨#[]⟩, 0, pl, some x⟩) := by
    unfold Rd.bytes
    simp only [Option.isSome_some, if_true]
  have := rd_bytes g n w _ h
  rw [hb] at this
  exact this
theorem sub_left2 (g : Nat) (w : World) (bt : ByteArray) (pl : Int) (er : Option (Int × Int)) (h : IsRd w g ⟨bt, bt.size, pl, er⟩) : Calls Tryd.prog 41 #[.pointer (some ⟨g, 0, none⟩)] w fun e w' => e = .returned (.int .i64 0) ∧ Below w.heap.size w w' := by
  have := rd_left' g w _ h
  simp only [Int.sub_self] at this
  exact this
theorem bytes_none {r : Rd} {n : Int} {x : Int × Int} (h : (r.bytes n).2.err = some x) : (r.bytes n).1 = ⟨#[]⟩ := by
  unfold Rd.bytes at h ⊢
  split
  · rfl
  · split
    · rfl
    · split
      · rfl
      · rename_i h1 h2 h3
        simp only [h1, h2, h3, if_false, Bool.false_eq_true] at h
        rw [h] at h1
        simp at h1
theorem Rd.op_s (r : Rd) (a n : Int) : (r.op a n).2.s = r.s ∧ (r.op a n).2.off = r.off := by
  have hb : ∀ (q : Rd), (q.bytes n).2.s = q.s ∧ (q.bytes n).2.off = q.off := fun q => by
    unfold Rd.bytes
    split
    · exact ⟨rfl, rfl⟩
    · split
      · exact ⟨Rd.fail_s .., Rd.fail_off ..⟩
      · split
        · exact ⟨Rd.fail_s .., Rd.fail_off ..⟩
        · exact ⟨rfl, rfl⟩
  have ht : ∀ b, (r.take n b).2.s = r.s ∧ (r.take n b).2.off = r.off := fun b => by
    unfold Rd.take
    split
    · have hp : (r.numPre n).s = r.s ∧ (r.numPre n).off = r.off := by
        unfold Rd.numPre
        split
        · exact ⟨Rd.fail_s .., Rd.fail_off ..⟩
        · exact ⟨rfl, rfl⟩
      exact ⟨(hb _).1.trans hp.1, (hb _).2.trans hp.2⟩
    · exact hb r
  unfold Rd.op
  split
  · exact ht false
  · split
    · exact ht true
    · split
      · unfold Rd.zeros
        split
        · exact ⟨rfl, rfl⟩
        · simp only
          split <;> exact ⟨rfl, rfl⟩
      · split
        · exact ht false
        · split
          · exact ⟨Rd.fail_s .., Rd.fail_off ..⟩
          · exact ⟨rfl, rfl⟩
theorem Rd.run_s : ∀ (l : List (Int × Int)) (r : Rd), (Rd.run r l).s = r.s ∧ (Rd.run r l).off = r.off
  | [], _ => ⟨rfl, rfl⟩
  | (a, n) :: l, r => by
    simp only [Rd.run]
    have h1 := Rd.run_s l (r.op a n).2
    have h2 := Rd.op_s r a n
    exact ⟨h1.1.trans h2.1, h1.2.trans h2.2⟩
theorem Rd.lines_at : ∀ (l : List (Int × Int)) (r : Rd) (k : Nat) (_ : k < l.length), (Rd.lines r l).getD k ⟨#[]⟩ =
    Rd.line ((Rd.run r (l.take k)).op (l.getD k (0, 0)).1 (l.getD k (0, 0)).2).1 ((Rd.run r (l.take k)).op (l.getD k (0, 0)).1 (l.getD k (0, 0)).2).2
  | (a, n) :: l, r, 0, _ => rfl
  | (a, n) :: l, r, k + 1, h => by
    simp only [Rd.lines, List.take_succ_cons, Rd.run, List.getD_cons_succ]
    exact Rd.lines_at l _ k (by simpa using h)

theorem ErrIn.op {r : Rd} (h : ErrIn r) (a n : Int) : ErrIn (r.op a n).2 := by
  unfold Rd.op
  split
  · exact h.take n false
  · split
    · exact h.take n true
    · split
      · unfold Rd.zeros
        split
        · exact h
        · rename_i hn
          simp only
          split
          · intro e p he
            simp only [Option.some.injEq, Prod.mk.injEq] at he
            omega
          · intro e p he
            simp only at he
            rw [hn] at he
            cases he
      · split
        · exact h.take n false
        · split
          · exact h.fail _ _ (by decide)
          · exact h
theorem ErrIn.run : ∀ (l : List (Int × Int)) (r : Rd), ErrIn r → ErrIn (Rd.run r l)
  | [], _, h => h
  | (a, n) :: l, _, h => ErrIn.run l _ (h.op a n)

/-- The law's memory: the program's reader in the first new block, the reference's lines at gw, its verdict at F. -/
structure Law (w wr : World) (F gw : Nat) (ys : List ByteArray) (e p : Int) (r : Rd) : Prop where
  rd : IsRd wr w.heap.size r
  old : Below w.heap.size w wr
  lns : ∀ k, k < ys.length → wr.cell? ⟨gw, k, none⟩ = some (.string (ys.getD k ⟨#[]⟩))
  g1 : w.heap.size < gw
  g2 : w.heap.size < F
  b1 : gw < wr.heap.size
  b2 : F < wr.heap.size
  f0 : wr.cell? ⟨F, 0, none⟩ = some (.int .i64 e)
  f1 : wr.cell? ⟨F, 1, none⟩ = some (.int .i64 p)
theorem Law.step {w wr w' : World} {F gw : Nat} {ys : List ByteArray} {e p : Int} {r r' : Rd} (h : Law w wr F gw ys e p r) (hr : IsRd w' w.heap.size r') (hg : wr.grownBy w' (some w.heap.size)) : Law w w' F gw ys e p r' := by
  have h1 := h.g1
  have h2 := h.g2
  refine ⟨hr, h.old.trans ⟨hg.os, hg.tape, hg.output, hg.size, fun i hi => hg.block i (by have := h.rd.lt; omega) (by simp; omega)⟩, fun k hk => (hg.cell_far _ h.b1 (by simp; omega)).trans (h.lns k hk), h1, h2, Nat.lt_of_lt_of_le h.b1 hg.size, Nat.lt_of_lt_of_le h.b2 hg.size,
    (hg.cell_far _ h.b2 (by simp; omega)).trans h.f0, (hg.cell_far _ h.b2 (by simp; omega)).trans h.f1⟩
theorem Law.below {w wr w' : World} {F gw : Nat} {ys : List ByteArray} {e p : Int} {r : Rd} (h : Law w wr F gw ys e p r) (hb : Below wr.heap.size wr w') : Law w w' F gw ys e p r :=
  ⟨h.rd.below hb, h.old.trans (hb.mono (by have := h.rd.lt; omega)), fun k hk => (hb.cell h.b1).trans (h.lns k hk), h.g1, h.g2, Nat.lt_of_lt_of_le h.b1 hb.size, Nat.lt_of_lt_of_le h.b2 hb.size, (hb.cell h.b2).trans h.f0, (hb.cell h.b2).trans h.f1⟩
/-- the reader that Sub handed out has moved: another block than the law's own three -/
theorem Law.other {w wr w' : World} {F gw g' : Nat} {ys : List ByteArray} {e p : Int} {r : Rd} (h : Law w wr F gw ys e p r) {q : Rd} (hq : IsRd wr g' q) (hg : wr.grownBy w' (some g')) (hn : w.heap.size < g') (hgw : gw < g') (hF : F < g') : Law w w' F gw ys e p r := by
  obtain ⟨_, hb, _⟩ := hq.blk
  refine ⟨h.rd.far hg (by simp; omega) (fun k cs hk => by injection hk with hk; subst hk; rw [hb]; simp), h.old.trans ⟨hg.os, hg.tape, hg.output, hg.size, fun i hi => hg.block i (by have := h.rd.lt; omega) (by simp; omega)⟩, fun k hk => (hg.cell_far _ h.b1 (by simp; omega)).trans (h.lns k hk), h.g1, h.g2,
    Nat.lt_of_lt_of_le h.b1 hg.size, Nat.lt_of_lt_of_le h.b2 hg.size, (hg.cell_far _ h.b2 (by simp; omega)).trans h.f0, (hg.cell_far _ h.b2 (by simp; omega)).trans h.f1⟩
theorem line_of {w wr : World} {F gw : Nat} {ys : List ByteArray} {e p : Int} {r : Rd} {k : Nat} {x : ByteArray} (h : Law w wr F gw ys e p r) (hk : Hid (k < ys.length)) (hx : Hid (ys.getD k ⟨#[]⟩ = x)) : wr.cell? ⟨gw, k, none⟩ = some (.string x) := by
  rw [h.lns k hk.out, hx.out]
theorem fault_of {w wr : World} {F gw : Nat} {ys : List ByteArray} {e p : Int} {r : Rd} (h : Law w wr F gw ys e p r) : wr.cell? ⟨F, 0, none⟩ = some (.int .i64 e) ∧ wr.cell? ⟨F, 1, none⟩ = some (.int .i64 p) := ⟨h.f0, h.f1⟩

/-- outside the bounds nothing is claimed -/
theorem wire_guard (s : ByteArray) (off : Int) (A : Option Addr) (n c : Nat) (w : World) (h : (100 : Int) < s.size ∨ (30 : Int) < n ∨ off < 0 ∨ 1099511627776 < off) :
    Calls Tryd.prog 8 #[.string s, .int .i64 off, .slice A n c] w fun e w' => e = .returned (.bool true) ∧ Below w.heap.size w w' := by
  by_cases h1 : (100 : Int) < s.size
  · go_enter Tryd.func8, Tryd.ntmps8
    go_wp2
    go_ret
    exact ⟨by simp, Below.refl _ _⟩
  · by_cases h2 : (30 : Int) < n
    · go_enter Tryd.func8, Tryd.ntmps8
      go_wp2
      go_ret
      exact ⟨by simp, Below.refl _ _⟩
    · by_cases h3 : off < 0
      · go_enter Tryd.func8, Tryd.ntmps8
        go_wp2
        go_ret
        exact ⟨by simp, Below.refl _ _⟩
      · have h4 : 1099511627776 < off := by omega
        go_enter Tryd.func8, Tryd.ntmps8
        go_wp2
        go_ret
        exact ⟨by simp, Below.refl _ _⟩

theorem row_cells {w : World} {base : Nat} {e : TypeId} {v : Value} {n : Nat} {ys : List ByteArray} (h : w.ownsRow base e 1 v n (ys.map Value.string)) (hn : 0 < n) (hl : ys.length = n) :
    ∃ g cap, v = .slice (some ⟨g, 0, none⟩) n cap ∧ base ≤ g ∧ g < w.heap.size ∧ ∀ k, k < ys.length → w.cell? ⟨g, k, none⟩ = some (.string (ys.getD k ⟨#[]⟩)) := by
  rcases h.2 with ⟨_, h0⟩ | ⟨g, cap, cur, hv, hb, hg, _, _, _, ht⟩
  · omega
  · refine ⟨g, cap, hv, hb, (Array.getElem?_eq_some_iff.1 hg).1, fun k hk => ?_⟩
    rw [cell_of_row w g k cur e (0, 0) hg]
    have h1 : (cur.toList.take (n * 1))[k]? = (ys.map Value.string)[k]? := by rw [ht]
    rw [List.getElem?_take_of_lt (by omega), List.getElem?_map, Array.getElem?_toList] at h1
    rw [h1, List.getD_eq_getElem?_getD, List.getElem?_eq_getElem hk]
    rfl
theorem reads_form (s : ByteArray) (off : Int) (b o c : Nat) (l : List (Int × Int)) (w : World) (hpos : 0 < l.length) (hs : s.size ≤ 100) (h0 : 0 ≤ off) (h1 : off ≤ 1099511627776) (hl : l.length ≤ 30)
    (hc : ∀ k, k < l.length → w.cell? ⟨b, o + k * 2, none⟩ = some (.int .i64 (l.getD k (0, 0)).1) ∧ w.cell? ⟨b, o + k * 2 + 1, none⟩ = some (.int .i64 (l.getD k (0, 0)).2)) (hg : Glob w) :
    Calls Tryd.prog 33 #[.string s, .int .i64 off, .slice (some ⟨b, o, none⟩) l.length c] w fun e w' => ∃ gw cap : Nat, ∃ E p : Int, e = .returned (.tuple #[.slice (some ⟨gw, 0, none⟩) l.length cap, .agg #[.int .i64 E, .int .i64 p]]) ∧
      Hid (E = (Rd.run ⟨s, 0, off, none⟩ l).err.elim 0 (·.1) ∧ p = (Rd.run ⟨s, 0, off, none⟩ l).err.elim (-1) (·.2)) ∧ w.heap.size ≤ gw ∧ gw < w'.heap.size ∧
      Hid (∀ k, k < (Rd.lines ⟨s, 0, off, none⟩ l).length → w'.cell? ⟨gw, k, none⟩ = some (.string ((Rd.lines ⟨s, 0, off, none⟩ l).getD k ⟨#[]⟩))) ∧ Below w.heap.size w w' := by
  refine (reads_some s off b o c l w hs h0 h1 hl hc hg).mono ?_
  rintro e w' ⟨v, r, rfl, rfl, hown, hb⟩
  obtain ⟨g, cap, rfl, h2, h3, h4⟩ := row_cells hown hpos (Rd.lines_length _ _)
  exact ⟨g, cap, _, _, rfl, Lib.hid ⟨rfl, rfl⟩, h2, h3, Lib.hid h4, hb⟩
theorem cells_below {w w' : World} {b o : Nat} {l : List (Int × Int)} (h : ∀ k, k < l.length → w.cell? ⟨b, o + k * 2, none⟩ = some (.int .i64 (l.getD k (0, 0)).1) ∧ w.cell? ⟨b, o + k * 2 + 1, none⟩ = some (.int .i64 (l.getD k (0, 0)).2)) (hb : Below w.heap.size w w') :
    ∀ k, k < l.length → w'.cell? ⟨b, o + k * 2, none⟩ = some (.int .i64 (l.getD k (0, 0)).1) ∧ w'.cell? ⟨b, o + k * 2 + 1, none⟩ = some (.int .i64 (l.getD k (0, 0)).2) := fun k hk => by
  have hbb : b < w.heap.size := World.block_lt_of_cell? w _ (h k hk).1
  exact ⟨(hb.cell (p := ⟨b, o + k * 2, none⟩) hbb).trans (h k hk).1, (hb.cell (p := ⟨b, o + k * 2 + 1, none⟩) hbb).trans (h k hk).2⟩
theorem law_start {w w3 : World} {gw : Nat} {ys : List ByteArray} {e p : Int} {s : ByteArray} {off : Int}
    (hr : IsRd (w.alloc (.cells #[.string s, .int .i64 0, .int .i64 off, .nilIface] 194)) w.heap.size ⟨s, 0, off, none⟩)
    (hb : Below (w.alloc (.cells #[.string s, .int .i64 0, .int .i64 off, .nilIface] 194)).heap.size (w.alloc (.cells #[.string s, .int .i64 0, .int .i64 off, .nilIface] 194)) w3)
    (hg : (w.alloc (.cells #[.string s, .int .i64 0, .int .i64 off, .nilIface] 194)).heap.size ≤ gw) (hg2 : gw < w3.heap.size)
    (hl : ∀ k, k < ys.length → w3.cell? ⟨gw, k, none⟩ = some (.string (ys.getD k ⟨#[]⟩))) : Law w (w3.alloc (.cells #[.int .i64 e, .int .i64 p] 33)) w3.heap.size gw ys e p ⟨s, 0, off, none⟩ := by
  have hb2 : Below w3.heap.size w3 (w3.alloc (.cells #[.int .i64 e, .int .i64 p] 33)) := (Below.refl _ _).alloc (Nat.le_refl _) _
  have hsz := hb.size
  simp at hg hsz
  exact ⟨(hr.below hb).below hb2, (((Below.refl _ w).alloc (Nat.le_refl _) _).trans (hb.mono (by simp))).trans (hb2.mono (by omega)), fun k hk => (hb2.cell hg2).trans (hl k hk), by omega, by omega, Nat.lt_of_lt_of_le hg2 hb2.size, by simp,
    by rw [heap_cell (heap_alloc_new w3 _)]; rfl, by rw [heap_cell (heap_alloc_new w3 _)]; rfl⟩

set_option maxRecDepth 100000 in
set_option maxHeartbeats 8000000 in
theorem wire_some (s : ByteArray) (off : Int) (b o c : Nat) (l : List (Int × Int)) (w : World) (hne : l ≠ []) (hs : (s.size : Int) ≤ 100) (h0 : 0 ≤ off) (h1 : off ≤ 1099511627776) (hl : (l.length : Int) ≤ 30)
    (hc : ∀ k, k < l.length → w.cell? ⟨b, o + k * 2, none⟩ = some (.int .i64 (l.getD k (0, 0)).1) ∧ w.cell? ⟨b, o + k * 2 + 1, none⟩ = some (.int .i64 (l.getD k (0, 0)).2)) (hg : Glob w) :
    Calls Tryd.prog 8 #[.string s, .int .i64 off, .slice (some ⟨b, o, none⟩) l.length c] w fun e w' => e = .returned (.bool true) ∧ Below w.heap.size w w' := by
  have hpos : 0 < l.length := by cases l with | nil => exact absurd rfl hne | cons _ _ => simp
  have HC := Lib.hid hc
  have HG := Lib.hid hg
  clear hc hg hne
  go_enter Tryd.func8, Tryd.ntmps8
  go_wp2_with (first
    | (go_at_call 32; refine (rd_new s off _ (by omega) h0 (by omega)).mono ?_; rintro e w1 ⟨rfl, h1', rfl⟩; have HR0 := Lib.hid h1'; clear h1')
    | (go_at_call 33; refine (reads_form s off b o c l _ hpos (by omega) h0 h1 (by omega) (cells_below HC.out ((Below.refl _ _).alloc (Nat.le_refl _) _)) (HG.out.below ((Below.refl _ _).alloc (Nat.le_refl _) _))).mono ?_; rintro e w3 ⟨gw, cap, E, p, rfl, HEP, hgw, hgw2, HLN, hb3⟩; have HB3 := Lib.hid hb3; clear hb3))
  have HL0 := Lib.hid (law_start (e := E) (p := p) HR0.out HB3.out hgw hgw2 HLN.out)
  clear HR0 HB3 HLN
  generalize hF : w3.heap.size = F at *
  generalize w3.alloc (.cells #[.int .i64 E, .int .i64 p] 33) = w4 at *
  clear hF hgw2
  go_loopw [47] (fun i wr => ∃ k : Nat, k ≤ l.length ∧ i = .int .i64 k ∧ Hid (Law w wr F gw (Rd.lines ⟨s, 0, off, none⟩ l) E p (Rd.run ⟨s, 0, off, none⟩ (l.take k)))) (fun i _ => l.length - (intOf i).toNat)
  case atStart => exact ⟨0, Nat.zero_le _, rfl, HL0⟩
  case round =>
    obtain ⟨k, hk, rfl, HK⟩ := hrel
    by_cases hlt : k < l.length
    · obtain ⟨c0, c1⟩ := cells_below HC.out HK.out.old k hlt
      have HR := Lib.hid (Rd.run_snoc l ⟨s, 0, off, none⟩ k hlt)
      have HL := Lib.hid (Rd.lines_at l ⟨s, 0, off, none⟩ k hlt)
      have HKL : Hid (k < (Rd.lines ⟨s, 0, off, none⟩ l).length) := Lib.hid (by rw [Rd.lines_length]; exact hlt)
      have HRS := Lib.hid (Rd.run_s (l.take k) ⟨s, 0, off, none⟩)
      have HIN := Lib.hid (ErrIn.run (l.take k) ⟨s, 0, off, none⟩ (fun _ _ h => by cases h))
      generalize (l.getD k (0, 0)).1 = a at *
      generalize (l.getD k (0, 0)).2 = n at *
      generalize Rd.run ⟨s, 0, off, none⟩ (l.take k) = r at *
      generalize Rd.lines ⟨s, 0, off, none⟩ l = ys at *
      go_upto_block 2 with fail
      go_cut [12] (fun got wx => got = .string (r.op a n).1 ∧ Hid (Law w wx F gw ys E p (r.op a n).2))
      case first =>
        have hbx : Below wr.heap.size wr (wr.alloc (.cells #[.int .i64 a, .int .i64 n] 107)) := (Below.refl _ _).alloc (Nat.le_refl _) _
        have HX := Lib.hid (HK.out.below hbx)
        clear hbx HK
        by_cases h0 : a = 0
        · subst h0
          have HOP := Lib.hid (show r.op 0 n = r.bytes n from rfl)
          go_wp2_with (first
            | (go_at_call 34; refine (rd_bytes _ n _ r HX.out.rd).mono ?_; rintro ev w2 ⟨rfl, h2, h3⟩; have H2 := Lib.hid (HX.out.step h2 h3); clear h2 h3))
          go_meet
          rw [HOP.out]
          exact ⟨rfl, H2⟩
        · by_cases h4 : a = 4
          · subst h4
            have HOP := Lib.hid (show r.op 4 n = (⟨#[]⟩, r.fail 6 n) from rfl)
            go_wp2_with (first
              | (go_at_call 44; refine (rd_fail _ 6 n _ r HX.out.rd).mono ?_; rintro ev w2 ⟨rfl, h2, h3⟩; have H2 := Lib.hid (HX.out.step h2 h3); clear h2 h3))
            go_meet
            rw [HOP.out]
            exact ⟨rfl, H2⟩
          · by_cases h1 : a = 1
            · subst h1
              have HOP := Lib.hid (show r.op 1 n = (itoaB (r.num n).1, (r.num n).2) from rfl)
              obtain ⟨n0, n1⟩ : -9223372036854775808 ≤ (r.num n).1 ∧ (r.num n).1 ≤ 9223372036854775807 := beNum_range _
              go_wp2_with (first
                | (go_at_call 36; refine (rd_num _ n _ r HX.out.rd).mono ?_; rintro ev w2 ⟨rfl, h2, h3⟩; have H2 := Lib.hid (HX.out.step h2 h3); clear h2 h3)
                | (go_at_call 35; refine (itoa_any _ n0 n1 _ (HG.out.below H2.out.old).pow).mono ?_; rintro ev w3 ⟨rfl, hb3⟩; have HB3 := Lib.hid (H2.out.below hb3); clear hb3))
              go_meet
              rw [HOP.out]
              exact ⟨rfl, HB3⟩
            · by_cases h2 : a = 2
              · subst h2
                have HOP := Lib.hid (Rd.op2 r n)
                go_wp2_with (first
                  | (go_at_call 38; refine (rd_zeros _ _ r HX.out.rd).mono ?_; rintro ev w2 ⟨rfl, h2, h3⟩; have H2 := Lib.hid (HX.out.step h2 h3); clear h2 h3)
                  | (go_at_call 37; refine (boolB_any _ _).mono ?_; rintro ev w5 ⟨rfl, rfl⟩))
                go_meet
                rw [HOP.out]
                exact ⟨rfl, H2⟩
              · by_cases h3 : a = 3
                · subst h3
                  have hop : r.op 3 n = (itoaB r.place ++ blank ++ itoaB (r.bytes n).1.size ++ blank ++ (r.bytes n).1 ++ blank ++ itoaB ((r.bytes n).2.err.elim 0 (·.1)), (r.bytes n).2) := rfl
                  have hsub : r.sub n = ⟨(r.bytes n).1, 0, r.place, (r.bytes n).2.err⟩ := rfl
                  have hsz := Rd.bytes_size HX.out.rd.ok n
                  have hin := ErrIn.bytes HIN.out n
                  have hbn := fun x => bytes_none (r := r) (n := n) (x := x)
                  obtain ⟨o1, o2, o3, o4⟩ := HX.out.rd.ok
                  have hp0 : 0 ≤ r.place := by unfold Rd.place; omega
                  have hp1 : r.place ≤ 2199023255552 := by have h1 := HRS.out.2; have h2 := congrArg ByteArray.size HRS.out.1; simp only at h1 h2; unfold Rd.place; omega
                  have z1 := itoaB_size (n := r.place) (by omega) (by omega)
                  have z2 := itoaB_size (n := ((r.bytes n).1.size : Int)) (by omega) (by omega)
                  have HPL := Lib.hid hp1
                  generalize hr3 : (r.bytes n).2 = r3 at *
                  generalize (r.bytes n).1 = bt at *
                  generalize hpl : r.place = pl at *
                  have HR3 := Lib.hid hr3
                  have HP1 : Hid (r.place ≤ 2199023255552) := Lib.hid (by rw [hpl]; exact hp1)
                  clear hr3 hpl
                  obtain ⟨s1, hs1, g1, k1⟩ := cat_named (itoaB pl) ⟨#[32]⟩ (by rw [sp_size]; omega)
                  obtain ⟨s2, hs2, g2, k2⟩ := cat_named s1 (itoaB (bt.size : Int)) (by rw [sp_size] at g1; omega)
                  obtain ⟨s3, hs3, g3, k3⟩ := cat_named s2 ⟨#[32]⟩ (by rw [sp_size] at g1 ⊢; omega)
                  obtain ⟨s4, hs4, g4, k4⟩ := cat_named s3 bt (by rw [sp_size] at g1 g3; omega)
                  obtain ⟨s5, hs5, g5, k5⟩ := cat_named s4 ⟨#[32]⟩ (by rw [sp_size] at g1 g3 ⊢; omega)
                  rw [sp_size] at g1 g3 g5
                  have g6 : s5.size ≤ 1099511627876 := by omega
                  clear g1 g2 g3 g4 g5
                  have hb1 := HX.out.b1
                  have hb2 := HX.out.b2
                  have hb0 := HX.out.rd.lt
                  cases her : r3.err with
                  | none =>
                    rw [her] at hsub hop
                    have HSUB := Lib.hid hsub
                    obtain ⟨s6, hs6, _, k6⟩ := cat_named s5 (itoaB 0) (by have : (itoaB 0).size ≤ 21 := itoaB_size (by decide) (by decide); omega)
                    have HOP := Lib.hid (show r.op 3 n = (s6, r3) by rw [hop, ← hs6, ← hs5, ← hs4, ← hs3, ← hs2, ← hs1]; rfl)
                    clear hsub hop hbn
                    go_wp2_with (first
                      | (go_at_call 39; refine (rd_sub _ n _ r HX.out.rd HP1.out).mono ?_; rintro ev w2 ⟨g', rfl, hg', h2, hq, h3⟩; rw [HR3.out] at h2; rw [HSUB.out] at hq; have HK2 := Lib.hid (HX.out.step h2 h3); have HQ := Lib.hid hq; have hn0 : w.heap.size < g' := (by omega); have hn1 : gw < g' := (by omega); have hn2 : F < g' := (by omega); clear h2 h3 hq)
                      | (go_at_call 40; refine (sub_at _ _ bt pl none (Hid.out (by assumption))).mono ?_; rintro ev wi ⟨rfl, hbi⟩; have HKi := Lib.hid (Law.below (Hid.out (by assumption)) hbi); have HQi := Lib.hid (IsRd.below (r := ⟨bt, 0, pl, none⟩) (Hid.out (by assumption)) hbi); clear hbi)
                      | (go_at_call 41; refine (sub_left _ _ bt pl none (Hid.out (by assumption))).mono ?_; rintro ev wi ⟨rfl, hbi⟩; have HKi := Lib.hid (Law.below (Hid.out (by assumption)) hbi); have HQi := Lib.hid (IsRd.below (r := ⟨bt, 0, pl, none⟩) (Hid.out (by assumption)) hbi); clear hbi)
                      | (go_at_call 34; refine (sub_bytes_none _ _ bt pl (Hid.out (by assumption))).mono ?_; rintro ev wi ⟨rfl, hqi, hgi⟩; have HKi := Lib.hid (Law.other (q := ⟨bt, 0, pl, none⟩) (Hid.out (by assumption)) (Hid.out (by assumption)) hgi hn0 hn1 hn2); have HQi := Lib.hid hqi; clear hqi hgi)
                      | (go_at_call 42; refine (rd_err _ _ ⟨bt, bt.size, pl, none⟩ (Hid.out (by assumption))).mono ?_; rintro ev wi ⟨v, rfl, rfl, rfl⟩)
                      | (go_at_call 41; refine (sub_left2 _ _ bt pl none (Hid.out (by assumption))).mono ?_; rintro ev wi ⟨rfl, hbi⟩; have HKi := Lib.hid (Law.below (Hid.out (by assumption)) hbi); have HQi := Lib.hid (IsRd.below (r := ⟨bt, bt.size, pl, none⟩) (Hid.out (by assumption)) hbi); clear hbi)
                      | (go_at_call 40; refine (rd_at' _ _ ⟨bt, bt.size, pl, none⟩ (Hid.out (by assumption))).mono ?_; simp only [Rd.place]; rintro ev wi ⟨rfl, hbi⟩; have HKi := Lib.hid (Law.below (Hid.out (by assumption)) hbi); have HQi := Lib.hid (IsRd.below (r := ⟨bt, bt.size, pl, none⟩) (Hid.out (by assumption)) hbi); clear hbi)
                      | (go_at_call 35; refine (itoa_any _ (by omega) (by omega) _ (HG.out.below (Hid.out (p := Law w _ _ _ _ _ _ _) (by assumption)).old).pow).mono ?_; rintro ev wi ⟨rfl, hbi⟩; have HKi := Lib.hid (Law.below (Hid.out (by assumption)) hbi); have HQi := Lib.hid (IsRd.below (r := ⟨bt, bt.size, pl, none⟩) (Hid.out (by assumption)) hbi); clear hbi)
                      | (go_at_call 43; refine (tell_any .nilIface 0 (-1) _ .nil (HG.out.below (Hid.out (p := Law w _ _ _ _ _ _ _) (by assumption)).old).err).mono ?_; rintro ev wi ⟨rfl, hbi⟩; have HKi := Lib.hid (Law.below (Hid.out (by assumption)) hbi); have HQi := Lib.hid (IsRd.below (r := ⟨bt, bt.size, pl, none⟩) (Hid.out (by assumption)) hbi); clear hbi))
                    go_meet
                    rw [HOP.out]
                    exact ⟨rfl, by assumption⟩
                  | some x =>
                    obtain ⟨e0, p0⟩ := x
                    have hbt := hbn _ her
                    have HBT := Lib.hid hbt
                    clear hbt
                    obtain ⟨e1, e2⟩ := hin e0 p0 her
                    rw [her] at hsub hop
                    have HSUB := Lib.hid hsub
                    obtain ⟨s6, hs6, _, k6⟩ := cat_named s5 (itoaB e0) (by have : (itoaB e0).size ≤ 21 := itoaB_size (by omega) (by omega); omega)
                    have HOP := Lib.hid (show r.op 3 n = (s6, r3) by rw [hop, ← hs6, ← hs5, ← hs4, ← hs3, ← hs2, ← hs1]; rfl)
                    clear hsub hop hbn
                    go_wp2_with (first
                      | (go_at_call 39; refine (rd_sub _ n _ r HX.out.rd HP1.out).mono ?_; rintro ev w2 ⟨g', rfl, hg', h2, hq, h3⟩; rw [HR3.out] at h2; rw [HSUB.out] at hq; have HK2 := Lib.hid (HX.out.step h2 h3); have HQ := Lib.hid hq; have hn0 : w.heap.size < g' := (by omega); have hn1 : gw < g' := (by omega); have hn2 : F < g' := (by omega); clear h2 h3 hq)
                      | (go_at_call 40; refine (sub_at _ _ bt pl (some (e0, p0)) (Hid.out (by assumption))).mono ?_; rintro ev wi ⟨rfl, hbi⟩; have HKi := Lib.hid (Law.below (Hid.out (by assumption)) hbi); have HQi := Lib.hid (IsRd.below (r := ⟨bt, 0, pl, some (e0, p0)⟩) (Hid.out (by assumption)) hbi); clear hbi)
                      | (go_at_call 41; refine (sub_left _ _ bt pl (some (e0, p0)) (Hid.out (by assumption))).mono ?_; rintro ev wi ⟨rfl, hbi⟩; have HKi := Lib.hid (Law.below (Hid.out (by assumption)) hbi); have HQi := Lib.hid (IsRd.below (r := ⟨bt, 0, pl, some (e0, p0)⟩) (Hid.out (by assumption)) hbi); clear hbi)
                      | (go_at_call 34; refine (sub_bytes_some _ _ bt HBT.out pl (e0, p0) _ (Hid.out (by assumption))).mono ?_; rintro ev wi ⟨rfl, hqi, hgi⟩; have HKi := Lib.hid (Law.other (q := ⟨bt, 0, pl, some (e0, p0)⟩) (Hid.out (by assumption)) (Hid.out (by assumption)) hgi hn0 hn1 hn2); have HQi := Lib.hid hqi; clear hqi hgi)
                      | (go_at_call 42; refine (rd_err _ _ ⟨bt, 0, pl, some (e0, p0)⟩ (Hid.out (by assumption))).mono ?_; rintro ev wi ⟨v, rfl, hev, rfl⟩; have HEV := Lib.hid hev; obtain ⟨hh, rfl, _⟩ := hev)
                      | (go_at_call 35; refine (itoa_any _ (by omega) (by omega) _ (HG.out.below (Hid.out (p := Law w _ _ _ _ _ _ _) (by assumption)).old).pow).mono ?_; rintro ev wi ⟨rfl, hbi⟩; have HKi := Lib.hid (Law.below (Hid.out (by assumption)) hbi); have HQi := Lib.hid (IsRd.below (r := ⟨bt, 0, pl, some (e0, p0)⟩) (Hid.out (by assumption)) hbi); clear hbi)
                      | (go_at_call 43; refine (tell_any _ e0 p0 _ (ErrV.is (o := some (e0, p0)) (Hid.out (by assumption))) (HG.out.below (Hid.out (p := Law w _ _ _ _ _ _ _) (by assumption)).old).err).mono ?_; rintro ev wi ⟨rfl, hbi⟩; have HKi := Lib.hid (Law.below (Hid.out (by assumption)) hbi); have HQi := Lib.hid (IsRd.below (r := ⟨bt, 0, pl, some (e0, p0)⟩) (Hid.out (by assumption)) hbi); clear hbi))
                    go_meet
                    rw [HOP.out]
                    exact ⟨rfl, by assumption⟩
                · have he := Lib.hid (Rd.op_else r (a := a) n (by omega))
                  go_wp2_with fail
                  go_meet
                  rw [he.out]
                  exact ⟨rfl, HX⟩
      case rest =>
        have HOS := Lib.hid (Rd.op_size HK.out.rd.ok HIN.out a n)
        obtain ⟨rfl, H1⟩ := hcut
        generalize (r.op a n).1 = gb at *
        generalize (r.op a n).2 = r2 at *
        have hgs := HOS.out
        obtain ⟨o1, o2, o3, o4⟩ := H1.out.rd.ok
        have z1 := itoaB_size (n := (r2.s.size : Int) - (r2.at_ : Int)) (by omega) (by omega)
        have hpl0 : -9223372036854775808 ≤ r2.place := by unfold Rd.place; omega
        have hpl1 : r2.place ≤ 9223372036854775807 := by unfold Rd.place; omega
        have z2 := itoaB_size hpl0 hpl1
        obtain ⟨s1, hs1, g1, k1⟩ := cat_named gb ⟨#[124]⟩ (by rw [bar_size]; omega)
        obtain ⟨s2, hs2, g2, k2⟩ := cat_named s1 (itoaB ((r2.s.size : Int) - (r2.at_ : Int))) (by rw [bar_size] at g1; omega)
        obtain ⟨s3, hs3, g3, k3⟩ := cat_named s2 ⟨#[32]⟩ (by rw [bar_size] at g1; rw [sp_size]; omega)
        obtain ⟨s4, hs4, g4, k4⟩ := cat_named s3 (itoaB r2.place) (by rw [bar_size] at g1; rw [sp_size] at g3; omega)
        have HCAT := Lib.hid (show ys.getD k ⟨#[]⟩ = s4 by rw [HL.out]; unfold Rd.line bar blank; rw [hs1, hs2, hs3, hs4])
        clear g1 g2 g3 g4
        have d0 := line_of H1.out HKL HCAT
        have HD := Lib.hid (H1.out.below ((Below.refl _ _).drew))
        go_wp2_with fail
        go_region_held3 (fun w' => w'.cell? ⟨gw, k, none⟩ = some (.string s4))
          (first | (exact line_of (Hid.out (by assumption)) HKL HCAT))
          (first
            | (go_at_call 35; refine (itoa_any _ (by omega) (by omega) _ (HG.out.below (Hid.out (p := Law w _ _ _ _ _ _ _) (by assumption)).old).pow).mono ?_; rintro ev wi ⟨rfl, hbi⟩; have HKi := Lib.hid (Law.below (Hid.out (by assumption)) hbi))
            | (go_at_call 41; refine (rd_left' _ _ r2 (Law.rd (Hid.out (p := Law w _ _ _ _ _ _ r2) (by assumption)))).mono ?_; rintro ev wi ⟨rfl, hbi⟩; have HKi := Lib.hid (Law.below (Hid.out (by assumption)) hbi))
            | (go_at_call 40; refine (rd_at' _ _ r2 (Law.rd (Hid.out (p := Law w _ _ _ _ _ _ r2) (by assumption)))).mono ?_; rintro ev wi ⟨rfl, hbi⟩; have HKi := Lib.hid (Law.below (Hid.out (by assumption)) hbi)))
        go_wp2_with fail
        go_roundw
        case rel => exact ⟨k + 1, by omega, by go_num, Lib.hid (by rw [HR.out]; exact HKi.out)⟩
        case measure => simp [intOf]; omega
    · have HU := Lib.hid (show l.take k = l from List.take_of_length_le (by omega))
      have HEQ := Lib.hid (show E = (Rd.run ⟨s, 0, off, none⟩ (l.take k)).err.elim 0 (·.1) ∧ p = (Rd.run ⟨s, 0, off, none⟩ (l.take k)).err.elim (-1) (·.2) by rw [HU.out]; exact HEP.out)
      generalize Rd.run ⟨s, 0, off, none⟩ (l.take k) = r at *
      generalize Rd.lines ⟨s, 0, off, none⟩ l = ys at *
      obtain ⟨d0, d1⟩ := fault_of HK.out
      have HD := Lib.hid (HK.out.below ((Below.refl _ _).drew))
      go_wp2_with fail
      go_region_held3 (fun w' => w'.cell? ⟨F, 0, none⟩ = some (.int .i64 E) ∧ w'.cell? ⟨F, 1, none⟩ = some (.int .i64 p))
        (first | (exact fault_of (Hid.out (by assumption))))
        (first
          | (go_at_call 42; refine (rd_err _ _ r (Law.rd (Hid.out (p := Law w _ _ _ _ _ _ r) (by assumption)))).mono ?_; rintro ev wi ⟨v, rfl, hev, rfl⟩; have HEV := Lib.hid hev; clear hev)
          | (go_at_call 16; refine (placed_any _ E p _ (by rw [HEQ.out.1, HEQ.out.2]; exact HEV.out.is) (HG.out.below (Hid.out (p := Law w _ _ _ _ _ _ _) (by assumption)).old).err).mono ?_; rintro ev wi ⟨rfl, hbi⟩; have HKi := Lib.hid (Law.below (Hid.out (by assumption)) hbi)))
      go_wp2_with fail
      go_ret
      exact ⟨by simp, HKi.out.old⟩
theorem law_start0 {w w3 : World} {e p : Int} {s : ByteArray} {off : Int}
    (hr : IsRd (w.alloc (.cells #[.string s, .int .i64 0, .int .i64 off, .nilIface] 194)) w.heap.size ⟨s, 0, off, none⟩)
    (hb : Below (w.alloc (.cells #[.string s, .int .i64 0, .int .i64 off, .nilIface] 194)).heap.size (w.alloc (.cells #[.string s, .int .i64 0, .int .i64 off, .nilIface] 194)) w3) :
    Law w (w3.alloc (.cells #[.int .i64 e, .int .i64 p] 33)) w3.heap.size w3.heap.size [] e p ⟨s, 0, off, none⟩ := by
  have hb2 : Below w3.heap.size w3 (w3.alloc (.cells #[.int .i64 e, .int .i64 p] 33)) := (Below.refl _ _).alloc (Nat.le_refl _) _
  have hsz := hb.size
  simp at hsz
  exact ⟨(hr.below hb).below hb2, (((Below.refl _ w).alloc (Nat.le_refl _) _).trans (hb.mono (by simp))).trans (hb2.mono (by omega)), fun k hk => absurd hk (by simp), by omega, by omega, by simp, by simp,
    by rw [heap_cell (heap_alloc_new w3 _)]; rfl, by rw [heap_cell (heap_alloc_new w3 _)]; rfl⟩
set_option maxRecDepth 100000 in
set_option maxHeartbeats 4000000 in
theorem wire_nil (s : ByteArray) (off : Int) (A : Option Addr) (c : Nat) (w : World) (hs : (s.size : Int) ≤ 100) (h0 : 0 ≤ off) (h1 : off ≤ 1099511627776) (hg : Glob w) :
    Calls Tryd.prog 8 #[.string s, .int .i64 off, .slice A 0 c] w fun e w' => e = .returned (.bool true) ∧ Below w.heap.size w w' := by
  have HG := Lib.hid hg
  clear hg
  go_enter Tryd.func8, Tryd.ntmps8
  go_wp2_with (first
    | (go_at_call 32; refine (rd_new s off _ (by omega) h0 (by omega)).mono ?_; rintro e w1 ⟨rfl, h1', rfl⟩; have HR0 := Lib.hid h1'; clear h1')
    | (go_at_call 33; refine (reads_nil s off A c _ (by omega) h0 h1).mono ?_; rintro e w3 ⟨rfl, hb3⟩; have HB3 := Lib.hid hb3; clear hb3))
  have HK := Lib.hid (law_start0 (e := 0) (p := -1) HR0.out HB3.out)
  clear HR0 HB3
  generalize hF : w3.heap.size = F at *
  generalize w3.alloc (.cells #[.int .i64 0, .int .i64 (-1)] 33) = w4 at *
  clear hF
  refine wp_loop_rounds 1 ?_
  rw [rounds_succ]
  go_wp2_with fail
  obtain ⟨d0, d1⟩ := fault_of HK.out
  have HD := Lib.hid (HK.out.below ((Below.refl _ _).drew))
  go_region_held3 (fun w' => w'.cell? ⟨F, 0, none⟩ = some (.int .i64 0) ∧ w'.cell? ⟨F, 1, none⟩ = some (.int .i64 (-1)))
    (first | (exact fault_of (Hid.out (by assumption))))
    (first
      | (go_at_call 42; refine (rd_err _ _ ⟨s, 0, off, none⟩ (Law.rd (Hid.out (p := Law w _ _ _ _ _ _ _) (by assumption)))).mono ?_; rintro ev wi ⟨v, rfl, hev, rfl⟩; have HEV := Lib.hid hev; clear hev)
      | (go_at_call 16; refine (placed_any _ 0 (-1) _ (ErrV.is (o := none) HEV.out) (HG.out.below (Hid.out (p := Law w _ _ _ _ _ _ _) (by assumption)).old).err).mono ?_; rintro ev wi ⟨rfl, hbi⟩; have HKi := Lib.hid (Law.below (Hid.out (by assumption)) hbi)))
  go_wp2_with fail
  go_ret
  exact ⟨by simp, HKi.out.old⟩
/-- The law answers true. -/
theorem wire_any (s : ByteArray) (off : Int) (v : Value) (l : List (Int × Int)) (w : World) (hv : RPairs w v l) (hg : Glob w) :
    Calls Tryd.prog 8 #[.string s, .int .i64 off, v] w fun e w' => e = .returned (.bool true) ∧ Below w.heap.size w w' := by
  by_cases hgd : (100 : Int) < s.size ∨ (30 : Int) < l.length ∨ off < 0 ∨ 1099511627776 < off
  · obtain ⟨c, ⟨rfl, A, rfl⟩ | ⟨_, b, o, rfl, _⟩⟩ := hv
    · exact wire_guard s off A 0 c w hgd
    · exact wire_guard s off _ l.length c w hgd
  · obtain ⟨c, ⟨rfl, A, rfl⟩ | ⟨hne, b, o, rfl, hc⟩⟩ := hv
    · exact wire_nil s off A c w (by omega) (by omega) (by omega) hg
    · exact wire_some s off b o c l w hne (by omega) (by omega) (by omega) (by omega) hc hg
end Go.Proofs.YtpnpikanmgoaiaaDoor
