/-
  The contracts of wire.Reader's methods: each makes of the reader in memory just what the plain reader's operation makes of the plain one.
-/
import Derived.Test.YtpnpikanmgoaiaaDoorErr
import Derived.Test.YtpnpikanmgoaiaaDoorRd
import Derived.Lib.ConvBytes
namespace Go.Proofs.YtpnpikanmgoaiaaDoor
open Go.RowKit

/-- An error's value for what a reader has noted. -/
def ErrV (w : World) (v : Value) : Option (Int × Int) → Prop
  | none => v = .nilIface
  | some (e, p) => ∃ h, v = .iface 127 (.pointer (some ⟨h, 0, none⟩)) ∧ w.heap[h]? = some (.cells #[.int .i64 e, .int .i64 p] 129 (0, 0))

/-- Block g is the reader r. -/
structure IsRd (w : World) (g : Nat) (r : Rd) : Prop where
  ok : r.ok
  blk : ∃ ev, w.heap[g]? = some (.cells #[.string r.s, .int .i64 r.at_, .int .i64 r.off, ev] 194 (0, 0)) ∧ ErrV w ev r.err

theorem heap_lt {w : World} {g : Nat} {o : Obj} (h : w.heap[g]? = some o) : g < w.heap.size := (Array.getElem?_eq_some_iff.1 h).1
theorem heap_ne {w : World} {g g' : Nat} {t t' : TypeId} {cs cs' : Array Value} (h : w.heap[g]? = some (.cells cs t (0, 0))) (h' : w.heap[g']? = some (.cells cs' t' (0, 0))) (hne : t ≠ t') : g ≠ g' := by
  rintro rfl
  rw [h] at h'
  injection h' with h'
  injection h' with _ ht
  exact hne ht
theorem heap_set {w : World} {g : Nat} {t : TypeId} {cs : Array Value} (h : w.heap[g]? = some (.cells cs t (0, 0))) (i : Nat) (u : Value) : (w.setCell ⟨g, i, none⟩ u).heap[g]? = some (.cells (cs.setIfInBounds i u) t (0, 0)) := by
  simp [World.setCell, Array.getElem?_modify, h]
theorem heap_cell {w : World} {g : Nat} {t : TypeId} {cs : Array Value} (h : w.heap[g]? = some (.cells cs t (0, 0))) (i : Nat) : w.cell? ⟨g, i, none⟩ = cs[i]? := cell_of_row w g i cs t (0, 0) h
theorem heap_frozen {w : World} {g : Nat} {t : TypeId} {cs : Array Value} (h : w.heap[g]? = some (.cells cs t (0, 0))) (i : Nat) : w.frozen? ⟨g, i, none⟩ = false := by simp [World.frozen?, h]

theorem heap_new (w : World) (o : Obj) (n : Nat) (hn : n = w.heap.size) : (w.alloc o).heap[n]? = some o := by subst hn; exact heap_alloc_new w o

theorem ErrV.is {w : World} {v : Value} {o : Option (Int × Int)} (h : ErrV w v o) : IsErr w v (o.elim 0 (·.1)) (o.elim (-1) (·.2)) := by
  cases o with
  | none => cases (show v = .nilIface from h); exact .nil
  | some x =>
    obtain ⟨e, p⟩ := x
    obtain ⟨k, rfl, hk⟩ := h
    exact .at_ k e p (by rw [heap_cell hk]; rfl) (by rw [heap_cell hk]; rfl)
theorem ErrV.shape {w : World} {v : Value} {o : Option (Int × Int)} (h : ErrV w v o) : v = .nilIface ∨ ∃ T x, v = .iface T x := by
  cases o with
  | none => exact .inl h
  | some x =>
    obtain ⟨e, p⟩ := x
    obtain ⟨k, rfl, _⟩ := h
    exact .inr ⟨_, _, rfl⟩
theorem ErrV.far {w w' : World} {v : Value} {o : Option (Int × Int)} (h : ErrV w v o) {row : Option Nat} (hg : w.grownBy w' row) (hr : ∀ k cs, row = some k → w.heap[k]? ≠ some (.cells cs 129 (0, 0))) : ErrV w' v o := by
  cases o with
  | none => exact h
  | some x =>
    obtain ⟨e, p⟩ := x
    obtain ⟨k, rfl, hk⟩ := h
    exact ⟨k, rfl, (hg.block k (heap_lt hk) (fun e => hr _ _ e.symm hk)).trans hk⟩
theorem ErrV.below {w w' : World} {v : Value} {o : Option (Int × Int)} (h : ErrV w v o) (hb : Below w.heap.size w w') : ErrV w' v o := by
  cases o with
  | none => exact h
  | some x =>
    obtain ⟨e, p⟩ := x
    obtain ⟨k, rfl, hk⟩ := h
    exact ⟨k, rfl, (hb.block k (heap_lt hk)).trans hk⟩
theorem IsRd.cells {w : World} {g : Nat} {r : Rd} (h : IsRd w g r) (hn : r.err = none) : w.cell? ⟨g, 0, none⟩ = some (.string r.s) ∧ w.cell? ⟨g, 1, none⟩ = some (.int .i64 r.at_) ∧ w.cell? ⟨g, 2, none⟩ = some (.int .i64 r.off) ∧ w.cell? ⟨g, 3, none⟩ = some .nilIface ∧ w.frozen? ⟨g, 1, none⟩ = false := by
  obtain ⟨ev, hb, he⟩ := h.blk
  rw [hn] at he
  cases (show ev = .nilIface from he)
  exact ⟨by rw [heap_cell hb]; rfl, by rw [heap_cell hb]; rfl, by rw [heap_cell hb]; rfl, by rw [heap_cell hb]; rfl, heap_frozen hb 1⟩
theorem IsRd.cell_err {w : World} {g : Nat} {r : Rd} {e p : Int} (h : IsRd w g r) (hn : r.err = some (e, p)) : ∃ k, w.cell? ⟨g, 3, none⟩ = some (.iface 127 (.pointer (some ⟨k, 0, none⟩))) := by
  obtain ⟨ev, hb, he⟩ := h.blk
  rw [hn] at he
  obtain ⟨k, rfl, _⟩ := he
  exact ⟨k, by rw [heap_cell hb]; rfl⟩
theorem IsRd.lt {w : World} {g : Nat} {r : Rd} (h : IsRd w g r) : g < w.heap.size := let ⟨_, hb, _⟩ := h.blk; heap_lt hb
theorem IsRd.far {w w' : World} {g : Nat} {r : Rd} (h : IsRd w g r) {row : Option Nat} (hg : w.grownBy w' row) (hr : row ≠ some g) (hr2 : ∀ k cs, row = some k → w.heap[k]? ≠ some (.cells cs 129 (0, 0))) : IsRd w' g r := by
  obtain ⟨ev, hb, he⟩ := h.blk
  exact ⟨h.ok, ev, (hg.block g (heap_lt hb) (fun e => hr e.symm)).trans hb, he.far hg hr2⟩
theorem IsRd.below {w w' : World} {g : Nat} {r : Rd} (h : IsRd w g r) (hb : Below w.heap.size w w') : IsRd w' g r := by
  obtain ⟨ev, hb', he⟩ := h.blk
  exact ⟨h.ok, ev, (hb.block g (heap_lt hb')).trans hb', he.below hb⟩
theorem grown_drewN {a w : World} {row : Option Nat} (h : a.grownBy w row) (n : Nat) : a.grownBy (w.drewN n) row := ⟨h.os, h.tape, h.output, h.size, h.block⟩
theorem grown_below {a w : World} (h : Below a.heap.size a w) (row : Option Nat) : a.grownBy w row := ⟨h.os, h.tape, h.output, h.size, fun i hi _ => h.block i hi⟩
theorem below_none {a w : World} (h : a.grownBy w none) : Below a.heap.size a w := ⟨h.os, h.tape, h.output, h.size, fun i hi => h.block i hi (by simp)⟩
theorem below_drewN' {B : Nat} {a w : World} (h : Below B a w) (n : Nat) : Below B a (w.drewN n) := ⟨h.os, h.tape, h.output, h.size, h.block⟩
theorem below_old {g : Nat} {a w w' : World} (h : Below g a w) (hs : g ≤ w.heap.size) (k : Below w.heap.size w w') : Below g a w' := h.trans (k.mono hs)
theorem grown_set (w : World) (g i : Nat) (u : Value) : w.grownBy (w.setCell ⟨g, i, none⟩ u) (some g) :=
  ⟨rfl, rfl, rfl, by simp [World.setCell], fun k _ hk => Below.heap_setCell w ⟨g, i, none⟩ u k (fun e => hk (by simp [e]))⟩
theorem grown_trans' {a b c : World} {row : Option Nat} (h : a.grownBy b row) (k : b.grownBy c row) : a.grownBy c row :=
  ⟨k.os.trans h.os, k.tape.trans h.tape, k.output.trans h.output, Nat.le_trans h.size k.size, fun i hi hne => (k.block i (Nat.lt_of_lt_of_le hi h.size) hne).trans (h.block i hi hne)⟩

/-- Err -/
theorem rd_err (g : Nat) (w : World) (r : Rd) (h : IsRd w g r) : Calls Tryd.prog 42 #[.pointer (some ⟨g, 0, none⟩)] w fun e w' => ∃ v, e = .returned v ∧ ErrV w v r.err ∧ w' = w := by
  obtain ⟨ev, hb, he⟩ := h.blk
  have c3 : w.cell? ⟨g, 3, none⟩ = some ev := by rw [heap_cell hb]; rfl
  have HE := Lib.hid he
  clear he hb h
  go_enter Tryd.func42, Tryd.ntmps42
  go_wp2
  go_ret
  exact ⟨ev, rfl, HE.out, rfl⟩

/-- At -/
theorem rd_at (g : Nat) (w : World) (r : Rd) (h : IsRd w g r) : Calls Tryd.prog 40 #[.pointer (some ⟨g, 0, none⟩)] w fun e w' => e = .returned (.int .i64 r.place) ∧ ∃ n, w' = w.drewN n := by
  obtain ⟨ev, hb, _⟩ := h.blk
  obtain ⟨o1, o2, o3, o4⟩ := h.ok
  have c1 : w.cell? ⟨g, 1, none⟩ = some (.int .i64 r.at_) := by rw [heap_cell hb]; rfl
  have c2 : w.cell? ⟨g, 2, none⟩ = some (.int .i64 r.off) := by rw [heap_cell hb]; rfl
  clear hb h
  unfold Rd.place
  go_enter Tryd.func40, Tryd.ntmps40
  go_wp2
  go_quiet (fail)
  go_wp2
  go_ret
  exact ⟨by simp, _, rfl⟩

/-- Left -/
theorem rd_left (g : Nat) (w : World) (r : Rd) (h : IsRd w g r) : Calls Tryd.prog 41 #[.pointer (some ⟨g, 0, none⟩)] w fun e w' => e = .returned (.int .i64 ((r.s.size : Int) - r.at_)) ∧ ∃ n, w' = w.drewN n := by
  obtain ⟨ev, hb, _⟩ := h.blk
  obtain ⟨o1, o2, o3, o4⟩ := h.ok
  have c1 : w.cell? ⟨g, 1, none⟩ = some (.int .i64 r.at_) := by rw [heap_cell hb]; rfl
  have c0 : w.cell? ⟨g, 0, none⟩ = some (.string r.s) := by rw [heap_cell hb]; rfl
  clear hb h
  go_enter Tryd.func41, Tryd.ntmps41
  go_wp2
  go_quiet (fail)
  go_wp2
  go_ret
  exact ⟨by simp, _, rfl⟩

/-- Fail, nothing noted yet -/
theorem rd_fail_none (g : Nat) (E p : Int) (w : World) (r : Rd) (h : IsRd w g r) (hn : r.err = none) :
    Calls Tryd.prog 44 #[.pointer (some ⟨g, 0, none⟩), .int .i64 E, .int .i64 p] w fun e w' => e = .returned (.tuple #[]) ∧ IsRd w' g (r.fail E p) ∧ w.grownBy w' (some g) := by
  obtain ⟨ev, hb, he⟩ := h.blk
  have hok := h.ok
  rw [hn] at he
  cases (show ev = .nilIface from he)
  have hlt := h.lt
  have c3 : w.cell? ⟨g, 3, none⟩ = some .nilIface := by rw [heap_cell hb]; rfl
  have f3 : w.frozen? ⟨g, 3, none⟩ = false := heap_frozen hb 3
  have HB := Lib.hid hb
  have HN := Lib.hid hn
  clear h hb hn he
  go_enter Tryd.func44, Tryd.ntmps44
  go_wp2
  go_end0
  refine ⟨rfl, ⟨Rd.fail_ok hok E p, ?_⟩, ?_⟩
  · rw [Rd.fail_none HN.out]
    refine ⟨.iface 127 (.pointer (some ⟨w.heap.size, 0, none⟩)), ?_, ⟨w.heap.size, rfl, ?_⟩⟩
    · rw [Below.heap_alloc _ _ _ (by simpa [World.setCell] using hlt), heap_set HB.out]
      rfl
    · exact heap_new _ _ _ (by simp [World.setCell])
  · exact grown_trans' (grown_set w g 3 _) (World.grownBy_alloc _ _ _)
theorem rd_fail_some (g : Nat) (E p : Int) (w : World) (r : Rd) (h : IsRd w g r) {x : Int × Int} (hn : r.err = some x) :
    Calls Tryd.prog 44 #[.pointer (some ⟨g, 0, none⟩), .int .i64 E, .int .i64 p] w fun e w' => e = .returned (.tuple #[]) ∧ IsRd w' g (r.fail E p) ∧ w.grownBy w' (some g) := by
  obtain ⟨ev, hb, he⟩ := h.blk
  obtain ⟨e0, p0⟩ := x
  have H := Lib.hid h
  rw [hn] at he
  obtain ⟨k, rfl, hk⟩ := he
  have c3 : w.cell? ⟨g, 3, none⟩ = some (.iface 127 (.pointer (some ⟨k, 0, none⟩))) := by rw [heap_cell hb]; rfl
  have hr := Lib.hid (Rd.fail_some hn E p)
  clear h hb hn hk
  go_enter Tryd.func44, Tryd.ntmps44
  go_wp2
  go_end0
  exact ⟨rfl, by rw [hr.out]; exact H.out, World.grownBy.refl _ _⟩
theorem rd_fail (g : Nat) (E p : Int) (w : World) (r : Rd) (h : IsRd w g r) :
    Calls Tryd.prog 44 #[.pointer (some ⟨g, 0, none⟩), .int .i64 E, .int .i64 p] w fun e w' => e = .returned (.tuple #[]) ∧ IsRd w' g (r.fail E p) ∧ w.grownBy w' (some g) := by
  cases hn : r.err with
  | none => exact rd_fail_none g E p w r h hn
  | some x => exact rd_fail_some g E p w r h hn

theorem IsRd.set_at {w : World} {g : Nat} {r : Rd} (h : IsRd w g r) (k : Nat) (hk : k ≤ r.s.size) (x : Int) (hx : x = (k : Int)) : IsRd (w.setCell ⟨g, 1, none⟩ (.int .i64 x)) g { r with at_ := k } := by
  subst hx
  obtain ⟨ev, hb, he⟩ := h.blk
  refine ⟨⟨hk, h.ok.2⟩, ev, heap_set hb 1 _, ?_⟩
  show ErrV _ ev r.err
  cases hr : r.err with
  | none => rw [hr] at he; exact he
  | some x =>
    obtain ⟨e, p⟩ := x
    rw [hr] at he
    obtain ⟨j, rfl, hj⟩ := he
    exact ⟨j, rfl, (Below.heap_setCell _ _ _ _ (heap_ne hj hb (by decide))).trans hj⟩

/-- Bytes: something is noted already -/
theorem rd_bytes_some (g : Nat) (n : Int) (w : World) (r : Rd) (h : IsRd w g r) {x : Int × Int} (hn : r.err = some x) :
    Calls Tryd.prog 34 #[.pointer (some ⟨g, 0, none⟩), .int .i64 n] w fun e w' => e = .returned (.string ⟨#[]⟩) ∧ w' = w := by
  obtain ⟨ev, hb, he⟩ := h.blk
  obtain ⟨e0, p0⟩ := x
  rw [hn] at he
  obtain ⟨k, rfl, hk⟩ := he
  have c3 : w.cell? ⟨g, 3, none⟩ = some (.iface 127 (.pointer (some ⟨k, 0, none⟩))) := by rw [heap_cell hb]; rfl
  clear h hb hn hk
  go_enter Tryd.func34, Tryd.ntmps34
  go_wp2_with fail
  go_ret
  exact ⟨rfl, rfl⟩
theorem rd_bytes_neg (g : Nat) (n : Int) (w : World) (r : Rd) (h : IsRd w g r) (hn : r.err = none) (h0 : n < 0) :
    Calls Tryd.prog 34 #[.pointer (some ⟨g, 0, none⟩), .int .i64 n] w fun e w' => e = .returned (.string ⟨#[]⟩) ∧ IsRd w' g (r.fail 2 r.place) ∧ w.grownBy w' (some g) := by
  obtain ⟨ev, hb, he⟩ := h.blk
  rw [hn] at he
  cases (show ev = .nilIface from he)
  have c3 : w.cell? ⟨g, 3, none⟩ = some .nilIface := by rw [heap_cell hb]; rfl
  have H := Lib.hid h
  clear h hb hn he
  go_enter Tryd.func34, Tryd.ntmps34
  go_wp2_with (first | (go_at_call 40; refine (rd_at g _ r H.out).mono ?_; rintro e w' ⟨rfl, nd, rfl⟩) | (go_at_call 44; refine (rd_fail g 2 _ _ r (H.out.below (below_drewN' (Below.refl _ _) _))).mono ?_; rintro e w' ⟨rfl, h1, h2⟩; have H1 := Lib.hid h1; clear h1))
  go_ret
  exact ⟨rfl, H1.out, grown_trans' (grown_drewN (World.grownBy.refl _ _) _) h2⟩
theorem rd_bytes_miss (g : Nat) (n : Int) (w : World) (r : Rd) (h : IsRd w g r) (hn : r.err = none) (h0 : 0 ≤ n) (h1 : (r.s.size : Int) - r.at_ < n) :
    Calls Tryd.prog 34 #[.pointer (some ⟨g, 0, none⟩), .int .i64 n] w fun e w' => e = .returned (.string ⟨#[]⟩) ∧ IsRd w' g (r.fail 7 r.place) ∧ w.grownBy w' (some g) := by
  obtain ⟨ev, hb, he⟩ := h.blk
  rw [hn] at he
  cases (show ev = .nilIface from he)
  have c3 : w.cell? ⟨g, 3, none⟩ = some .nilIface := by rw [heap_cell hb]; rfl
  have H := Lib.hid h
  clear h hb hn he
  go_enter Tryd.func34, Tryd.ntmps34
  go_wp2_with (first | (go_at_call 41; refine (rd_left g _ r H.out).mono ?_; rintro e w' ⟨rfl, nl, rfl⟩) | (go_at_call 40; refine (rd_at g _ r (H.out.below (below_drewN' (Below.refl _ _) _))).mono ?_; rintro e w' ⟨rfl, nd, rfl⟩) | (go_at_call 44; refine (rd_fail g 7 _ _ r (H.out.below (below_drewN' (Below.refl _ _) _))).mono ?_; rintro e w' ⟨rfl, h1, h2⟩; have H1 := Lib.hid h1; clear h1))
  go_ret
  exact ⟨rfl, H1.out, grown_trans' (grown_drewN (World.grownBy.refl _ _) _) h2⟩
theorem rd_bytes_ok (g : Nat) (n : Nat) (w : World) (r : Rd) (h : IsRd w g r) (hn : r.err = none) (h1 : r.at_ + n ≤ r.s.size) :
    Calls Tryd.prog 34 #[.pointer (some ⟨g, 0, none⟩), .int .i64 (n : Int)] w fun e w' => e = .returned (.string (r.s.extract r.at_ (r.at_ + n))) ∧ IsRd w' g { r with at_ := r.at_ + n } ∧ w.grownBy w' (some g) := by
  obtain ⟨ev, hb, he⟩ := h.blk
  rw [hn] at he
  cases (show ev = .nilIface from he)
  obtain ⟨o1, o2, o3, o4⟩ := h.ok
  have c3 : w.cell? ⟨g, 3, none⟩ = some .nilIface := by rw [heap_cell hb]; rfl
  have c1 : w.cell? ⟨g, 1, none⟩ = some (.int .i64 r.at_) := by rw [heap_cell hb]; rfl
  have c0 : w.cell? ⟨g, 0, none⟩ = some (.string r.s) := by rw [heap_cell hb]; rfl
  have f1 : w.frozen? ⟨g, 1, none⟩ = false := heap_frozen hb 1
  have H := Lib.hid h
  clear h hb hn he
  go_enter Tryd.func34, Tryd.ntmps34
  go_wp2_with (first | (go_at_call 41; refine (rd_left g _ r H.out).mono ?_; rintro e w' ⟨rfl, nl, rfl⟩))
  go_quiet (fail)
  go_wp2
  go_ret
  refine ⟨rfl, ?_, grown_drewN (grown_trans' (grown_drewN (World.grownBy.refl w _) nl) (grown_set _ g 1 _)) _⟩
  have h2 := (H.out.below (below_drewN' (Below.refl _ _) nl)).set_at (r.at_ + n) h1 ((r.at_ : Int) + n) (by simp)
  exact h2.below (below_drewN' (Below.refl _ _) nq)

/-- Bytes, whatever it meets. -/
theorem rd_bytes (g : Nat) (n : Int) (w : World) (r : Rd) (h : IsRd w g r) :
    Calls Tryd.prog 34 #[.pointer (some ⟨g, 0, none⟩), .int .i64 n] w fun e w' => e = .returned (.string (r.bytes n).1) ∧ IsRd w' g (r.bytes n).2 ∧ w.grownBy w' (some g) := by
  cases hn : r.err with
  | some x =>
    have hr : r.bytes n = (⟨#[]⟩, r) := by unfold Rd.bytes; rw [hn]; rfl
    rw [hr]
    exact (rd_bytes_some g n w r h hn).mono fun e w' ⟨h1, h2⟩ => ⟨h1, h2 ▸ h, h2 ▸ World.grownBy.refl _ _⟩
  | none =>
    by_cases h0 : n < 0
    · have hr : r.bytes n = (⟨#[]⟩, r.fail 2 r.place) := by unfold Rd.bytes; rw [hn, if_neg (by simp), if_pos h0]
      rw [hr]
      exact rd_bytes_neg g n w r h hn h0
    · by_cases h1 : (r.s.size : Int) - r.at_ < n
      · have hr : r.bytes n = (⟨#[]⟩, r.fail 7 r.place) := by unfold Rd.bytes; rw [hn, if_neg (by simp), if_neg h0, if_pos h1]
        rw [hr]
        exact rd_bytes_miss g n w r h hn (by omega) h1
      · obtain ⟨m, rfl⟩ := Int.eq_ofNat_of_zero_le (Int.not_lt.1 h0)
        have hr : r.bytes (m : Int) = (r.s.extract r.at_ (r.at_ + m), { r with at_ := r.at_ + m }) := by unfold Rd.bytes; rw [hn, if_neg (by simp), if_neg h0, if_neg h1, Int.toNat_natCast]
        rw [hr]
        exact rd_bytes_ok g m w r h hn (by omega)

theorem toList_length (s : ByteArray) : s.data.toList.length = s.size := by rw [Array.length_toList]; rfl
theorem take_snoc' (s : ByteArray) (k : Nat) (h : k < s.size) : s.data.toList.take (k + 1) = s.data.toList.take k ++ [s[k]] := by
  rw [List.take_succ_eq_append_getElem (by rw [toList_length]; exact h)]; rfl
theorem beNum_snoc (s : ByteArray) (k : Nat) (h : k < s.size) : Rd.beNum (s.data.toList.take (k + 1)) = Rd.step (Rd.beNum (s.data.toList.take k)) s[k] := by
  rw [take_snoc' s k h]; unfold Rd.beNum; rw [List.foldl_append]; rfl

/-- Num -/
theorem rd_num (g : Nat) (n : Int) (w : World) (r : Rd) (h : IsRd w g r) :
    Calls Tryd.prog 36 #[.pointer (some ⟨g, 0, none⟩), .int .i64 n] w fun e w' => e = .returned (.int .i64 (r.num n).1) ∧ IsRd w' g (r.num n).2 ∧ w.grownBy w' (some g) := by
  have HR := Lib.hid (show r.num n = (Rd.beNum ((r.numPre n).bytes n).1.data.toList, ((r.numPre n).bytes n).2) from rfl)
  obtain ⟨ev, hb, he⟩ := h.blk
  have c3 : w.cell? ⟨g, 3, none⟩ = some ev := by rw [heap_cell hb]; rfl
  have H := Lib.hid h
  have hsz := Rd.bytes_size (Rd.numPre_ok h.ok n) n
  have hcond : (ev = .nilIface ∧ 1 ≤ n ∧ n ≤ 8 ∧ r.numPre n = r) ∨ ((∃ T x, ev = .iface T x) ∧ r.numPre n = r) ∨ (ev = .nilIface ∧ n < 1 ∧ r.numPre n = r.fail 2 r.place) ∨ (ev = .nilIface ∧ 8 < n ∧ r.numPre n = r.fail 2 r.place) := by
    cases hn : r.err with
    | none =>
      rw [hn] at he
      by_cases h1 : n < 1
      · exact .inr (.inr (.inl ⟨he, h1, Rd.numPre_out hn (.inl h1)⟩))
      · by_cases h8 : 8 < n
        · exact .inr (.inr (.inr ⟨he, h8, Rd.numPre_out hn (.inr h8)⟩))
        · exact .inl ⟨he, by omega, by omega, Rd.numPre_in (by omega) (by omega)⟩
    | some x =>
      obtain ⟨e0, p0⟩ := x
      rw [hn] at he
      obtain ⟨k, rfl, _⟩ := he
      exact .inr (.inl ⟨⟨_, _, rfl⟩, Rd.numPre_some hn n⟩)
  have hne : ∀ (T : TypeId) (x : Value) (w : World), (binOp .eql 37 (.iface T x) .nilIface).run Tryd.prog w = .ok (.bool false) w := fun T x w => by simp [go_sem]
  have kb := fun (s : ByteArray) (W : World) => Lib.run_convert_string_bytes (P := Tryd.prog) W 9 150 5 s Tryd.underlying9 Tryd.underlying150 Tryd.underlying5
  clear h hb he
  generalize r.numPre n = r1 at *
  rcases hcond with ⟨rfl, hlo, hhi, hr1⟩ | ⟨⟨T, x, rfl⟩, hr1⟩ | ⟨rfl, hlo, hr1⟩ | ⟨rfl, hlo, hr1⟩
  all_goals
    subst hr1
    go_enter Tryd.func36, Tryd.ntmps36
    go_wp2_with (first
      | (go_at_call 40; refine (rd_at g _ r H.out).mono ?_; rintro e w' ⟨rfl, nd, rfl⟩)
      | (go_at_call 44; refine (rd_fail g 2 _ _ r (H.out.below (below_drewN' (Below.refl _ _) _))).mono ?_; rintro e wf ⟨rfl, h1, h2⟩; have HF1 := Lib.hid h1; have HF2 := Lib.hid h2; clear h1 h2)
      | (go_at_call 34
         first
         | refine (rd_bytes g n _ _ HF1.out).mono ?_
         | refine (rd_bytes g n _ _ H.out).mono ?_
         generalize hbq : (Rd.bytes _ n).1 = b at hsz
         have HBQ := Lib.hid hbq
         clear hbq
         rintro e w1 ⟨rfl, h1, h2⟩
         have H1 := Lib.hid h1
         have H2 : Hid (w.grownBy w1 (some g)) := by first | exact h2 | exact grown_trans' (grown_trans' (grown_drewN (World.grownBy.refl _ _) _) HF2.out) h2
         clear h1 h2))
    have hW : Below w1.heap.size w1 (Lib.bytesWorld w1 5 b) := ⟨rfl, rfl, rfl, by rw [Lib.bytesWorld_size]; omega, fun k hk => Lib.bytesWorld_at_old w1 5 b k hk⟩
    have hC : ∀ (k : Nat) (hk : k < b.size), (Lib.bytesWorld w1 5 b).cell? ⟨w1.heap.size, k, none⟩ = some (.int .u8 (b[k].toNat : Int)) := fun k hk => by
      rw [Lib.bytesWorld_cell w1 5 b k hk]
      have h' : k < b.data.toList.length := by rw [toList_length]; exact hk
      simp [List.getD_eq_getElem?_getD, List.getElem?_eq_getElem h']
      rfl
    generalize Lib.bytesWorld w1 5 b = W at *
    have HW := Lib.hid hW
    have HC := Lib.hid hC
    clear hW hC kb
    go_loop [5, 30] (fun x i => ∃ k : Nat, k ≤ b.size ∧ i = .int .i64 k ∧ x = .int .i64 (Rd.beNum (b.data.toList.take k))) (fun _ i => b.size - (intOf i).toNat)
    case atStart => exact ⟨0, Nat.zero_le _, rfl, rfl⟩
    case round =>
      obtain ⟨k, hk, rfl, rfl⟩ := hrel
      by_cases hlt : k < b.size
      · have hc := HC.out k hlt
        have HS := Lib.hid (beNum_snoc b k hlt)
        have hbd : 0 ≤ ((b[k]).toNat : Int) ∧ ((b[k]).toNat : Int) ≤ 255 := ⟨by omega, by have := (b[k]).toNat_lt; omega⟩
        generalize Rd.beNum (b.data.toList.take k) = x at *
        go_wp2
        go_round
        case rel => exact ⟨k + 1, by omega, by go_num, by rw [HS.out]; rfl⟩
        case measure => simp [intOf]; omega
      · go_wp2
        go_ret
        have hkb : b.data.toList.take k = b.data.toList := List.take_of_length_le (by rw [toList_length]; omega)
        rw [HR.out, HBQ.out, hkb]
        exact ⟨rfl, H1.out.below HW.out, grown_trans' H2.out (grown_below HW.out _)⟩

/-- New -/
theorem rd_new (s : ByteArray) (off : Int) (w : World) (hs : s.size ≤ 1099511627776) (h0 : 0 ≤ off) (h1 : off ≤ 2199023255552) :
    Calls Tryd.prog 32 #[.string s, .int .i64 off] w fun e w' => e = .returned (.pointer (some ⟨w.heap.size, 0, none⟩)) ∧ IsRd w' w.heap.size ⟨s, 0, off, none⟩ ∧ w' = w.alloc (.cells #[.string s, .int .i64 0, .int .i64 off, .nilIface] 194) := by
  go_enter Tryd.func32, Tryd.ntmps32
  go_wp2
  go_ret
  exact ⟨rfl, ⟨⟨Nat.zero_le _, hs, h0, h1⟩, .nilIface, heap_new _ _ _ rfl, rfl⟩, rfl⟩

/-- where a reader stands (for a loop's measure) -/
def atOf (w : World) (g : Nat) : Nat := match w.cell? ⟨g, 1, none⟩ with | some (.int _ n) => n.toNat | _ => 0
theorem atOf_of {w : World} {g k : Nat} (h : w.cell? ⟨g, 1, none⟩ = some (.int .i64 (k : Int))) : atOf w g = k := by unfold atOf; rw [h]; simp

theorem rd_zeros_some (g : Nat) (w : World) (r : Rd) (h : IsRd w g r) {x : Int × Int} (hn : r.err = some x) :
    Calls Tryd.prog 38 #[.pointer (some ⟨g, 0, none⟩)] w fun e w' => e = .returned (.bool r.zeros.1) ∧ IsRd w' g r.zeros.2 ∧ w.grownBy w' (some g) := by
  obtain ⟨ev, hb, he⟩ := h.blk
  have HZ := Lib.hid (Rd.zeros_some hn)
  obtain ⟨e0, p0⟩ := x
  rw [hn] at he
  obtain ⟨k, rfl, hk⟩ := he
  have c3 : w.cell? ⟨g, 3, none⟩ = some (.iface 127 (.pointer (some ⟨k, 0, none⟩))) := by rw [heap_cell hb]; rfl
  have hne : ∀ (T : TypeId) (x : Value) (w : World), (binOp .eql 37 (.iface T x) .nilIface).run Tryd.prog w = .ok (.bool false) w := fun T x w => by simp [go_sem]
  have H := Lib.hid h
  clear h hb hn hk
  go_enter Tryd.func38, Tryd.ntmps38
  go_wp2_with fail
  refine wp_loop_rounds 1 ?_
  rw [rounds_succ]
  go_wp2_with fail
  go_ret
  rw [HZ.out]
  exact ⟨rfl, H.out, World.grownBy.refl _ _⟩

theorem rd_zeros_none (g : Nat) (w : World) (s : ByteArray) (a0 : Nat) (off : Int) (h : IsRd w g ⟨s, a0, off, none⟩) :
    Calls Tryd.prog 38 #[.pointer (some ⟨g, 0, none⟩)] w fun e w' => e = .returned (.bool (Rd.mk s a0 off none).zeros.1) ∧ IsRd w' g (Rd.mk s a0 off none).zeros.2 ∧ w.grownBy w' (some g) := by
  have hne : ∀ (T : TypeId) (x : Value) (w : World), (binOp .eql 37 (.iface T x) .nilIface).run Tryd.prog w = .ok (.bool false) w := fun T x w => by simp [go_sem]
  have H := Lib.hid h
  obtain ⟨o1, o2, o3, o4⟩ := h.ok
  simp only at o1 o2 o3 o4
  clear h
  go_enter Tryd.func38, Tryd.ntmps38
  go_wp2_with fail
  go_loopw [] (fun wr => ∃ k : Nat, k ≤ s.size ∧ Hid (k + Rd.noughts (s.data.toList.drop k) = a0 + Rd.noughts (s.data.toList.drop a0)) ∧ Hid (IsRd wr g ⟨s, k, off, none⟩) ∧ Hid (w.grownBy wr (some g))) (fun wr => s.size - atOf wr g)
  case atStart => exact ⟨a0, o1, Lib.hid rfl, H, Lib.hid (World.grownBy.refl _ _)⟩
  case round =>
    obtain ⟨k, hk, HK, HI, HG⟩ := hrel
    obtain ⟨c0, c1, c2, c3, f1⟩ := HI.out.cells rfl
    simp only at c0 c1 c2
    have HA := Lib.hid (atOf_of c1)
    clear c2
    by_cases hlt : k < s.size
    · by_cases hc : s[k] = 0
      · have hz : ((s[k]).toNat : Int) ≤ 0 := by rw [hc]; decide
        go_wp2_with (first
          | (go_at_call 41; refine (rd_left g _ _ HI.out).mono ?_; rintro e w' ⟨rfl, nl, rfl⟩))
        go_quiet (fail)
        go_wp2
        have HI2 := (HI.out.below (below_drewN' (Below.refl _ _) (nl + nq))).set_at (k + 1) hlt ((k : Int) + 1) (by simp)
        go_roundw
        case rel =>
          refine ⟨k + 1, hlt, Lib.hid ?_, Lib.hid HI2, Lib.hid (grown_trans' (grown_drewN HG.out _) (grown_set _ g 1 _))⟩
          have h1 := HK.out
          rw [Rd.noughts_at _ _ hlt, if_pos hc] at h1
          omega
        case measure =>
          obtain ⟨d0, d1, d2, d3, f1'⟩ := HI2.cells rfl
          have h2 := atOf_of d1
          have h4 := HA.out
          simp only at h2
          rw [h2, h4]
          omega
      · have hz : 0 < ((s[k]).toNat : Int) := by
          have : (s[k]).toNat ≠ 0 := fun h => hc (UInt8.toNat_inj.1 h)
          omega
        go_wp2_with (first
          | (go_at_call 41; refine (rd_left g _ _ HI.out).mono ?_; rintro e w' ⟨rfl, nl, rfl⟩))
        go_quiet (fail)
        go_wp2_with (first
          | (go_at_call 40; refine (rd_at g _ _ (HI.out.below (below_drewN' (Below.refl _ _) _))).mono ?_; rintro e w' ⟨rfl, nd, rfl⟩)
          | (go_at_call 44; refine (rd_fail g 15 _ _ _ (HI.out.below (below_drewN' (Below.refl _ _) _))).mono ?_; rintro e wf ⟨rfl, h1, h2⟩; obtain ⟨q, c3f⟩ := h1.cell_err rfl; have HF1 := Lib.hid h1; have HF2 := Lib.hid h2; clear h1 h2 c3 c1 c0 f1))
        go_ret
        rw [Rd.zeros_bad (r := ⟨s, a0, off, none⟩) rfl HK.out hlt hc]
        exact ⟨rfl, HF1.out, grown_trans' (grown_drewN HG.out _) HF2.out⟩
    · go_wp2_with (first
          | (go_at_call 41; refine (rd_left g _ _ HI.out).mono ?_; rintro e w' ⟨rfl, nl, rfl⟩))
      go_ret
      rw [Rd.zeros_good (r := ⟨s, a0, off, none⟩) rfl HK.out (by simp only; omega)]
      exact ⟨rfl, HI.out.below (below_drewN' (Below.refl _ _) nl), grown_drewN HG.out nl⟩
theorem rd_zeros (g : Nat) (w : World) (r : Rd) (h : IsRd w g r) :
    Calls Tryd.prog 38 #[.pointer (some ⟨g, 0, none⟩)] w fun e w' => e = .returned (.bool r.zeros.1) ∧ IsRd w' g r.zeros.2 ∧ w.grownBy w' (some g) := by
  obtain ⟨s, a0, off, er⟩ := r
  cases er with
  | none => exact rd_zeros_none g w s a0 off h
  | some x => exact rd_zeros_some g w _ h rfl

/-- Sub: a reader of the next n bytes, of its own block. -/
def Rd.sub (r : Rd) (n : Int) : Rd := ⟨(r.bytes n).1, 0, r.place, (r.bytes n).2.err⟩
theorem sub_close {g : Nat} {n : Int} {w w1 : World} {r : Rd} {nd : Nat} {ev : Value} (HO : Hid (r.sub n).ok) (H1 : IsRd w1 g (r.bytes n).2) (H2 : (w.drewN nd).grownBy w1 (some g)) (HE : ErrV w1 ev (r.bytes n).2.err) :
    ∃ g', Ending.returned (.pointer (some ⟨w1.heap.size, 0, none⟩)) = Ending.returned (.pointer (some ⟨g', 0, none⟩)) ∧ w.heap.size ≤ g' ∧ IsRd (w1.alloc (.cells #[.string (r.bytes n).1, .int .i64 0, .int .i64 r.place, ev] 194)) g (r.bytes n).2 ∧
      IsRd (w1.alloc (.cells #[.string (r.bytes n).1, .int .i64 0, .int .i64 r.place, ev] 194)) g' (r.sub n) ∧ w.grownBy (w1.alloc (.cells #[.string (r.bytes n).1, .int .i64 0, .int .i64 r.place, ev] 194)) (some g) := by
  have hb1 : Below w1.heap.size w1 (w1.alloc (.cells #[.string (r.bytes n).1, .int .i64 0, .int .i64 r.place, ev] 194)) := (Below.refl _ _).alloc (Nat.le_refl _) _
  exact ⟨w1.heap.size, rfl, H2.size, H1.below hb1, ⟨HO.out, ev, heap_new _ _ _ rfl, HE.below hb1⟩, grown_trans' (grown_drewN (World.grownBy.refl _ _) _) (grown_trans' H2 (grown_below hb1 _))⟩
theorem rd_sub (g : Nat) (n : Int) (w : World) (r : Rd) (h : IsRd w g r) (ho : r.place ≤ 2199023255552) :
    Calls Tryd.prog 39 #[.pointer (some ⟨g, 0, none⟩), .int .i64 n] w fun e w' => ∃ g', e = .returned (.pointer (some ⟨g', 0, none⟩)) ∧ w.heap.size ≤ g' ∧ IsRd w' g (r.bytes n).2 ∧ IsRd w' g' (r.sub n) ∧ w.grownBy w' (some g) := by
  have H := Lib.hid h
  have hok : (r.sub n).ok := ⟨Nat.zero_le _, Rd.bytes_size h.ok n, by unfold Rd.sub Rd.place; have := h.ok; unfold Rd.ok at this; simp only; omega, ho⟩
  have HO := Lib.hid hok
  clear h hok
  go_enter Tryd.func39, Tryd.ntmps39
  go_wp2_with (first
          | (go_at_call 40; refine (rd_at g _ _ H.out).mono ?_; rintro e w' ⟨rfl, nd, rfl⟩)
          | (go_at_call 34; refine (rd_bytes g n _ _ (H.out.below (below_drewN' (Below.refl _ _) _))).mono ?_; rintro e w1 ⟨rfl, h1, h2⟩; have H1 := Lib.hid h1; have H2 := Lib.hid h2; obtain ⟨ev, hb, he⟩ := h1.blk; have c3 : w1.cell? ⟨g, 3, none⟩ = some ev := (by rw [heap_cell hb]; rfl); have HE := Lib.hid he; have hsh := he.shape; clear h1 h2 hb he; rcases hsh with rfl | ⟨Te, xe, rfl⟩))
  all_goals
    go_ret
    exact sub_close HO H1.out H2.out HE.out
end Go.Proofs.YtpnpikanmgoaiaaDoor
