/-
  Tags (3.2): the reference's TagParse finds the right tag of which a text is the text, if there is one.
-/
import Derived.Test.YthbjibhhomeolaaDoorTg1
import Derived.Lib.ConvBytes
namespace Go.Proofs.YthbjibhhomeolaaDoor
open Go.RowKit

/-- what a text is the text of -/
def Parses (l : List UInt8) : Option Tg → Prop
  | none => ∀ t : Tg, t.Right → t.txt ≠ l
  | some t => t.Right ∧ t.txt = l
theorem Parses.uniq {l : List UInt8} {r r' : Option Tg} (h : Parses l r) (h' : Parses l r') : r = r' := by
  cases r with
  | none =>
    cases r' with
    | none => rfl
    | some t => exact absurd h'.2 (h t h'.1)
  | some t =>
    cases r' with
    | none => exact absurd h.2 (h' t h.1)
    | some t' => rw [Tg.inj h.1 h'.1 (h.2.trans h'.2.symm)]
def tgV : Option Tg → Value
  | none => .agg #[.bool false, .int .i64 0, .bool false, .int .i64 0]
  | some t => .agg #[.bool t.s, .int .i64 t.p, .bool t.d, .int .i64 t.v]
def tgE : Option Tg → Int
  | none => 3
  | some _ => 0
/-- what the reference's parse hands back -/
def RParsed (l : List UInt8) (w : World) (e : Ending) (w' : World) : Prop := ∃ r, Parses l r ∧ e = .returned (.tuple #[tgV r, .int .i64 (tgE r)]) ∧ Below w.heap.size w w'

theorem ib46 (s : ByteArray) (i : Int) (hi : Lib.indexByte s.data.toList 46 = i) (w : World) : Calls Tryd.prog 29 #[.string s, .int .u8 46] w fun e w' => e = .returned (.int .i64 i) ∧ w = w' := by
  subst hi
  exact ibyte_any s 46 w

theorem tl_len (s : ByteArray) : s.data.toList.length = s.size := by rw [Array.length_toList]; rfl
/-- a text with no point behind its second letter, or with too much behind it, is no tag's -/
theorem none_point {l : List UInt8} (h : Lib.indexByte l 46 < 2 ∨ 6 < (l.length : Int) - Lib.indexByte l 46) : Parses l none := by
  intro t ht e
  subst e
  rw [t.point ht] at h
  have h1 := t.head_len
  have h2 := nDigits_le4 ht.2
  have h3 := Lib.decDigits_length t.v
  have h4 : t.txt.length = t.head.length + 1 + (Lib.decDigits t.v).length := by unfold Tg.txt; rw [List.length_append, List.length_cons]; omega
  split at h1 <;> omega
/-- the digits' number -/
def dnum (l : List UInt8) : Nat := l.foldl (fun v c => v * 10 + (c.toNat - 48)) 0
def isDig (c : UInt8) : Bool := 48 ≤ c.toNat && c.toNat ≤ 57

set_option maxRecDepth 100000 in
set_option maxHeartbeats 2000000 in
theorem rParse_early (s : ByteArray) (hs : s.size ≤ 100) (w : World) (h : Lib.indexByte s.data.toList 46 < 2 ∨ 6 < (s.data.toList.length : Int) - Lib.indexByte s.data.toList 46) :
    Calls Tryd.prog 18 #[.string s] w (RParsed s.data.toList w) := by
  have HN := Lib.hid (none_point h)
  have hlen := tl_len s
  have hge := Lib.indexByte_ge s.data.toList 46
  rw [hlen] at h
  generalize hi : Lib.indexByte s.data.toList 46 = i at *
  have HI := Lib.hid hi
  clear hi
  have h' : i < 2 ∨ (2 ≤ i ∧ 6 < (s.size : Int) - i) := by omega
  clear h
  rcases h' with h | ⟨h0, h1⟩
  all_goals
    go_enter Tryd.func18, Tryd.ntmps18
    go_wp2_with (first
      | (go_at_call 29; refine (ib46 s i HI.out _).mono ?_; rintro e w' ⟨rfl, rfl⟩))
    refine bodyPost_ret (v := .tuple #[tgV none, .int .i64 3]) (by simp [results, Tryd.results18, go_sem, tgV]) rfl ⟨none, HN.out, rfl, (Below.refl _ _).alloc (Nat.le_refl _) _⟩

theorem dnum_snoc (l : List UInt8) (c : UInt8) : dnum (l ++ [c]) = dnum l * 10 + (c.toNat - 48) := by unfold dnum; rw [List.foldl_append]; rfl
theorem dnum_lt : ∀ (k : Nat) (l : List UInt8), l.length ≤ k → l.all isDig = true → dnum l < 10 ^ l.length := by
  intro k
  induction k with
  | zero => intro l h _; cases l with
    | nil => decide
    | cons a l => simp at h
  | succ k ih =>
    intro l h hd
    rcases List.eq_nil_or_concat l with rfl | ⟨l', c, rfl⟩
    · decide
    · rw [List.concat_eq_append] at *
      rw [List.all_append] at hd
      simp only [Bool.and_eq_true, List.all_cons, List.all_nil, Bool.and_true, isDig, decide_eq_true_eq] at hd
      have := ih l' (by simp at h; omega) hd.1
      rw [dnum_snoc, List.length_append, List.length_singleton, Nat.pow_succ]
      omega
theorem dec_all (u : Nat) : (Lib.decDigits u).all isDig = true := by
  rw [List.all_eq_true]
  intro c hc
  have := dec_digit u c hc
  simp [isDig]
  exact this
theorem dnum_dec (u : Nat) : dnum (Lib.decDigits u) = u := by
  induction u using Nat.strongRecOn with
  | _ u ih =>
    rw [Lib.decDigits]
    split
    · rename_i h
      unfold dnum
      simp only [List.foldl_cons, List.foldl_nil]
      rw [u8of (by omega)]
      omega
    · rename_i h
      rw [dnum_snoc, ih (u / 10) (by omega), u8of (by omega)]
      omega
/-- what stands behind the point of a tag's text -/
theorem Tg.rest {t : Tg} (ht : t.Right) {l : List UInt8} (h : t.txt = l) {m : Nat} (hm : Lib.indexByte l 46 = (m : Int)) : l.drop (m + 1) = Lib.decDigits t.v := by
  subst h
  rw [t.point ht] at hm
  have : m = t.head.length := by omega
  subst this
  unfold Tg.txt
  rw [← List.drop_drop, List.drop_left]
  rfl
theorem none_digit {l : List UInt8} {m k : Nat} (hm : Lib.indexByte l 46 = (m : Int)) (hk : k < (l.drop (m + 1)).length) (hc : isDig ((l.drop (m + 1)).getD k 0) = false) : Parses l none := by
  intro t ht e
  rw [Tg.rest ht e hm] at hk hc
  have h1 := dec_all t.v
  rw [List.all_eq_true] at h1
  rw [List.getD_eq_getElem?_getD, List.getElem?_eq_getElem hk] at hc
  have := h1 _ (List.getElem_mem hk)
  simp only [Option.getD_some] at hc
  rw [hc] at this
  cases this

theorem take_snoc' (l : List UInt8) (k : Nat) (h : k < l.length) : l.take (k + 1) = l.take k ++ [l.getD k 0] := by
  rw [List.take_succ_eq_append_getElem h, List.getD_eq_getElem?_getD, List.getElem?_eq_getElem h]
  rfl
/-- the j-th candidate's signs -/
def cS (j : Nat) : Bool := j % 2 == 0
def cD (j : Nat) : Bool := decide (2 ≤ j)
def candTab (V : Nat) : Array Value :=
  #[.bool true, .int .i64 0, .bool false, .int .i64 V, .bool false, .int .i64 0, .bool false, .int .i64 V, .bool true, .int .i64 0, .bool true, .int .i64 V, .bool false, .int .i64 0, .bool true, .int .i64 V]
/-- what holds while the candidates are tried: those ahead of the k-th of the j-th kind were not the one -/
structure TP (w wx : World) (g V : Nat) (l : List UInt8) (j k : Nat) : Prop where
  old : Below w.heap.size w wx
  res : Row wx w.heap.size #[.bool false, .int .i64 0, .bool false, .int .i64 0] 38
  cand : Row wx g (candTab V) 38
  tried : ∀ j' k', j' < j ∨ j' = j ∧ k' < k → j' < 4 → k' < 8 → V < 4095 → Tg.txt ⟨cS j', k', cD j', V⟩ ≠ l
theorem TP.start {w W : World} (l : List UInt8) (hb : Below w.heap.size w W) (hz : Row W w.heap.size #[.bool false, .int .i64 0, .bool false, .int .i64 0] 38) (V : Nat) : TP w (W.alloc (.cells (candTab V) 38)) W.heap.size V l 0 0 :=
  ⟨hb.trans ((Below.refl _ _).alloc hb.size _), hz.below ((Below.refl _ _).alloc (Nat.le_refl _) _), Row.new W _ _, fun j' k' h _ _ _ => by omega⟩
theorem TP.keep {w wx w' : World} {g V : Nat} {l : List UInt8} {j k : Nat} (h : TP w wx g V l j k) (hb : Below wx.heap.size wx w') : TP w w' g V l j k :=
  ⟨h.old.trans (hb.mono h.old.size), h.res.below hb, h.cand.below hb, h.tried⟩
theorem TP.bump {w wx : World} {g V G : Nat} {l : List UInt8} {j k : Nat} {u : Value} (h : TP w wx g V l j k) (h1 : w.heap.size < G) (h2 : g < G) (hn : V < 4095 → Tg.txt ⟨cS j, k, cD j, V⟩ ≠ l) : TP w (wx.setCell ⟨G, 1, none⟩ u) g V l j (k + 1) :=
  ⟨h.old.setCell (Nat.le_of_lt h1) _, h.res.far _ _ _ (by omega), h.cand.far _ _ _ (by omega), fun j' k' hh h4 h8 hv => by
    by_cases he : j' = j ∧ k' = k
    · obtain ⟨rfl, rfl⟩ := he
      exact hn hv
    · exact h.tried j' k' (by omega) h4 h8 hv⟩
theorem TP.next {w wx : World} {g V : Nat} {l : List UInt8} {j k : Nat} (h : TP w wx g V l j k) (hk : 8 ≤ k) : TP w wx g V l (j + 1) 0 :=
  ⟨h.old, h.res, h.cand, fun j' k' hh h4 h8 hv => h.tried j' k' (by omega) h4 h8 hv⟩
theorem cells16 {w : World} {g V j : Nat} (h : Row w g (candTab V) 38) (hj : j < 4) :
    w.cell? ⟨g, j * 4, none⟩ = some (.bool (cS j)) ∧ w.cell? ⟨g, j * 4 + 1, none⟩ = some (.int .i64 0) ∧ w.cell? ⟨g, j * 4 + 2, none⟩ = some (.bool (cD j)) ∧ w.cell? ⟨g, j * 4 + 3, none⟩ = some (.int .i64 V) := by
  have hc : j = 0 ∨ j = 1 ∨ j = 2 ∨ j = 3 := by omega
  rcases hc with rfl | rfl | rfl | rfl
  · exact ⟨h.cell 0, h.cell 1, h.cell 2, h.cell 3⟩
  · exact ⟨h.cell 4, h.cell 5, h.cell 6, h.cell 7⟩
  · exact ⟨h.cell 8, h.cell 9, h.cell 10, h.cell 11⟩
  · exact ⟨h.cell 12, h.cell 13, h.cell 14, h.cell 15⟩
/-- the number in a cell (for a loop's measure) -/
def cellNat (w : World) (a : Addr) : Nat := match w.cell? a with | some (.int _ n) => n.toNat | _ => 0
theorem cellNat_of {w : World} {a : Addr} {k : Nat} {q : IntKind} (h : w.cell? a = some (.int q (k : Int))) : cellNat w a = k := by unfold cellNat; rw [h]; simp
theorem none_cand {l : List UInt8} {V j m : Nat} (h : ∀ j' k', j' < j ∨ j' = j ∧ k' < 0 → j' < 4 → k' < 8 → V < 4095 → Tg.txt ⟨cS j', k', cD j', V⟩ ≠ l) (hj : j = 4) (hm : Lib.indexByte l 46 = (m : Int)) (hV : dnum (l.drop (m + 1)) = V) : Parses l none := by
  subst hj
  intro t ht e
  have hv : V = t.v := by rw [← hV, Tg.rest ht e hm, dnum_dec]
  subst hv
  obtain ⟨s, p, d, v⟩ := t
  have h0 := h ((if d then 2 else 0) + (if s then 0 else 1)) p (.inl (by split <;> split <;> omega)) (by split <;> split <;> omega) ht.1 ht.2
  apply h0
  rw [← e]
  cases s <;> cases d <;> rfl
set_option maxRecDepth 100000 in
set_option maxHeartbeats 4000000 in
theorem rParse_main (s : ByteArray) (hs : s.size ≤ 100) (w : World) (hg : Glob w) (m : Nat) (hm : Lib.indexByte s.data.toList 46 = (m : Int)) (h2 : 2 ≤ m) (hms : m < s.size) (h6 : s.size ≤ m + 6) :
    Calls Tryd.prog 18 #[.string s] w (RParsed s.data.toList w) := by
  have hlen := tl_len s
  have HI := Lib.hid hm
  have HND := Lib.hid (fun k => none_digit (l := s.data.toList) (k := k) hm)
  clear hm
  have hr : (s.extract (m + 1) s.size).data.toList = s.data.toList.drop (m + 1) := Lib.extract_to_end s (m + 1)
  have hrl : (s.data.toList.drop (m + 1)).length = s.size - (m + 1) := by rw [List.length_drop, hlen]
  have kb := fun (s : ByteArray) (W : World) => Lib.run_convert_string_bytes (P := Tryd.prog) W 9 56 5 s Tryd.underlying9 Tryd.underlying56 Tryd.underlying5
  have HR := Lib.hid hr
  have HRL := Lib.hid hrl
  have HG := Lib.hid hg
  clear hr hrl hg hlen
  have q1 : (2 : Int) ≤ (m : Int) := by omega
  have q2 : (m : Int) < (s.size : Int) := by omega
  have q3 : (s.size : Int) - (m : Int) ≤ 6 := by omega
  have p1 : decide ((m : Int) < 2) = false := by simp; omega
  have p2 : decide (6 < (s.size : Int) - (m : Int)) = false := by simp; omega
  go_enter Tryd.func18, Tryd.ntmps18
  go_wp2_with (first
    | (go_at_call 29; refine (ib46 s _ HI.out _).mono ?_; rintro e w' ⟨rfl, rfl⟩))
  have hW : Below w.heap.size w (Lib.bytesWorld (w.alloc (.cells #[.bool false, .int .i64 0, .bool false, .int .i64 0] 38)) 5 (s.extract (m + 1) s.size)) :=
    ((Below.refl _ _).alloc (Nat.le_refl _) _).trans (Go.Joins.below_bytesWorld _ _ _ _ (by simp))
  have hZ : Row (Lib.bytesWorld (w.alloc (.cells #[.bool false, .int .i64 0, .bool false, .int .i64 0] 38)) 5 (s.extract (m + 1) s.size)) w.heap.size #[.bool false, .int .i64 0, .bool false, .int .i64 0] 38 :=
    (Row.new w _ _).below (Go.Joins.below_bytesWorld _ _ _ _ (Nat.le_refl _))
  have hC : ∀ k, k < s.size - (m + 1) → (Lib.bytesWorld (w.alloc (.cells #[.bool false, .int .i64 0, .bool false, .int .i64 0] 38)) 5 (s.extract (m + 1) s.size)).cell? ⟨w.heap.size + 1, k, none⟩ = some (.int .u8 (((s.data.toList.drop (m + 1)).getD k 0).toNat : Int)) := fun k hk => by
    have h1 := Lib.bytesWorld_cell (w.alloc (.cells #[.bool false, .int .i64 0, .bool false, .int .i64 0] 38)) 5 (s.extract (m + 1) s.size) k (by rw [← tl_len, HR.out, HRL.out]; exact hk)
    rw [HR.out] at h1
    simpa using h1
  generalize Lib.bytesWorld _ _ _ = W at *
  generalize grownCap _ _ _ _ = cp at *
  have HRL2 := Lib.hid HRL.out
  have hn5 : s.size - (m + 1) ≤ 5 := by omega
  generalize s.size - (m + 1) = n at *
  have HB := Lib.hid hW
  have HZ := Lib.hid hZ
  have HC := Lib.hid hC
  clear hW hZ hC kb
  generalize hrr : s.data.toList.drop (m + 1) = r at *
  have HRR := Lib.hid hrr
  clear hrr
  go_loop [5, 30] (fun x i => ∃ k : Nat, k ≤ n ∧ i = .int .i64 k ∧ x = .int .i64 (dnum (r.take k) : Nat) ∧ Hid ((r.take k).all isDig = true)) (fun _ i => n - (intOf i).toNat)
  case atStart => exact ⟨0, Nat.zero_le _, rfl, rfl, Lib.hid rfl⟩
  case round =>
    obtain ⟨k, hk, rfl, rfl, HD⟩ := hrel
    have hv5 : dnum (r.take k) < 100000 := by
      have h1 := dnum_lt k (r.take k) (List.length_take_le _ _) HD.out
      have h2 : (r.take k).length ≤ 5 := by have := List.length_take_le k r; omega
      have h3 := Nat.pow_le_pow_right (show 1 ≤ 10 by decide) h2
      omega
    by_cases hlt : k < n
    · have hc := HC.out k hlt
      have hsn := Lib.hid (take_snoc' r k (by rw [HRL2.out]; exact hlt))
      have hbd : ((r.getD k 0).toNat : Int) ≤ 255 := by have := (r.getD k 0).toNat_lt; omega
      have HNDk := Lib.hid (HND.out k)
      have HKL := Lib.hid (show k < r.length by rw [HRL2.out]; exact hlt)
      generalize hcc : r.getD k 0 = c at *
      have HCC := Lib.hid hcc
      clear hcc
      have HV := Lib.hid (dnum_snoc (r.take k) c)
      generalize dnum (r.take k) = x at *
      by_cases hd : 48 ≤ c.toNat ∧ c.toNat ≤ 57
      · obtain ⟨hd0, hd1⟩ := hd
        have e0 : (48 : Int) ≤ (c.toNat : Int) := by omega
        have e1 : (c.toNat : Int) ≤ 57 := by omega
        go_wp2_with (first
          | (go_at_call 37; refine (within_yes _ _ _ _ (by omega) (by omega)).mono ?_; rintro e w' ⟨rfl, rfl⟩))
        go_round
        case rel =>
          refine ⟨k + 1, by omega, by go_num, ?_, Lib.hid ?_⟩
          · rw [hsn.out, HV.out]
            congr 1
            omega
          · rw [hsn.out, List.all_append, HD.out]
            simp [isDig]
            exact ⟨hd0, hd1⟩
        case measure => simp [intOf]; omega
      · have HE := Lib.hid hd
        have HX : Hid ((c.toNat : Int) < 48 ∨ 57 < (c.toNat : Int)) := Lib.hid (by omega)
        clear hd
        obtain ⟨z0, z1, z2, z3⟩ := HZ.out.cells4
        have y0 := HZ.out.frozen 0
        have y1 := HZ.out.frozen 1
        have y2 := HZ.out.frozen 2
        have y3 := HZ.out.frozen 3
        go_wp2_with (first
          | (go_at_call 37; refine (within_no _ _ _ _ HX.out).mono ?_; rintro e w' ⟨rfl, rfl⟩))
        refine bodyPost_ret (v := .tuple #[tgV none, .int .i64 3]) (by simp [results, Tryd.results18, go_sem, tgV, z0, z1, z2, z3]) rfl ⟨none, ?_, rfl, ?_⟩
        · refine HNDk.out HKL.out ?_
          unfold isDig
          have := HE.out
          simp only [Bool.and_eq_false_iff, decide_eq_false_iff_not]
          omega
        · exact (((HB.out.setCell (Nat.le_refl _) _).setCell (Nat.le_refl _) _).setCell (Nat.le_refl _) _).setCell (Nat.le_refl _) _
    · obtain rfl : k = n := by omega
      have htk : r.take k = r := List.take_of_length_le (by rw [HRL2.out]; omega)
      rw [htk] at *
      clear htk
      have HDR := Lib.hid HD.out
      generalize hV : dnum r = V at *
      have HV := Lib.hid hV
      clear hV HND HD
      go_wp2_with (fail)
      have HT : Hid (TP w (W.alloc (.cells #[.bool true, .int .i64 0, .bool false, .int .i64 V, .bool false, .int .i64 0, .bool false, .int .i64 V, .bool true, .int .i64 0, .bool true, .int .i64 V, .bool false, .int .i64 0, .bool true, .int .i64 V] 38)) W.heap.size V s.data.toList 0 0) := Lib.hid (TP.start (s.data.toList) HB.out HZ.out V)
      generalize W.alloc (.cells #[.bool true, .int .i64 0, .bool false, .int .i64 V, .bool false, .int .i64 0, .bool false, .int .i64 V, .bool true, .int .i64 0, .bool true, .int .i64 V, .bool false, .int .i64 0, .bool true, .int .i64 V] 38) = W2 at *
      clear HC HB HZ
      go_loopw [56] (fun y wx => ∃ j : Nat, j ≤ 4 ∧ y = .int .i64 j ∧ Hid (TP w wx W.heap.size V s.data.toList j 0)) (fun y _ => 4 - (intOf y).toNat)
      case atStart => exact ⟨0, by omega, rfl, HT⟩
      case round =>
        obtain ⟨j, hj, rfl, HJ⟩ := hrel
        by_cases hj4 : j < 4
        · obtain ⟨e0, e1, e2, e3⟩ := cells16 HJ.out.cand hj4
          have p3 : decide ((j : Int) < 4) = true := by simp; omega
          go_wp2_with (fail)
          obtain ⟨wo, rfl⟩ : ∃ wo : World, wo = wr := ⟨_, rfl⟩
          have HJ3 : Hid (TP w (wo.alloc (.cells #[.bool (cS j), .int .i64 0, .bool (cD j), .int .i64 V] 38)) W.heap.size V s.data.toList j 0) := Lib.hid (HJ.out.keep ((Below.refl _ _).alloc (Nat.le_refl _) _))
          have HR3 : Hid (Row (wo.alloc (.cells #[.bool (cS j), .int .i64 0, .bool (cD j), .int .i64 V] 38)) wo.heap.size #[.bool (cS j), .int .i64 0, .bool (cD j), .int .i64 V] 38) := Lib.hid (Row.new wo _ _)
          generalize wo.alloc (.cells #[.bool (cS j), .int .i64 0, .bool (cD j), .int .i64 V] 38) = W3 at *
          have HO := Lib.hid HJ.out.res.lt
          have HOW := Lib.hid HJ.out.cand.lt
          clear e0 e1 e2 e3 HJ
          generalize wo.heap.size = G at *
          go_loopw [] (fun wx => ∃ k : Nat, k ≤ 8 ∧ Hid (TP w wx W.heap.size V s.data.toList j k) ∧ Hid (Row wx G #[.bool (cS j), .int .i64 k, .bool (cD j), .int .i64 V] 38)) (fun wx => 8 - cellNat wx ⟨G, 1, none⟩)
          case atStart => exact ⟨0, by omega, HJ3, HR3⟩
          case round =>
            obtain ⟨k, hk, HK, HX⟩ := hrel
            obtain ⟨x0, x1, x2, x3⟩ := HX.out.cells4
            have v1 := HX.out.frozen 1
            have HM := Lib.hid (cellNat_of x1)
            by_cases hk8 : k < 8
            · by_cases hv : V < 4095
              · by_cases hit : Tg.txt ⟨cS j, k, cD j, V⟩ = s.data.toList
                · have HH := Lib.hid hit
                  have he := str_eq (show bs (Tg.txt ⟨cS j, k, cD j, V⟩) = s by rw [hit]; rfl)
                  clear hit
                  obtain ⟨z0, z1, z2, z3⟩ := HK.out.res.cells4
                  have y0 := HK.out.res.frozen 0
                  have y1 := HK.out.res.frozen 1
                  have y2 := HK.out.res.frozen 2
                  have y3 := HK.out.res.frozen 3
                  go_wp2_with (first
                    | (go_at_call 16; refine (rText_yes _ _ k V _ hk8 hv (HG.out.below HK.out.old)).mono ?_; rintro e w1 ⟨rfl, hb⟩; have HX1 := Lib.hid (HX.out.below hb); have HK1 := Lib.hid (HK.out.keep hb); clear hb x0 x1 x2 x3 v1 z0 z1 z2 z3 y0 y1 y2 y3; obtain ⟨x0, x1, x2, x3⟩ := HX1.out.cells4; obtain ⟨z0, z1, z2, z3⟩ := HK1.out.res.cells4; have y0 := HK1.out.res.frozen 0; have y1 := HK1.out.res.frozen 1; have y2 := HK1.out.res.frozen 2; have y3 := HK1.out.res.frozen 3))
                  refine bodyPost_ret (v := .tuple #[tgV (some ⟨cS j, k, cD j, V⟩), .int .i64 0]) (by simp [results, Tryd.results18, go_sem, tgV, z0, z1, z2, z3]) rfl ⟨some ⟨cS j, k, cD j, V⟩, ⟨⟨hk8, hv⟩, HH.out⟩, rfl, ?_⟩
                  exact (((HK1.out.old.setCell (Nat.le_refl _) _).setCell (Nat.le_refl _) _).setCell (Nat.le_refl _) _).setCell (Nat.le_refl _) _
                · have HH := Lib.hid hit
                  have he := str_ne (show bs (Tg.txt ⟨cS j, k, cD j, V⟩) ≠ s from fun e => hit (by rw [← e]; rfl))
                  clear hit
                  go_wp2_with (first
                    | (go_at_call 16; refine (rText_yes _ _ k V _ hk8 hv (HG.out.below HK.out.old)).mono ?_; rintro e w1 ⟨rfl, hb⟩; have HX1 := Lib.hid (HX.out.below hb); have HK1 := Lib.hid (HK.out.keep hb); clear hb x0 x1 x2 x3 v1; obtain ⟨x0, x1, x2, x3⟩ := HX1.out.cells4; have v1 := HX1.out.frozen 1))
                  go_roundw
                  case rel => exact ⟨k + 1, by omega, HK1.out.bump HO.out HOW.out (fun _ => HH.out), ⟨by have := (HX1.out.set 1 (.int .i64 ((k : Int) + 1))).is; simpa using this⟩⟩
                  case measure =>
                    have h1 := cellNat_of (k := k + 1) (q := .i64) (show (w1.setCell ⟨G, 1, none⟩ (.int .i64 ((k : Int) + 1))).cell? ⟨G, 1, none⟩ = some (.int .i64 ((k + 1 : Nat) : Int)) by rw [(HX1.out.set 1 (.int .i64 ((k : Int) + 1))).cell 1]; simp)
                    rw [h1, HM.out]
                    omega
              · go_wp2_with (first
                    | (go_at_call 16; refine (rText_no _ _ k V _ (by omega)).mono ?_; rintro e w1 ⟨rfl, hb⟩; have HX1 := Lib.hid (HX.out.below hb); have HK1 := Lib.hid (HK.out.keep hb); clear hb x0 x1 x2 x3 v1; obtain ⟨x0, x1, x2, x3⟩ := HX1.out.cells4; have v1 := HX1.out.frozen 1))
                go_roundw
                case rel => exact ⟨k + 1, by omega, HK1.out.bump HO.out HOW.out (fun _ => by omega), ⟨by have := (HX1.out.set 1 (.int .i64 ((k : Int) + 1))).is; simpa using this⟩⟩
                case measure =>
                  have h1 := cellNat_of (k := k + 1) (q := .i64) (show (w1.setCell ⟨G, 1, none⟩ (.int .i64 ((k : Int) + 1))).cell? ⟨G, 1, none⟩ = some (.int .i64 ((k + 1 : Nat) : Int)) by rw [(HX1.out.set 1 (.int .i64 ((k : Int) + 1))).cell 1]; simp)
                  rw [h1, HM.out]
                  omega
            · go_wp2_with (fail)
              go_roundw
              case rel => exact ⟨j + 1, by omega, by go_num, Lib.hid (HK.out.next (by omega))⟩
              case measure => simp [intOf]; omega
        · obtain ⟨z0, z1, z2, z3⟩ := HJ.out.res.cells4
          have y0 := HJ.out.res.frozen 0
          have y1 := HJ.out.res.frozen 1
          have y2 := HJ.out.res.frozen 2
          have y3 := HJ.out.res.frozen 3
          go_wp2_with (fail)
          refine bodyPost_ret (v := .tuple #[tgV none, .int .i64 3]) (by simp [results, Tryd.results18, go_sem, tgV, z0, z1, z2, z3]) rfl ⟨none, ?_, rfl, ?_⟩
          · exact none_cand HJ.out.tried (show j = 4 by omega) HI.out (by rw [HRR.out, HV.out])
          · exact (((HJ.out.old.setCell (Nat.le_refl _) _).setCell (Nat.le_refl _) _).setCell (Nat.le_refl _) _).setCell (Nat.le_refl _) _
theorem indexByte_lt : ∀ (l : List UInt8) (c : UInt8), Lib.indexByte l c < l.length
  | [], c => by unfold Lib.indexByte; simp
  | b :: l, c => by
    have := indexByte_lt l c
    unfold Lib.indexByte
    simp only [List.length_cons]
    split
    · omega
    · split <;> omega
theorem rParse_any (s : ByteArray) (hs : s.size ≤ 100) (w : World) (hg : Glob w) : Calls Tryd.prog 18 #[.string s] w (RParsed s.data.toList w) := by
  by_cases h : Lib.indexByte s.data.toList 46 < 2 ∨ 6 < (s.data.toList.length : Int) - Lib.indexByte s.data.toList 46
  · exact rParse_early s hs w h
  · obtain ⟨m, hm⟩ := Int.eq_ofNat_of_zero_le (show 0 ≤ Lib.indexByte s.data.toList 46 by omega)
    have h1 := indexByte_lt s.data.toList 46
    have h2 := tl_len s
    exact rParse_main s hs w hg m hm (by omega) (by omega) (by omega)
end Go.Proofs.YthbjibhhomeolaaDoor
