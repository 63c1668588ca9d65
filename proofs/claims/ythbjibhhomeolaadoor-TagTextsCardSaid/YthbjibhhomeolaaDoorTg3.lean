/-
  Tags (3.2): the program's Parse finds the right tag of which a text is the text, if there is one.
-/
import Derived.Test.YthbjibhhomeolaaDoorTg2
namespace Go.Proofs.YthbjibhhomeolaaDoor
open Go.RowKit

/-- an error's value for a code: nil for 0 -/
def errV : Int → Value
  | 0 => .nilIface
  | e => .iface 27 (.int .i64 e)
/-- what the program's parse hands back -/
def PParsed (l : List UInt8) (w : World) (e : Ending) (w' : World) : Prop := ∃ r, Parses l r ∧ e = .returned (.tuple #[tgV r, errV (tgE r)]) ∧ Below w.heap.size w w'

theorem cut46 (s : ByteArray) (hs : s.size ≤ 1000) (a b : ByteArray) (ok : Bool) (h : Lib.cut s.data.toList [46] = (a.data.toList, b.data.toList, ok)) (w : World) (hg : MaxIs w) :
    Calls Tryd.prog 38 #[.string s, .string ⟨#[46]⟩] w fun e w' => e = .returned (.tuple #[.string a, .string b, .bool ok]) ∧ Below w.heap.size w w' := by
  refine (cut_any s ⟨#[46]⟩ hs w hg).mono ?_
  rintro e w' ⟨rfl, hb⟩
  refine ⟨?_, hb⟩
  show Ending.returned (.tuple #[.string (bs (Lib.cut s.data.toList [46]).1), .string (bs (Lib.cut s.data.toList [46]).2.1), .bool (Lib.cut s.data.toList [46]).2.2]) = _
  rw [h]
  rfl

theorem tw (w : World) (o : Obj) : Below w.heap.size w (w.alloc o).drew := ((Below.refl _ _).alloc (Nat.le_refl _) _).drew
set_option maxRecDepth 100000 in
set_option maxHeartbeats 4000000 in
theorem pParse_yes (t : Tg) (ht : t.Right) (s : ByteArray) (hs : s.size ≤ 100) (hst : s = bs t.txt) (w : World) (hg : Glob w) : Calls Tryd.prog 19 #[.string s] w (PParsed s.data.toList w) := by
  obtain ⟨ts, p, d, v⟩ := t
  have hp : p < 8 := ht.1
  have hv : v < 4095 := ht.2
  have HPT : Hid (Parses s.data.toList (some ⟨ts, p, d, v⟩)) := Lib.hid (by subst hst; exact ⟨ht, rfl⟩)
  have HC : Hid (Lib.cut s.data.toList [46] = ((bs (Tg.head ⟨ts, p, d, v⟩)).data.toList, (bs (Lib.decDigits v)).data.toList, true)) := Lib.hid (by subst hst; exact Tg.cut _ ht)
  have HA := Lib.hid (atoi_dec v (by omega))
  have HS := Lib.hid hst
  have hsv : (bs (Lib.decDigits v)).size ≤ 1000 := by rw [bs_size, Lib.decDigits_length]; have := nDigits_le4 hv; omega
  have HG := Lib.hid hg
  have hnot : ∀ (x : Bool) (w : World), (Op.unary .not (.bool x)).run Tryd.prog w = .ok (.bool (!x)) w := fun _ _ => rfl
  have hb0 := Lib.hid ((Below.refl w.heap.size w).alloc (Nat.le_refl _) (.cells #[.bool false, .int .i64 0, .bool false, .int .i64 0] 38))
  clear hg hst ht
  generalize hbv : bs (Lib.decDigits v) = bv at *
  have HBV : Hid (bv.data.toList = Lib.decDigits v) := Lib.hid (by rw [← hbv]; rfl)
  clear hbv
  have hpc := pC hp
  have HCP := Lib.hid hpc
  have hcp : ((UInt8.ofNat (48 + p)).toNat : Int) - 48 = (p : Int) := by rw [hpc]; omega
  clear hpc
  generalize hcc : UInt8.ofNat (48 + p) = c at *
  have HCC := Lib.hid hcc
  clear hcc
  have c0 : (48 : Int) ≤ (c.toNat : Int) := by have := HCP.out; omega
  have c1 : (c.toNat : Int) ≤ 55 := by have := HCP.out; omega
  have g1 : ∀ (x y : UInt8) (h : 1 < (⟨#[x, y]⟩ : ByteArray).size), (⟨#[x, y]⟩ : ByteArray)[1]'h = y := fun _ _ _ => rfl
  have g0 : ∀ (x y : UInt8) (h : 0 < (⟨#[x, y]⟩ : ByteArray).size), (⟨#[x, y]⟩ : ByteArray)[0]'h = x := fun _ _ _ => rfl
  have g2 : ∀ (x y z : UInt8) (h : 0 < (⟨#[x, y, z]⟩ : ByteArray).size), (⟨#[x, y, z]⟩ : ByteArray)[0]'h = x := fun _ _ _ _ => rfl
  have g3 : ∀ (x y z : UInt8) (h : 1 < (⟨#[x, y, z]⟩ : ByteArray).size), (⟨#[x, y, z]⟩ : ByteArray)[1]'h = y := fun _ _ _ _ => rfl
  have hs2 : ∀ (x y : UInt8) (W : World), (Instr.slice 9 (.string ⟨#[x, y]⟩) (some (.int .i64 2)) none none).run Tryd.prog W = .ok (.string ⟨#[]⟩) W := fun _ _ _ => by kernel_rfl
  have hs3 : ∀ (x y z : UInt8) (W : World), (Instr.slice 9 (.string ⟨#[x, y, z]⟩) (some (.int .i64 2)) none none).run Tryd.prog W = .ok (.string ⟨#[z]⟩) W := fun _ _ _ _ => by kernel_rfl
  obtain ⟨hd, hhd, HC⟩ : ∃ hd : ByteArray, hd = (if d then ⟨#[sC ts, c, 33]⟩ else ⟨#[sC ts, c]⟩) ∧ Hid (Lib.cut s.data.toList [46] = (hd.data.toList, bv.data.toList, true)) :=
    ⟨_, rfl, Lib.hid (by rw [HC.out]; unfold Tg.head; rw [HCC.out]; cases d <;> rfl)⟩
  cases ts <;> cases d
  all_goals
    unfold sC at hhd
    simp only [Bool.false_eq_true, if_false, if_true] at hhd
    subst hhd
    go_enter Tryd.func19, Tryd.ntmps19
    go_wp2_with (first
      | (go_at_call 38; refine (cut46 s (by omega) _ _ _ HC.out _ (HG.out.below hb0.out).mx).mono ?_; rintro e w1 ⟨rfl, hb⟩; have HB := Lib.hid (hb0.out.trans (hb.mono (by simp))); have HZ := Lib.hid ((Row.new w _ _).below hb); clear hb)
      | (go_at_call 39; refine (atoi_ok _ hsv v (by rw [HBV.out]; exact HA.out) _).mono ?_; rintro e w2 ⟨rfl, hb⟩; have HB2 := Lib.hid (HB.out.trans (hb.mono HB.out.size)); have HZ2 := Lib.hid (HZ.out.below hb); clear hb))
    go_region
    all_goals
      go_wp2_with (first
        | (go_at_call 17; refine (pText_yes _ _ p v _ hp hv (HG.out.below (HB2.out.trans ((tw _ _).mono HB2.out.size)))).mono ?_; rintro e w3 ⟨rfl, hb⟩; have HB3 := Lib.hid (HB2.out.trans (((tw _ _).trans (hb.mono (tw _ _).size)).mono HB2.out.size)); have HX3 := Lib.hid ((Row.drew (Row.new w2 _ 38)).below hb); have HZ3 := Lib.hid ((HZ2.out.below (tw _ _)).below hb); clear hb; obtain ⟨x0, x1, x2, x3⟩ := HX3.out.cells4; obtain ⟨z0, z1, z2, z3⟩ := HZ3.out.cells4; have y0 := HZ3.out.frozen 0; have y1 := HZ3.out.frozen 1; have y2 := HZ3.out.frozen 2; have y3 := HZ3.out.frozen 3; have he := str_eq HS.out.symm))
      refine bodyPost_ret (v := .tuple #[tgV (some ⟨_, p, _, v⟩), .nilIface]) (by simp [results, Tryd.results19, go_sem, tgV, z0, z1, z2, z3]) rfl ⟨_, HPT.out, rfl, ?_⟩
      exact (((HB3.out.setCell (Nat.le_refl _) _).setCell (Nat.le_refl _) _).setCell (Nat.le_refl _) _).setCell (Nat.le_refl _) _

theorem pText_in (s d : Bool) (p v : Int) (w : World) (hp0 : 0 ≤ p) (hp : p ≤ 7) (hv0 : 0 ≤ v) (hv : v ≤ 4094) (hg : Glob w) :
    Calls Tryd.prog 17 #[.agg #[.bool s, .int .i64 p, .bool d, .int .i64 v]] w fun e w' => e = .returned (.tuple #[.string (bs (Tg.txt ⟨s, p.toNat, d, v.toNat⟩)), .nilIface]) ∧ Below w.heap.size w w' := by
  obtain ⟨p', rfl⟩ := Int.eq_ofNat_of_zero_le hp0
  obtain ⟨v', rfl⟩ := Int.eq_ofNat_of_zero_le hv0
  exact pText_yes s d p' v' w (by omega) (by omega) hg
theorem cut_le (l sep : List UInt8) : (Lib.cut l sep).1.length ≤ l.length ∧ (Lib.cut l sep).2.1.length ≤ l.length := by
  unfold Lib.cut
  split
  · exact ⟨List.length_take_le' _ _, by simp only [List.length_drop]; omega⟩
  · exact ⟨Nat.le_refl _, Nat.zero_le _⟩

/-- what is no tag's text is not this tag's -/
theorem not_txt {s : ByteArray} (h : Parses s.data.toList none) {p v : Int} (hin : 0 ≤ p ∧ p ≤ 7 ∧ 0 ≤ v ∧ v ≤ 4094) (S D : Bool) : ((bs (Tg.txt ⟨S, p.toNat, D, v.toNat⟩)).toList == s.toList) = false :=
  str_ne fun e => h ⟨S, p.toNat, D, v.toNat⟩ ⟨by show p.toNat < 8; omega, by show v.toNat < 4095; omega⟩ (by rw [← e]; rfl)
set_option maxRecDepth 100000 in
set_option maxHeartbeats 8000000 in
theorem pParse_no (s : ByteArray) (hs : s.size ≤ 100) (hno : Parses s.data.toList none) (w : World) (hg : Glob w) : Calls Tryd.prog 19 #[.string s] w (PParsed s.data.toList w) := by
  have HNO := Lib.hid hno
  have HG := Lib.hid hg
  have hlen := tl_len s
  obtain ⟨a, b, ok, hc, ha, hb⟩ : ∃ (a b : ByteArray) (ok : Bool), Lib.cut s.data.toList [46] = (a.data.toList, b.data.toList, ok) ∧ a.size ≤ 100 ∧ b.size ≤ 100 :=
    ⟨bs (Lib.cut s.data.toList [46]).1, bs (Lib.cut s.data.toList [46]).2.1, (Lib.cut s.data.toList [46]).2.2, rfl, by rw [bs_size]; have := (cut_le s.data.toList [46]).1; omega, by rw [bs_size]; have := (cut_le s.data.toList [46]).2; omega⟩
  have HC := Lib.hid hc
  have hnot : ∀ (x : Bool) (w : World), (Op.unary .not (.bool x)).run Tryd.prog w = .ok (.bool (!x)) w := fun _ _ => rfl
  have hne : ∀ (x : Value) (w : World), (binOp .neq 31 (.iface 125 x) .nilIface).run Tryd.prog w = .ok (.bool true) w := fun x w => by simp [go_sem]
  have hne2 : ∀ (x : Value) (w : World), (binOp .neq 31 (.iface 27 x) .nilIface).run Tryd.prog w = .ok (.bool true) w := fun x w => by simp [go_sem]
  have hb0 := Lib.hid ((Below.refl w.heap.size w).alloc (Nat.le_refl _) (.cells #[.bool false, .int .i64 0, .bool false, .int .i64 0] 38))
  clear hno hg hlen hc
  by_cases hcases : ∃ v, Lib.atoiAll b.data.toList = .ok v
  · obtain ⟨v, hv⟩ := hcases
    have HV := Lib.hid hv
    clear hv
    cases ok with
    | false =>
      go_enter Tryd.func19, Tryd.ntmps19
      go_wp2_with (first
        | (go_at_call 38; refine (cut46 s (by omega) _ _ _ HC.out _ (HG.out.below hb0.out).mx).mono ?_; rintro e w1 ⟨rfl, hb⟩; have HB := Lib.hid (hb0.out.trans (hb.mono (by simp))); have HZ := Lib.hid ((Row.new w _ _).below hb); clear hb)
        | (go_at_call 39; refine (atoi_ok _ (by omega) v HV.out _).mono ?_; rintro e w2 ⟨rfl, hb⟩; have HB2 := Lib.hid (HB.out.trans (hb.mono HB.out.size)); have HZ2 := Lib.hid (HZ.out.below hb); clear hb; obtain ⟨z0, z1, z2, z3⟩ := HZ2.out.cells4; have y0 := HZ2.out.frozen 0; have y1 := HZ2.out.frozen 1; have y2 := HZ2.out.frozen 2; have y3 := HZ2.out.frozen 3))
      refine bodyPost_ret (v := .tuple #[tgV none, errV 3]) (by simp [results, Tryd.results19, go_sem, tgV, errV, z0, z1, z2, z3]) rfl ⟨none, HNO.out, rfl, ?_⟩
      exact (((HB2.out.setCell (Nat.le_refl _) _).setCell (Nat.le_refl _) _).setCell (Nat.le_refl _) _).setCell (Nat.le_refl _) _
    | true =>
      by_cases h2 : a.size < 2
      · have h2' : (a.size : Int) < 2 := by omega
        go_enter Tryd.func19, Tryd.ntmps19
        go_wp2_with (first
          | (go_at_call 38; refine (cut46 s (by omega) _ _ _ HC.out _ (HG.out.below hb0.out).mx).mono ?_; rintro e w1 ⟨rfl, hb⟩; have HB := Lib.hid (hb0.out.trans (hb.mono (by simp))); have HZ := Lib.hid ((Row.new w _ _).below hb); clear hb)
          | (go_at_call 39; refine (atoi_ok _ (by omega) v HV.out _).mono ?_; rintro e w2 ⟨rfl, hb⟩; have HB2 := Lib.hid (HB.out.trans (hb.mono HB.out.size)); have HZ2 := Lib.hid (HZ.out.below hb); clear hb; obtain ⟨z0, z1, z2, z3⟩ := HZ2.out.cells4; have y0 := HZ2.out.frozen 0; have y1 := HZ2.out.frozen 1; have y2 := HZ2.out.frozen 2; have y3 := HZ2.out.frozen 3))
        refine bodyPost_ret (v := .tuple #[tgV none, errV 3]) (by simp [results, Tryd.results19, go_sem, tgV, errV, z0, z1, z2, z3]) rfl ⟨none, HNO.out, rfl, ?_⟩
        exact (((HB2.out.setCell (Nat.le_refl _) _).setCell (Nat.le_refl _) _).setCell (Nat.le_refl _) _).setCell (Nat.le_refl _) _
      · have h2' : (2 : Int) ≤ (a.size : Int) := by omega
        have b0 : a[0].toNat < 256 := UInt8.toNat_lt _
        have b1 : a[1].toNat < 256 := UInt8.toNat_lt _
        generalize hx0 : a[0] = x0 at *
        generalize hx1 : a[1] = x1 at *
        have k0 : ∀ (h : 0 < a.size), a[0]'h = x0 := fun _ => hx0
        have k1 : ∀ (h : 1 < a.size), a[1]'h = x1 := fun _ => hx1
        have hq : ((x0.toNat : Int) = 115 ∨ (x0.toNat : Int) = 99) ∨ ((x0.toNat : Int) ≠ 115 ∧ (x0.toNat : Int) ≠ 99) := by omega
        rcases hq with hq | ⟨q0, q1⟩
        · obtain ⟨B, q2, q3, q4⟩ : ∃ B : Bool, ((x0.toNat : Int) == 115) = B ∧ ((x0.toNat : Int) != 115) = !B ∧ ((x0.toNat : Int) != 99) = B := by
            rcases hq with hq | hq
            · rw [hq]; exact ⟨true, rfl, rfl, rfl⟩
            · rw [hq]; exact ⟨false, rfl, rfl, rfl⟩
          clear hq
          cases B
          all_goals
            simp only [Bool.not_true, Bool.not_false] at q3
            by_cases hr : a.extract 2 a.size = ⟨#[33]⟩
            all_goals
              first
                | have he := str_eq hr
                | have he := str_ne hr
              clear hr
              by_cases hin : 0 ≤ (x1.toNat : Int) - 48 ∧ (x1.toNat : Int) - 48 ≤ 7 ∧ 0 ≤ v ∧ v ≤ 4094
              · have HIN := Lib.hid hin
                clear hin
                go_enter Tryd.func19, Tryd.ntmps19
                go_wp2_with (first
                  | (go_at_call 38; refine (cut46 s (by omega) _ _ _ HC.out _ (HG.out.below hb0.out).mx).mono ?_; rintro e w1 ⟨rfl, hb⟩; have HB := Lib.hid (hb0.out.trans (hb.mono (by simp))); have HZ := Lib.hid ((Row.new w _ _).below hb); clear hb)
                  | (go_at_call 39; refine (atoi_ok _ (by omega) v HV.out _).mono ?_; rintro e w2 ⟨rfl, hb⟩; have HB2 := Lib.hid (HB.out.trans (hb.mono HB.out.size)); have HZ2 := Lib.hid (HZ.out.below hb); clear hb))
                go_region
                all_goals
                  go_wp2_with (first
                    | (go_at_call 17; refine (pText_in _ _ _ _ _ HIN.out.1 HIN.out.2.1 HIN.out.2.2.1 HIN.out.2.2.2 (HG.out.below (HB2.out.trans ((tw _ _).mono HB2.out.size)))).mono ?_; rintro e w3 ⟨rfl, hb⟩; have HB3 := Lib.hid (HB2.out.trans (((tw _ _).trans (hb.mono (tw _ _).size)).mono HB2.out.size)); have HZ3 := Lib.hid ((HZ2.out.below (tw _ _)).below hb); clear hb; obtain ⟨z0, z1, z2, z3⟩ := HZ3.out.cells4; have y0 := HZ3.out.frozen 0; have y1 := HZ3.out.frozen 1; have y2 := HZ3.out.frozen 2; have y3 := HZ3.out.frozen 3; have hd := not_txt HNO.out HIN.out))
                  refine bodyPost_ret (v := .tuple #[tgV none, errV 3]) (by simp [results, Tryd.results19, go_sem, tgV, errV, z0, z1, z2, z3]) rfl ⟨none, HNO.out, rfl, ?_⟩
                  exact (((HB3.out.setCell (Nat.le_refl _) _).setCell (Nat.le_refl _) _).setCell (Nat.le_refl _) _).setCell (Nat.le_refl _) _
              · have HIN := Lib.hid (show (x1.toNat : Int) - 48 < 0 ∨ 7 < (x1.toNat : Int) - 48 ∨ v < 0 ∨ 4094 < v by omega)
                clear hin
                go_enter Tryd.func19, Tryd.ntmps19
                go_wp2_with (first
                  | (go_at_call 38; refine (cut46 s (by omega) _ _ _ HC.out _ (HG.out.below hb0.out).mx).mono ?_; rintro e w1 ⟨rfl, hb⟩; have HB := Lib.hid (hb0.out.trans (hb.mono (by simp))); have HZ := Lib.hid ((Row.new w _ _).below hb); clear hb)
                  | (go_at_call 39; refine (atoi_ok _ (by omega) v HV.out _).mono ?_; rintro e w2 ⟨rfl, hb⟩; have HB2 := Lib.hid (HB.out.trans (hb.mono HB.out.size)); have HZ2 := Lib.hid (HZ.out.below hb); clear hb))
                go_region
                all_goals
                  go_wp2_with (first
                    | (go_at_call 17; refine (pText_no _ _ _ _ _ HIN.out).mono ?_; rintro e w3 ⟨rfl, hb⟩; have HB3 := Lib.hid (HB2.out.trans (((tw _ _).trans (hb.mono (tw _ _).size)).mono HB2.out.size)); have HZ3 := Lib.hid ((HZ2.out.below (tw _ _)).below hb); clear hb; obtain ⟨z0, z1, z2, z3⟩ := HZ3.out.cells4; have y0 := HZ3.out.frozen 0; have y1 := HZ3.out.frozen 1; have y2 := HZ3.out.frozen 2; have y3 := HZ3.out.frozen 3))
                  refine bodyPost_ret (v := .tuple #[tgV none, errV 3]) (by simp [results, Tryd.results19, go_sem, tgV, errV, z0, z1, z2, z3]) rfl ⟨none, HNO.out, rfl, ?_⟩
                  exact (((HB3.out.setCell (Nat.le_refl _) _).setCell (Nat.le_refl _) _).setCell (Nat.le_refl _) _).setCell (Nat.le_refl _) _
        · have q2 : ((x0.toNat : Int) == 115) = false := beq_eq_false_iff_ne.2 q0
          have q3 : ((x0.toNat : Int) != 115) = true := by simpa using q0
          have q4 : ((x0.toNat : Int) != 99) = true := by simpa using q1
          clear q0 q1
          go_enter Tryd.func19, Tryd.ntmps19
          go_wp2_with (first
            | (go_at_call 38; refine (cut46 s (by omega) _ _ _ HC.out _ (HG.out.below hb0.out).mx).mono ?_; rintro e w1 ⟨rfl, hb⟩; have HB := Lib.hid (hb0.out.trans (hb.mono (by simp))); have HZ := Lib.hid ((Row.new w _ _).below hb); clear hb)
            | (go_at_call 39; refine (atoi_ok _ (by omega) v HV.out _).mono ?_; rintro e w2 ⟨rfl, hb⟩; have HB2 := Lib.hid (HB.out.trans (hb.mono HB.out.size)); have HZ2 := Lib.hid (HZ.out.below hb); clear hb; obtain ⟨z0, z1, z2, z3⟩ := HZ2.out.cells4; have y0 := HZ2.out.frozen 0; have y1 := HZ2.out.frozen 1; have y2 := HZ2.out.frozen 2; have y3 := HZ2.out.frozen 3))
          refine bodyPost_ret (v := .tuple #[tgV none, errV 3]) (by simp [results, Tryd.results19, go_sem, tgV, errV, z0, z1, z2, z3]) rfl ⟨none, HNO.out, rfl, ?_⟩
          exact (((HB2.out.setCell (Nat.le_refl _) _).setCell (Nat.le_refl _) _).setCell (Nat.le_refl _) _).setCell (Nat.le_refl _) _
  · have hv : ∀ v, Lib.atoiAll b.data.toList ≠ .ok v := fun v h => hcases ⟨v, h⟩
    have HV := Lib.hid hv
    clear hv hcases
    cases ok
    all_goals
      go_enter Tryd.func19, Tryd.ntmps19
      go_wp2_with (first
        | (go_at_call 38; refine (cut46 s (by omega) _ _ _ HC.out _ (HG.out.below hb0.out).mx).mono ?_; rintro e w1 ⟨rfl, hb⟩; have HB := Lib.hid (hb0.out.trans (hb.mono (by simp))); have HZ := Lib.hid ((Row.new w _ _).below hb); clear hb)
        | (go_at_call 39; refine (atoi_bad _ (by omega) HV.out _ (HG.out.below HB.out)).mono ?_; rintro e w2 ⟨n0, N0, rfl, hb⟩; have HB2 := Lib.hid (HB.out.trans (hb.mono HB.out.size)); have HZ2 := Lib.hid (HZ.out.below hb); clear hb; obtain ⟨z0, z1, z2, z3⟩ := HZ2.out.cells4; have y0 := HZ2.out.frozen 0; have y1 := HZ2.out.frozen 1; have y2 := HZ2.out.frozen 2; have y3 := HZ2.out.frozen 3))
      refine bodyPost_ret (v := .tuple #[tgV none, errV 3]) (by simp [results, Tryd.results19, go_sem, tgV, errV, z0, z1, z2, z3]) rfl ⟨none, HNO.out, rfl, ?_⟩
      exact (((HB2.out.setCell (Nat.le_refl _) _).setCell (Nat.le_refl _) _).setCell (Nat.le_refl _) _).setCell (Nat.le_refl _) _
theorem pParse_any (s : ByteArray) (hs : s.size ≤ 100) (w : World) (hg : Glob w) : Calls Tryd.prog 19 #[.string s] w (PParsed s.data.toList w) := by
  by_cases h : ∃ t : Tg, t.Right ∧ t.txt = s.data.toList
  · obtain ⟨t, h1, h2⟩ := h
    exact pParse_yes t h1 s hs (by rw [h2]; rfl) w hg
  · exact pParse_no s hs (fun t h1 h2 => h ⟨t, h1, h2⟩) w hg
/-- both parses, where it is known what the text is -/
theorem rParse_of (s : ByteArray) (hs : s.size ≤ 100) (r : Option Tg) (hr : Parses s.data.toList r) (w : World) (hg : Glob w) :
    Calls Tryd.prog 18 #[.string s] w fun e w' => e = .returned (.tuple #[tgV r, .int .i64 (tgE r)]) ∧ Below w.heap.size w w' := by
  refine (rParse_any s hs w hg).mono ?_
  rintro e w' ⟨r', h, rfl, hb⟩
  rw [hr.uniq h]
  exact ⟨rfl, hb⟩
theorem pParse_of (s : ByteArray) (hs : s.size ≤ 100) (r : Option Tg) (hr : Parses s.data.toList r) (w : World) (hg : Glob w) :
    Calls Tryd.prog 19 #[.string s] w fun e w' => e = .returned (.tuple #[tgV r, errV (tgE r)]) ∧ Below w.heap.size w w' := by
  refine (pParse_any s hs w hg).mono ?_
  rintro e w' ⟨r', h, rfl, hb⟩
  rw [hr.uniq h]
  exact ⟨rfl, hb⟩
end Go.Proofs.YthbjibhhomeolaaDoor
