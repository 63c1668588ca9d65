/-
  Tags (3.1, 3.2): contracts of the program's and the reference's TagRight and TagText.
-/
import Derived.Test.YthbjibhhomeolaaDoorNb
import Derived.Test.YthbjibhhomeolaaDoorGen
import Derived.Test.YthbjibhhomeolaaDoorTgPl
import Derived.Deep.QuietTactic
import Derived.BigQuiet
import Derived.Deep.DeepCutAuto
import Derived.Deep.RegionHeld3
import Derived.Deep.DeepFit
import Derived.KernelRfl
namespace Go.Proofs.YthbjibhhomeolaaDoor
open Go.RowKit

theorem within_yes (n lo hi : Int) (w : World) (h0 : lo ≤ n) (h1 : n ≤ hi) : Calls Tryd.prog 37 #[.int .i64 n, .int .i64 lo, .int .i64 hi] w fun e w' => e = .returned (.bool true) ∧ w = w' := by
  go_enter Tryd.func37, Tryd.ntmps37
  go_wp2
  go_ret
  exact ⟨by simp, rfl⟩
theorem within_no (n lo hi : Int) (w : World) (h : n < lo ∨ hi < n) : Calls Tryd.prog 37 #[.int .i64 n, .int .i64 lo, .int .i64 hi] w fun e w' => e = .returned (.bool false) ∧ w = w' := by
  by_cases h0 : n < lo
  · go_enter Tryd.func37, Tryd.ntmps37
    go_wp2
    go_ret
    exact ⟨by simp, rfl⟩
  · have h1 : hi < n := by omega
    have h2 : lo ≤ n := by omega
    clear h h0
    go_enter Tryd.func37, Tryd.ntmps37
    go_wp2
    go_ret
    exact ⟨by simp <;> omega, rfl⟩

def tagV (s : Bool) (p : Int) (d : Bool) (v : Int) : Value := .agg #[.bool s, .int .i64 p, .bool d, .int .i64 v]
theorem rRight_yes (s d : Bool) (p v : Int) (w : World) (h0 : 0 ≤ p) (h1 : p ≤ 7) (h2 : 0 ≤ v) (h3 : v ≤ 4094) :
    Calls Tryd.prog 34 #[.agg #[.bool s, .int .i64 p, .bool d, .int .i64 v]] w fun e w' => e = .returned (.bool true) ∧ Below w.heap.size w w' := by
  go_enter Tryd.func34, Tryd.ntmps34
  go_wp2_with (first
    | (go_at_call_of 37 (Value.int .i64 p); refine (within_yes _ _ _ _ (by omega) (by omega)).mono ?_; rintro e w' ⟨rfl, rfl⟩)
    | (go_at_call_of 37 (Value.int .i64 v); refine (within_yes _ _ _ _ (by omega) (by omega)).mono ?_; rintro e w' ⟨rfl, rfl⟩))
  go_ret
  exact ⟨by simp, (Below.refl _ _).alloc (Nat.le_refl _) _⟩
theorem rRight_no (s d : Bool) (p v : Int) (w : World) (h : p < 0 ∨ 7 < p ∨ v < 0 ∨ 4094 < v) :
    Calls Tryd.prog 34 #[.agg #[.bool s, .int .i64 p, .bool d, .int .i64 v]] w fun e w' => e = .returned (.bool false) ∧ Below w.heap.size w w' := by
  by_cases hp : p < 0 ∨ 7 < p
  · have HP := Lib.hid hp
    clear hp h
    go_enter Tryd.func34, Tryd.ntmps34
    go_wp2_with (first
      | (go_at_call_of 37 (Value.int .i64 p); refine (within_no _ _ _ _ HP.out).mono ?_; rintro e w' ⟨rfl, rfl⟩))
    go_ret
    exact ⟨by simp, (Below.refl _ _).alloc (Nat.le_refl _) _⟩
  · have hv : v < 0 ∨ 4094 < v := by omega
    have h0 : 0 ≤ p := by omega
    have h1 : p ≤ 7 := by omega
    have HV := Lib.hid hv
    clear hp h hv
    go_enter Tryd.func34, Tryd.ntmps34
    go_wp2_with (first
      | (go_at_call_of 37 (Value.int .i64 p); refine (within_yes _ _ _ _ (by omega) (by omega)).mono ?_; rintro e w' ⟨rfl, rfl⟩)
      | (go_at_call_of 37 (Value.int .i64 v); refine (within_no _ _ _ _ HV.out).mono ?_; rintro e w' ⟨rfl, rfl⟩))
    go_ret
    exact ⟨by simp, (Below.refl _ _).alloc (Nat.le_refl _) _⟩
theorem pRight_yes (s d : Bool) (p v : Int) (w : World) (h0 : 0 ≤ p) (h1 : p ≤ 7) (h2 : 0 ≤ v) (h3 : v ≤ 4094) :
    Calls Tryd.prog 36 #[.agg #[.bool s, .int .i64 p, .bool d, .int .i64 v]] w fun e w' => e = .returned (.bool true) ∧ Below w.heap.size w w' := by
  go_enter Tryd.func36, Tryd.ntmps36
  go_wp2
  go_ret
  exact ⟨by simp, (Below.refl _ _).alloc (Nat.le_refl _) _⟩
theorem pRight_no (s d : Bool) (p v : Int) (w : World) (h : p < 0 ∨ 7 < p ∨ v < 0 ∨ 4094 < v) :
    Calls Tryd.prog 36 #[.agg #[.bool s, .int .i64 p, .bool d, .int .i64 v]] w fun e w' => e = .returned (.bool false) ∧ Below w.heap.size w w' := by
  have hc : p < 0 ∨ (0 ≤ p ∧ 7 < p) ∨ ((0 ≤ p ∧ p ≤ 7) ∧ v < 0) ∨ ((0 ≤ p ∧ p ≤ 7) ∧ 0 ≤ v ∧ 4094 < v) := by omega
  clear h
  rcases hc with h | ⟨h0, h1⟩ | ⟨⟨h0, h1⟩, h2⟩ | ⟨⟨h0, h1⟩, h2, h3⟩
  all_goals
    go_enter Tryd.func36, Tryd.ntmps36
    go_wp2
    go_ret
    exact ⟨by simp <;> omega, (Below.refl _ _).alloc (Nat.le_refl _) _⟩

/-- the sign ahead of the point -/
def dB (d : Bool) : ByteArray := bs (dC d)
theorem txt_parts (s d : Bool) (p v : Nat) (hp : p < 8) : bs [sC s] ++ itoaB p ++ bs (dC d ++ [46]) ++ itoaB v = bs (Tg.txt ⟨s, p, d, v⟩) := by
  unfold itoaB Lib.itoa
  rw [if_neg (by omega), if_neg (by omega), bs_app, bs_app, bs_app]
  simp only [Int.toNat_natCast]
  unfold Tg.txt Tg.head
  rw [Lib.decDigits_one (show p < 10 by omega)]
  simp
theorem txt_yes (s : Bool) (p v : Nat) (hp : p < 8) : (⟨#[sC s]⟩ : ByteArray) ++ itoaB p ++ ⟨#[33]⟩ ++ ⟨#[46]⟩ ++ itoaB v = bs (Tg.txt ⟨s, p, true, v⟩) := by
  rw [← txt_parts s true p v hp, show bs (dC true ++ [46]) = (⟨#[33]⟩ : ByteArray) ++ ⟨#[46]⟩ from rfl]
  simp only [← ByteArray.append_assoc]
  rfl
theorem txt_no (s : Bool) (p v : Nat) (hp : p < 8) : (⟨#[sC s]⟩ : ByteArray) ++ itoaB p ++ ⟨#[46]⟩ ++ itoaB v = bs (Tg.txt ⟨s, p, false, v⟩) := txt_parts s false p v hp
set_option maxHeartbeats 1000000 in
theorem pText_yes (s d : Bool) (p v : Nat) (w : World) (hp : p < 8) (hv : v < 4095) (hg : Glob w) :
    Calls Tryd.prog 17 #[.agg #[.bool s, .int .i64 p, .bool d, .int .i64 v]] w fun e w' => e = .returned (.tuple #[.string (bs (Tg.txt ⟨s, p, d, v⟩)), .nilIface]) ∧ Below w.heap.size w w' := by
  have z1 := itoaB_size (n := (p : Int)) (by omega) (by omega)
  have z2 := itoaB_size (n := (v : Int)) (by omega) (by omega)
  have HG := Lib.hid hg
  clear hg
  have q0 : (0 : Int) ≤ p := by omega
  have q1 : (p : Int) ≤ 7 := by omega
  have q2 : (0 : Int) ≤ v := by omega
  have q3 : (v : Int) ≤ 4094 := by omega
  have hnot : ∀ (x : Bool) (w : World), (Op.unary .not (.bool x)).run Tryd.prog w = .ok (.bool (!x)) w := fun _ _ => rfl
  have hb0 := Lib.hid ((Below.refl w.heap.size w).alloc (Nat.le_refl _) (.cells #[.bool s, .int .i64 p, .bool d, .int .i64 v] 38))
  obtain ⟨s1, hs1, g1, k1⟩ := cat_named ⟨#[sC s]⟩ (itoaB p) (by show 1 + _ ≤ _; omega)
  obtain ⟨s2, hs2, g2, k2⟩ := cat_named s1 ⟨#[33]⟩ (by rw [g1]; show 1 + _ + 1 ≤ _; omega)
  obtain ⟨s3, hs3, g3, k3⟩ := cat_named s2 ⟨#[46]⟩ (by rw [g2, g1]; show 1 + _ + 1 + 1 ≤ _; omega)
  obtain ⟨s4, hs4, g4, k4⟩ := cat_named s3 (itoaB v) (by rw [g3, g2, g1]; show 1 + _ + 1 + 1 + _ ≤ _; omega)
  obtain ⟨r3, hr3, e3, l3⟩ := cat_named s1 ⟨#[46]⟩ (by rw [g1]; show 1 + _ + 1 ≤ _; omega)
  obtain ⟨r4, hr4, e4, l4⟩ := cat_named r3 (itoaB v) (by rw [e3, g1]; show 1 + _ + 1 + _ ≤ _; omega)
  have H4 := Lib.hid (show s4 = bs (Tg.txt ⟨s, p, true, v⟩) by rw [← txt_yes s p v hp, hs1, hs2, hs3, hs4])
  have R4 := Lib.hid (show r4 = bs (Tg.txt ⟨s, p, false, v⟩) by rw [← txt_no s p v hp, hs1, hr3, hr4])
  clear hs1 hs2 hs3 hs4 hr3 hr4 g1 g2 g3 g4 e3 e4
  cases s <;> cases d
  all_goals
    unfold sC at k1
    simp only [Bool.false_eq_true, if_false, if_true] at k1
    go_enter Tryd.func17, Tryd.ntmps17
    go_wp2_with (first
      | (go_at_call 36; refine (pRight_yes _ _ _ _ _ (by omega) (by omega) (by omega) (by omega)).mono ?_; rintro e w1 ⟨rfl, hb⟩; have HR := Lib.hid ((Row.new w _ _).below hb); obtain ⟨c0, c1, c2, c3⟩ := HR.out.cells4; have HB := Lib.hid (hb0.out.trans (hb.mono (by simp))); clear hb)
      | (go_at_call_of 35 (p : Int); refine (itoa_small _ (by omega) (by omega) _).mono ?_; rintro e w' ⟨rfl, rfl⟩)
      | (go_at_call_of 35 (v : Int); refine (itoa_any _ (by omega) (by omega) _ (HG.out.below HB.out).pow).mono ?_; rintro e w2 ⟨rfl, hb2⟩; have HB2 := Lib.hid (HB.out.trans (hb2.mono HB.out.size)); clear hb2))
    go_ret2
    first
      | (rw [H4.out]; exact ⟨rfl, HB2.out⟩)
      | (rw [R4.out]; exact ⟨rfl, HB2.out⟩)
theorem pText_no (s d : Bool) (p v : Int) (w : World) (h : p < 0 ∨ 7 < p ∨ v < 0 ∨ 4094 < v) :
    Calls Tryd.prog 17 #[.agg #[.bool s, .int .i64 p, .bool d, .int .i64 v]] w fun e w' => e = .returned (.tuple #[.string ⟨#[]⟩, .iface 27 (.int .i64 1)]) ∧ Below w.heap.size w w' := by
  have H := Lib.hid h
  clear h
  have hnot : ∀ (x : Bool) (w : World), (Op.unary .not (.bool x)).run Tryd.prog w = .ok (.bool (!x)) w := fun _ _ => rfl
  have hb0 := Lib.hid ((Below.refl w.heap.size w).alloc (Nat.le_refl _) (.cells #[.bool s, .int .i64 p, .bool d, .int .i64 v] 38))
  go_enter Tryd.func17, Tryd.ntmps17
  go_wp2_with (first
      | (go_at_call 36; refine (pRight_no _ _ _ _ _ H.out).mono ?_; rintro e w1 ⟨rfl, hb⟩; have HB := Lib.hid (hb0.out.trans (hb.mono (by simp))); clear hb))
  go_ret2
  exact ⟨rfl, HB.out⟩

theorem rtxt (s d : Bool) (p v : Nat) (hp : p < 8) : (⟨#[sC s]⟩ : ByteArray) ++ itoaB p ++ (bs (dC d ++ [46])) ++ itoaB v = bs (Tg.txt ⟨s, p, d, v⟩) := txt_parts s d p v hp
set_option maxRecDepth 100000 in
set_option maxHeartbeats 10000000 in
theorem rText_yes (s d : Bool) (p v : Nat) (w : World) (hp : p < 8) (hv : v < 4095) (hg : Glob w) :
    Calls Tryd.prog 16 #[.agg #[.bool s, .int .i64 p, .bool d, .int .i64 v]] w fun e w' => e = .returned (.tuple #[.string (bs (Tg.txt ⟨s, p, d, v⟩)), .int .i64 0]) ∧ Below w.heap.size w w' := by
  have z1 := itoaB_size (n := (p : Int)) (by omega) (by omega)
  have z2 := itoaB_size (n := (v : Int)) (by omega) (by omega)
  have HG := Lib.hid hg
  clear hg
  have q0 : (0 : Int) ≤ p := by omega
  have q1 : (p : Int) ≤ 7 := by omega
  have q2 : (0 : Int) ≤ v := by omega
  have q3 : (v : Int) ≤ 4094 := by omega
  have hnot : ∀ (x : Bool) (w : World), (Op.unary .not (.bool x)).run Tryd.prog w = .ok (.bool (!x)) w := fun _ _ => rfl
  have hb0 := Lib.hid ((Below.refl w.heap.size w).alloc (Nat.le_refl _) (.cells #[.bool s, .int .i64 p, .bool d, .int .i64 v] 38))
  obtain ⟨s1, hs1, g1, k1⟩ := cat_named ⟨#[sC s]⟩ (itoaB p) (by show 1 + _ ≤ _; omega)
  have zd : (bs (dC d ++ [46])).size ≤ 2 := by cases d <;> decide
  have zs : (⟨#[sC s]⟩ : ByteArray).size = 1 := rfl
  obtain ⟨s2, hs2, g2, k2⟩ := cat_named s1 (bs (dC d ++ [46])) (by rw [g1, zs]; omega)
  obtain ⟨s4, hs4, g4, k4⟩ := cat_named s2 (itoaB v) (by rw [g2, g1, zs]; omega)
  have H4 := Lib.hid (show s4 = bs (Tg.txt ⟨s, p, d, v⟩) by rw [← txt_parts s d p v hp, ← hs4, ← hs2, ← hs1]; rfl)
  clear hs1 hs2 hs4 g1 g2 g4 zd zs
  have hmm := @run_makeMap Tryd.prog
  have hu : ∀ (w : World) (b : Nat) (x : Bool) (v : Value), mapFresh w b (.bool x) = true → (Instr.mapUpdate 71 (.map (some b)) (.bool x) v).run Tryd.prog w = .ok () (insW w b (.bool x) v) :=
    fun w b x v h => run_insert_fresh Tryd.underlying71 Tryd.underlying4 (by simp [MapKept.IsKey]) w b v h
  have hl : ∀ (w : World) (b : Nat) (x : Bool), mapHas w b (.bool x) = true → (Instr.lookup 71 (.map (some b)) (.bool x) false).run Tryd.prog w = .ok (mapAt w b (.bool x)) w :=
    fun w b x h => run_lookup_has Tryd.underlying71 Tryd.underlying4 (by simp [MapKept.IsKey]) w b h
  have m1 := mapFresh_new
  have m2 := mapFresh_drew
  have m3 := mapHas_drew
  have m4 := mapAt_drew
  have m5 := mapFresh_ins
  have m6 := mapHas_ins
  have m7 := mapNone_ins
  have m8 := mapAt_ins
  have m9 := mapNone_new
  have m10 := mapNone_drew
  have l1 : ∀ x y, litKey (.bool x) (.bool y) = true := fun _ _ => rfl
  have l2 : ∀ x y, keySame (.bool x) (.bool y) = (x == y) := fun _ _ => rfl
  have i1 := insW_cell
  have i2 := insW_frozen
  have i3 := insW_size
  have i4 := insW_drew
  cases s <;> cases d
  all_goals
    unfold sC at k1
    simp only [Bool.false_eq_true, if_false, if_true] at k1
    unfold dC bs at k2
    simp only [Bool.false_eq_true, if_false, if_true, List.nil_append, List.cons_append] at k2
    go_enter Tryd.func16, Tryd.ntmps16
    go_wp2_with (first
      | (go_at_call 34; refine (rRight_yes _ _ _ _ _ (by omega) (by omega) (by omega) (by omega)).mono ?_; rintro e w1 ⟨rfl, hb⟩; have HR := Lib.hid ((Row.new w _ _).below hb); obtain ⟨c0, c1, c2, c3⟩ := HR.out.cells4; have HB := Lib.hid (hb0.out.trans (hb.mono (by simp))); clear hb))
    have n0 : w1.heap.size ≠ w.heap.size := Nat.ne_of_gt HR.out.lt
    go_upto_region 3 with (fail)
    go_cut [4] (fun x wx => x = .string s1 ∧ Hid (Below w1.heap.size w1 wx))
    case first =>
      first
        | go_region_held3 (fun w' => w'.cell? ⟨w.heap.size, 0, none⟩ = some (.bool false) ∧ w'.cell? ⟨w.heap.size, 1, none⟩ = some (.int .i64 p)) (first | (go_split_ands; exact ⟨by assumption, by assumption⟩) | (simp [*, World.cell?_alloc_some]; done))
          (first | (go_at_call_of 35 (p : Int); refine (itoa_small _ (by omega) (by omega) _).mono ?_; rintro e w' ⟨rfl, rfl⟩))
        | go_region_held3 (fun w' => w'.cell? ⟨w.heap.size, 0, none⟩ = some (.bool true) ∧ w'.cell? ⟨w.heap.size, 1, none⟩ = some (.int .i64 p)) (first | (go_split_ands; exact ⟨by assumption, by assumption⟩) | (simp [*, World.cell?_alloc_some]; done))
          (first | (go_at_call_of 35 (p : Int); refine (itoa_small _ (by omega) (by omega) _).mono ?_; rintro e w' ⟨rfl, rfl⟩))
      all_goals
        go_wp2_with (fail)
        go_meet
        exact ⟨rfl, Lib.hid (insW_below (insW_below ((Below.refl _ _).alloc (Nat.le_refl _) _) (Nat.le_refl _) _ _) (Nat.le_refl _) _ _).drew⟩
    case rest =>
      obtain ⟨rfl, H1⟩ := hcut
      clear c0 c1 c2 c3
      have HR1 := Lib.hid (HR.out.below H1.out)
      obtain ⟨c0, c1, c2, c3⟩ := HR1.out.cells4
      have HB1 := Lib.hid (HB.out.trans (H1.out.mono HB.out.size))
      have n1 : w.heap.size < wc.heap.size := HR1.out.lt
      have n2 : wc.heap.size ≠ w.heap.size := Nat.ne_of_gt n1
      go_wp2_with (fail)
      first
        | go_region_held3 (fun w' => w'.cell? ⟨w.heap.size, 2, none⟩ = some (.bool false) ∧ w'.cell? ⟨w.heap.size, 3, none⟩ = some (.int .i64 v)) (first | (go_split_ands; exact ⟨by assumption, by assumption⟩) | (simp [*, World.cell?_alloc_some]; done))
            (first | (go_at_call_of 35 (v : Int); refine (itoa_from _ (by omega) (by omega) wc _ (HG.out.below HB1.out).pow (by first | exact lit0 _ | exact lit1 _ | exact lit2 _ _ _ | exact lit3 _ _ _ _ _)).mono ?_; rintro e w2 ⟨rfl, hbw, hbp⟩; have d2 := hbw.cell (p := ⟨w.heap.size, 2, none⟩) n1; have d3 := hbw.cell (p := ⟨w.heap.size, 3, none⟩) n1; have d4 := Nat.ne_of_gt (Nat.lt_of_lt_of_le n1 hbw.size); have q1 := fun b k h => (map_below (b := b) hbp h k).1; have q2 := fun b k h => (map_below (b := b) hbp h k).2.1; have q3 := fun b k h => (map_below (b := b) hbp h k).2.2.1; have q4 := fun b k h => (map_below (b := b) hbp h k).2.2.2))
        | go_region_held3 (fun w' => w'.cell? ⟨w.heap.size, 2, none⟩ = some (.bool true) ∧ w'.cell? ⟨w.heap.size, 3, none⟩ = some (.int .i64 v)) (first | (go_split_ands; exact ⟨by assumption, by assumption⟩) | (simp [*, World.cell?_alloc_some]; done))
            (first | (go_at_call_of 35 (v : Int); refine (itoa_from _ (by omega) (by omega) wc _ (HG.out.below HB1.out).pow (by first | exact lit0 _ | exact lit1 _ | exact lit2 _ _ _ | exact lit3 _ _ _ _ _)).mono ?_; rintro e w2 ⟨rfl, hbw, hbp⟩; have d2 := hbw.cell (p := ⟨w.heap.size, 2, none⟩) n1; have d3 := hbw.cell (p := ⟨w.heap.size, 3, none⟩) n1; have d4 := Nat.ne_of_gt (Nat.lt_of_lt_of_le n1 hbw.size); have q1 := fun b k h => (map_below (b := b) hbp h k).1; have q2 := fun b k h => (map_below (b := b) hbp h k).2.1; have q3 := fun b k h => (map_below (b := b) hbp h k).2.2.1; have q4 := fun b k h => (map_below (b := b) hbp h k).2.2.2))
      all_goals
        go_wp2_with (fail)
        go_ret2
        rw [H4.out]
        have hsz := Nat.lt_of_lt_of_le n1 hbw.size
        refine ⟨rfl, HB1.out.trans ((hbw.mono (Nat.le_of_lt n1)).trans ?_)⟩
        clear q1 q2 q3 q4 m1 m2 m3 m4 m5 m6 m7 m8 m9 m10 i1 i2 i3 i4 hu hl hmm
        repeat' (first | exact Below.refl _ _ | refine insW_below ?_ ?_ _ _ | refine Below.alloc ?_ ?_ _)
        all_goals omega
theorem rText_no (s d : Bool) (p v : Int) (w : World) (h : p < 0 ∨ 7 < p ∨ v < 0 ∨ 4094 < v) :
    Calls Tryd.prog 16 #[.agg #[.bool s, .int .i64 p, .bool d, .int .i64 v]] w fun e w' => e = .returned (.tuple #[.string ⟨#[]⟩, .int .i64 1]) ∧ Below w.heap.size w w' := by
  have H := Lib.hid h
  clear h
  have hnot : ∀ (x : Bool) (w : World), (Op.unary .not (.bool x)).run Tryd.prog w = .ok (.bool (!x)) w := fun _ _ => rfl
  have hb0 := Lib.hid ((Below.refl w.heap.size w).alloc (Nat.le_refl _) (.cells #[.bool s, .int .i64 p, .bool d, .int .i64 v] 38))
  go_enter Tryd.func16, Tryd.ntmps16
  go_wp2_with (first
      | (go_at_call 34; refine (rRight_no _ _ _ _ _ H.out).mono ?_; rintro e w1 ⟨rfl, hb⟩; have HB := Lib.hid (hb0.out.trans (hb.mono (by simp))); clear hb))
  go_ret2
  exact ⟨rfl, HB.out⟩
end Go.Proofs.YthbjibhhomeolaaDoor
