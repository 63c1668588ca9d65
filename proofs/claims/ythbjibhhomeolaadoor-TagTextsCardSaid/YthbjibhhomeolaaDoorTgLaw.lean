/-
  The law TagTexts (3.2): the program's texts of tags, and tags of texts, are the reference's.
-/
import Derived.Test.YthbjibhhomeolaaDoorTg3
namespace Go.Proofs.YthbjibhhomeolaaDoor
open Go.RowKit

theorem ta (w : World) (o : Obj) : Below w.heap.size w (w.alloc o) := (Below.refl _ _).alloc (Nat.le_refl _) _
theorem tag_long (ts d : Bool) (p v : Int) (s : ByteArray) (hs : (100 : Int) < s.size) (w : World) :
    Calls Tryd.prog 5 #[.agg #[.bool ts, .int .i64 p, .bool d, .int .i64 v], .string s] w fun e w' => e = .returned (.bool true) ∧ Below w.heap.size w w' := by
  go_enter Tryd.func5, Tryd.ntmps5
  go_wp2
  go_ret
  exact ⟨by simp, (Below.refl _ _).alloc (Nat.le_refl _) _⟩
set_option maxRecDepth 100000 in
set_option maxHeartbeats 4000000 in
theorem tag_short (ts d : Bool) (p v : Int) (s : ByteArray) (hs : s.size ≤ 100) (w : World) (hg : Glob w) :
    Calls Tryd.prog 5 #[.agg #[.bool ts, .int .i64 p, .bool d, .int .i64 v], .string s] w fun e w' => e = .returned (.bool true) ∧ Below w.heap.size w w' := by
  have HG := Lib.hid hg
  have hb0 := Lib.hid ((Below.refl w.heap.size w).alloc (Nat.le_refl _) (.cells #[.bool ts, .int .i64 p, .bool d, .int .i64 v] 38))
  obtain ⟨r, hr⟩ : ∃ r, Parses s.data.toList r := by
    by_cases h : ∃ t : Tg, t.Right ∧ t.txt = s.data.toList
    · obtain ⟨t, h1, h2⟩ := h
      exact ⟨some t, h1, h2⟩
    · exact ⟨none, fun t h1 h2 => h ⟨t, h1, h2⟩⟩
  have HR := Lib.hid hr
  clear hg hr
  obtain ⟨a, e, err, hta, htb, hee⟩ : ∃ (a : ByteArray) (e : Int) (err : Value), (∀ w, Glob w → Calls Tryd.prog 16 #[.agg #[.bool ts, .int .i64 p, .bool d, .int .i64 v]] w fun ev w' => ev = .returned (.tuple #[.string a, .int .i64 e]) ∧ Below w.heap.size w w') ∧
      (∀ w, Glob w → Calls Tryd.prog 17 #[.agg #[.bool ts, .int .i64 p, .bool d, .int .i64 v]] w fun ev w' => ev = .returned (.tuple #[.string a, err]) ∧ Below w.heap.size w w') ∧ ∀ w, IsErr w err e (-1) := by
    by_cases hin : 0 ≤ p ∧ p ≤ 7 ∧ 0 ≤ v ∧ v ≤ 4094
    · obtain ⟨h0, h1, h2, h3⟩ := hin
      obtain ⟨p', rfl⟩ := Int.eq_ofNat_of_zero_le h0
      obtain ⟨v', rfl⟩ := Int.eq_ofNat_of_zero_le h2
      exact ⟨_, 0, .nilIface, fun w hg => rText_yes ts d p' v' w (by omega) (by omega) hg, fun w hg => pText_yes ts d p' v' w (by omega) (by omega) hg, fun w => .nil⟩
    · exact ⟨⟨#[]⟩, 1, _, fun w _ => rText_no ts d p v w (by omega), fun w _ => pText_no ts d p v w (by omega), fun w => .errno 1⟩
  have HTA := Lib.hid hta
  have HTB := Lib.hid htb
  have HEE := Lib.hid hee
  clear hta htb hee
  have HE2 : Hid (∀ w, IsErr w (errV (tgE r)) (tgE r) (-1)) := Lib.hid (by
    cases r with
    | none => exact fun w => .errno 3
    | some t => exact fun w => .nil)
  have heq := str_eq (rfl : a = a)
  cases r
  all_goals
    go_enter Tryd.func5, Tryd.ntmps5
    go_wp2_with (first
      | (go_at_call 16; refine (HTA.out _ (HG.out.below hb0.out)).mono ?_; rintro ev w1 ⟨rfl, hb⟩; have HB1 := Lib.hid (hb0.out.trans (hb.mono (by simp))); have HX1 := Lib.hid ((Row.new w _ _).below hb); clear hb; obtain ⟨x0, x1, x2, x3⟩ := HX1.out.cells4)
      | (go_at_call 17; refine (HTB.out _ (HG.out.below HB1.out)).mono ?_; rintro ev w2 ⟨rfl, hb⟩; have HB2 := Lib.hid (HB1.out.trans (hb.mono HB1.out.size)); clear hb x0 x1 x2 x3)
      | (go_at_call 18; refine (rParse_of s hs _ HR.out _ (HG.out.below HB2.out)).mono ?_; unfold tgV tgE; rintro ev w3 ⟨rfl, hb⟩; have HB3 := Lib.hid (HB2.out.trans (hb.mono HB2.out.size)); clear hb)
      | (go_at_call 19; refine (pParse_of s hs _ HR.out _ (HG.out.below (HB3.out.trans ((ta _ _).mono HB3.out.size)))).mono ?_; unfold tgV tgE errV; rintro ev w4 ⟨rfl, hb⟩; have HB4 := Lib.hid (HB3.out.trans (((ta _ _).trans (hb.mono (ta _ _).size)).mono HB3.out.size)); have HX4 := Lib.hid ((Row.new w3 _ _).below hb); clear hb; obtain ⟨x0, x1, x2, x3⟩ := HX4.out.cells4; have hn4 := HX4.out.lt)
      | (go_at_call_of 15 err; refine (bare_any _ _ _ (HEE.out _) (HG.out.below (HB4.out.trans ((ta _ _).mono HB4.out.size))).err).mono ?_; rintro ev w5 ⟨rfl, hb⟩; have HB5 := Lib.hid (HB4.out.trans (((ta _ _).trans (hb.mono (ta _ _).size)).mono HB4.out.size)); have HX5 := Lib.hid ((HX4.out.below (ta _ _)).below hb); have HY5 := Lib.hid ((Row.new w4 _ _).below hb); clear hb)
      | (go_at_call 15; refine (bare_any _ _ _ (HE2.out _) (HG.out.below HB5.out).err).mono ?_; rintro ev w6 ⟨rfl, hb⟩; have HB6 := Lib.hid (HB5.out.trans (hb.mono HB5.out.size)); have HX6 := Lib.hid (HX5.out.below hb); have HY6 := Lib.hid (HY5.out.below hb); clear hb x0 x1 x2 x3; obtain ⟨x0, x1, x2, x3⟩ := HX6.out.cells4; obtain ⟨y0, y1, y2, y3⟩ := HY6.out.cells4))
    go_ret
    exact ⟨by simp, HB6.out⟩
theorem tag_any (ts d : Bool) (p v : Int) (s : ByteArray) (w : World) (hg : Glob w) :
    Calls Tryd.prog 5 #[.agg #[.bool ts, .int .i64 p, .bool d, .int .i64 v], .string s] w fun e w' => e = .returned (.bool true) ∧ Below w.heap.size w w' := by
  by_cases h : s.size ≤ 100
  · exact tag_short ts d p v s h w hg
  · exact tag_long ts d p v s (by omega) w
end Go.Proofs.YthbjibhhomeolaaDoor
