/-
  The shelf's contracts of strconv.Itoa, strconv.Atoi, strings.Cut, strings.IndexByte in the form that this seat's walks take, and the package-level variables that the walks read.
-/
import Derived.Test.YthbjibhhomeolaaDoorShT
import Derived.Test.YthbjibhhomeolaaDoorEr
import Derived.Lib.ItoaLen
import Derived.WalkSmall
import Derived.Lib.LaidTab
import Derived.Lib.SmallJoins
namespace Go.Proofs.YthbjibhhomeolaaDoor
open Go.RowKit Go.Sort

/-- a list of bytes as a string -/
def bs (l : List UInt8) : ByteArray := ⟨l.toArray⟩
@[simp] theorem bs_data (l : List UInt8) : (bs l).data.toList = l := rfl
@[simp] theorem bs_size (l : List UInt8) : (bs l).size = l.length := by show l.toArray.size = _; simp
theorem bs_of (s : ByteArray) : bs s.data.toList = s := rfl
theorem bs_app (a b : List UInt8) : bs a ++ bs b = bs (a ++ b) := by
  apply ByteArray.ext
  simp [bs]
theorem bs_inj {a b : List UInt8} : bs a = bs b ↔ a = b := ⟨fun h => by have := congrArg (fun s : ByteArray => s.data.toList) h; simpa using this, fun h => h ▸ rfl⟩

theorem drewN_below (w : World) (n : Nat) : Below w.heap.size w (w.drewN n) := by
  induction n with
  | zero => exact Below.refl _ _
  | succ n ih => exact ⟨rfl, rfl, rfl, Nat.le_refl _, fun _ _ => rfl⟩

/-- a number's text -/
def itoaB (n : Int) : ByteArray := bs (Lib.itoa n)
theorem itoaB_size {n : Int} (h0 : -9223372036854775808 ≤ n) (h1 : n ≤ 9223372036854775807) : (itoaB n).size ≤ 21 := by
  have := Lib.itoa_length_le n h0 h1
  simpa [itoaB] using this

def PowTab (w : World) : Prop := Lib.TabIs Tryd.prog w "internal/strconv.uint64pow10" .u64 Lib.pow10Tab
theorem powGlobal : Tryd.prog.globalNamed "internal/strconv.uint64pow10" = some 4 := by kernel_rfl
theorem PowTab.below {w w' : World} (h : PowTab w) (hb : Below w.heap.size w w') : PowTab w' := by
  unfold PowTab Lib.TabIs at *
  have hlt : 4 < w.heap.size := World.block_lt_of_cell? w ⟨4, 0, none⟩ (Lib.TabIs.cell (P := Tryd.prog) (name := "internal/strconv.uint64pow10") h powGlobal 0 (by decide))
  unfold World.var? at *
  rw [powGlobal] at *
  simp only [Option.bind_some] at *
  rw [hb.block _ hlt]
  exact h
/-- a variable that holds some error -/
def SomeErr (w : World) (n : String) : Prop := ∃ tp p, w.var? Tryd.prog n = some #[.iface tp p]
theorem SomeErr.below {w w' : World} {n : String} {g : Nat} (hg : Tryd.prog.globalNamed n = some g) (h : SomeErr w n) (hb : Below w.heap.size w w') : SomeErr w' n := by
  obtain ⟨tp, p, h⟩ := h
  refine ⟨tp, p, ?_⟩
  have hc := World.var?_cell hg h 0
  have hlt : g < w.heap.size := World.block_lt_of_cell? w ⟨g, 0, none⟩ hc
  unfold World.var? at *
  rw [hg] at *
  simp only [Option.bind_some] at *
  rw [hb.block _ hlt]
  exact h
theorem synGlobal : Tryd.prog.globalNamed "strconv.ErrSyntax" = some 2 := by kernel_rfl
theorem ranGlobal : Tryd.prog.globalNamed "strconv.ErrRange" = some 3 := by kernel_rfl
def MaxIs (w : World) : Prop := ∃ m, w.cell? ⟨0, 0, none⟩ = some (.int .i64 m)
theorem MaxIs.below {w w' : World} (h : MaxIs w) (hb : Below w.heap.size w w') : MaxIs w' := by
  obtain ⟨m, h⟩ := h
  exact ⟨m, (hb.cell (p := ⟨0, 0, none⟩) (World.block_lt_of_cell? w _ h)).trans h⟩

theorem grow_below (w : World) (k : Nat) (os : Array Obj) : Below w.heap.size w (grow (w.drewN k) os) :=
  ⟨rfl, rfl, rfl, by show w.heap.size ≤ (w.heap ++ os).size; rw [Array.size_append]; omega, fun i hi => by show (w.heap ++ os)[i]? = w.heap[i]?; rw [Array.getElem?_append_left hi]⟩

/-- The library's variables that the walks over numerals read. -/
structure Glob (w : World) : Prop where
  err : ErrType w
  pow : PowTab w
  syn : SomeErr w "strconv.ErrSyntax"
  ran : SomeErr w "strconv.ErrRange"
  mx : MaxIs w
theorem Glob.below {w w' : World} (h : Glob w) (hb : Below w.heap.size w w') : Glob w' := ⟨h.err.below hb, h.pow.below hb, h.syn.below synGlobal hb, h.ran.below ranGlobal hb, h.mx.below hb⟩

theorem itoa_any (n : Int) (h0 : -9223372036854775808 ≤ n) (h1 : n ≤ 9223372036854775807) (w : World) (hg : PowTab w) :
    Calls Tryd.prog 35 #[.int .i64 n] w fun e w' => e = .returned (.string (itoaB n)) ∧ Below w.heap.size w w' := by
  refine (Tryd.strconv_Itoa n h0 h1 w hg).mono ?_
  rintro e w' ⟨rfl, k, os, rfl⟩
  exact ⟨rfl, grow_below w k os⟩
theorem itoa_from (n : Int) (h0 : -9223372036854775808 ≤ n) (h1 : n ≤ 9223372036854775807) (w0 w : World) (hg : PowTab w0) (hb : Below w0.heap.size w0 w) :
    Calls Tryd.prog 35 #[.int .i64 n] w fun e w' => e = .returned (.string (itoaB n)) ∧ Below w0.heap.size w0 w' ∧ Below w.heap.size w w' := by
  refine (itoa_any n h0 h1 w (hg.below hb)).mono ?_
  rintro e w' ⟨rfl, h⟩
  exact ⟨rfl, hb.trans (h.mono hb.size), h⟩
theorem itoa_small (n : Int) (h0 : 0 ≤ n) (h1 : n < 100) (w : World) : Calls Tryd.prog 35 #[.int .i64 n] w fun e w' => e = .returned (.string (itoaB n)) ∧ w = w' := by
  obtain ⟨m, rfl⟩ := Int.eq_ofNat_of_zero_le h0
  refine (Tryd.strconv_Itoa_small m (by omega) w).mono ?_
  rintro e w' ⟨rfl, rfl⟩
  exact ⟨by unfold itoaB Lib.itoa bs; rw [if_neg (by omega)]; simp, rfl⟩
theorem atoi_ok (s : ByteArray) (hs : s.size ≤ 1000) (v : Int) (h : Lib.atoiAll s.data.toList = .ok v) (w : World) :
    Calls Tryd.prog 39 #[.string s] w fun e w' => e = .returned (.tuple #[.int .i64 v, .nilIface]) ∧ Below w.heap.size w w' := by
  refine (Tryd.strconv_Atoi_ok s (by omega) v h w).mono ?_
  rintro e w' ⟨rfl, rfl | ⟨t, rfl⟩⟩
  · exact ⟨rfl, Below.refl _ _⟩
  · exact ⟨rfl, Go.Joins.below_bytesWorld _ _ _ _ (Nat.le_refl _)⟩
theorem atoi_bad (s : ByteArray) (hs : s.size ≤ 1000) (h : ∀ v, Lib.atoiAll s.data.toList ≠ .ok v) (w : World) (hg : Glob w) :
    Calls Tryd.prog 39 #[.string s] w fun e w' => ∃ n N, e = .returned (.tuple #[.int .i64 n, .iface 125 (.pointer (some ⟨N, 0, none⟩))]) ∧ Below w.heap.size w w' := by
  cases hh : Lib.atoiAll s.data.toList
  · exact absurd hh (h _)
  · obtain ⟨tp, p, hv⟩ := hg.syn
    refine (Any.strconv_Atoi_syntax_var Tryd.laysC172 s (by omega) hh tp p w hv).mono ?_
    rintro e w' ⟨N, rfl, _, _, hb⟩
    exact ⟨_, N, rfl, hb⟩
  · obtain ⟨tp, p, hv⟩ := hg.ran
    refine (Tryd.strconv_Atoi_range_var s (by omega) hh tp p w hv).mono ?_
    rintro e w' ⟨N, rfl, _, _, hb⟩
    exact ⟨_, N, rfl, hb⟩
theorem cut_any (s sep : ByteArray) (hs : s.size ≤ 1000) (w : World) (hg : MaxIs w) :
    Calls Tryd.prog 38 #[.string s, .string sep] w fun e w' => e = .returned (.tuple #[.string (bs (Lib.cut s.data.toList sep.data.toList).1), .string (bs (Lib.cut s.data.toList sep.data.toList).2.1), .bool (Lib.cut s.data.toList sep.data.toList).2.2]) ∧ Below w.heap.size w w' := by
  obtain ⟨m, hm⟩ := hg
  refine (Tryd.strings_Cut s sep m w (by omega) hm).mono ?_
  rintro e w' ⟨rfl, n, rfl⟩
  exact ⟨rfl, drewN_below w n⟩
theorem ibyte_any (s : ByteArray) (c : Int) (w : World) : Calls Tryd.prog 29 #[.string s, .int .u8 c] w fun e w' => e = .returned (.int .i64 (Lib.indexByte s.data.toList c.toNat.toUInt8)) ∧ w = w' := by
  refine (Tryd.strings_IndexByte s c w).mono ?_
  rintro e w' ⟨rfl, rfl⟩
  exact ⟨rfl, rfl⟩
/-- a sum of two strings, under a name of its own -/
theorem cat_named (a b : ByteArray) (h : a.size + b.size ≤ 9223372036854775807) : ∃ y, a ++ b = y ∧ y.size = a.size + b.size ∧ ∀ W, (Op.stringOp .add a b).run Tryd.prog W = .ok (.string y) W :=
  ⟨a ++ b, rfl, by simp [ByteArray.size_append], fun W => run_string_add_sum W a b h⟩
end Go.Proofs.YthbjibhhomeolaaDoor
