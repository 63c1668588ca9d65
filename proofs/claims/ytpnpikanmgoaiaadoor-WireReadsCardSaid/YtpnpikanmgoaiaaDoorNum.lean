/-
  strconv.Itoa and strconv.FormatBool: the shelf's contracts in the form that this seat's walks take ('Below'; the text behind a name).
-/
import Derived.Test.YtpnpikanmgoaiaaDoorShNum
import Derived.Test.YtpnpikanmgoaiaaDoorWire
import Derived.Lib.ItoaLen
import Derived.WalkSmall
import Derived.Lib.LaidTab
namespace Go.Proofs.YtpnpikanmgoaiaaDoor
open Go.RowKit Go.Sort

/-- a number's text -/
def itoaB (n : Int) : ByteArray := ⟨(Lib.itoa n).toArray⟩
theorem itoaB_size {n : Int} (h0 : -9223372036854775808 ≤ n) (h1 : n ≤ 9223372036854775807) : (itoaB n).size ≤ 21 := by
  have := Lib.itoa_length_le n h0 h1
  show (Lib.itoa n).toArray.size ≤ 21
  simpa using this
/-- a bool's text -/
def boolB (b : Bool) : ByteArray := ⟨(Lib.formatBool b).toArray⟩
theorem boolB_size (b : Bool) : (boolB b).size ≤ 5 := by cases b <;> decide

def PowTab (w : World) : Prop := Lib.TabIs Tryd.prog w "internal/strconv.uint64pow10" .u64 Lib.pow10Tab
theorem powGlobal : Tryd.prog.globalNamed "internal/strconv.uint64pow10" = some 1 := by kernel_rfl
theorem PowTab.below {w w' : World} (h : PowTab w) (hb : Below w.heap.size w w') : PowTab w' := by
  unfold PowTab Lib.TabIs at *
  have hlt : 1 < w.heap.size := World.block_lt_of_cell? w ⟨1, 0, none⟩ (Lib.TabIs.cell (P := Tryd.prog) (name := "internal/strconv.uint64pow10") h powGlobal 0 (by decide))
  unfold World.var? at *
  rw [powGlobal] at *
  simp only [Option.bind_some] at *
  rw [hb.block _ hlt]
  exact h

theorem grow_below (w : World) (k : Nat) (os : Array Obj) : Below w.heap.size w (grow (w.drewN k) os) :=
  ⟨rfl, rfl, rfl, by show w.heap.size ≤ (w.heap ++ os).size; rw [Array.size_append]; omega, fun i hi => by show (w.heap ++ os)[i]? = w.heap[i]?; rw [Array.getElem?_append_left hi]⟩

/-- The two library variables that the walks read. -/
structure Glob (w : World) : Prop where
  err : ErrType w
  pow : PowTab w
theorem Glob.below {w w' : World} (h : Glob w) (hb : Below w.heap.size w w') : Glob w' := ⟨h.err.below hb, h.pow.below hb⟩

theorem itoa_any (n : Int) (h0 : -9223372036854775808 ≤ n) (h1 : n ≤ 9223372036854775807) (w : World) (hg : PowTab w) :
    Calls Tryd.prog 35 #[.int .i64 n] w fun e w' => e = .returned (.string (itoaB n)) ∧ Below w.heap.size w w' := by
  refine (Tryd.strconv_Itoa n h0 h1 w hg).mono ?_
  rintro e w' ⟨rfl, k, os, rfl⟩
  exact ⟨rfl, grow_below w k os⟩
theorem boolB_any (b : Bool) (w : World) : Calls Tryd.prog 37 #[.bool b] w fun e w' => e = .returned (.string (boolB b)) ∧ w = w' := by
  refine (Tryd.strconv_FormatBool b w).mono ?_
  rintro e w' ⟨rfl, rfl⟩
  exact ⟨rfl, rfl⟩
end Go.Proofs.YtpnpikanmgoaiaaDoor
