/-
  What the cards of this seat share: from the rows' lists of package-level variables to the facts that the walks take, and a world in which the variables hold what is listed.
-/
import Derived.Test.YthbjibhhomeolaaDoorCards
import Derived.Test.YthbjibhhomeolaaDoorTie
import Derived.Test.YthbjibhhomeolaaDoorNb
import Derived.ProofKit
import Derived.OpenShut
import Derived.ShutString
import Derived.SizedLaws
import Derived.LaidHandle
import Derived.Deep.DeepHandedRow
import Derived.Lib.SmallJoins
import Derived.Lib.LaidU8
import Derived.Stop.LaidErr
namespace Go.Proofs.YthbjibhhomeolaaDoor
open Go.ChangeShapes Go.WideShapes Go.ChangeAt Go.RowKit
open Go.ChangeMaps (open_string shut_string)

namespace ck
theorem own : ownKnob Tryd.prog.godebug = none := by kernel_rfl
theorem laidOut : laidOutB Tryd.prog = true := by kernel_rfl
theorem rt : (Tryd.prog.cutTypes.find? (·.1 == "internal/reflectlite.rtype")).map (·.2) = some 163 := by kernel_rfl
theorem oneRow : ((List.range Tryd.prog.types.size).filter fun t => Tryd.prog.rowNamed t [101, 114, 114, 111, 114]) = [31] := by kernel_rfl
theorem gErr : Tryd.prog.globalNamed "errors.errorType" = some 1 := by kernel_rfl
theorem gPow : Tryd.prog.globalNamed "internal/strconv.uint64pow10" = some 4 := by kernel_rfl

/-- the laid handle gives the variable's one cell -/
theorem err_of {W : World} {hs : List (String × DataW Unit)} (h : handlesMet Tryd.prog hs W) (hm : ("errors.errorType", Rows.laid_errors_errorType) ∈ hs) : ErrType W := by
  obtain ⟨name, u, ty, e1, e2, e3, e4, e5⟩ := h _ hm
  have en : name = [101, 114, 114, 111, 114] := (Option.some.inj e1).symm
  subst en
  obtain rfl := Option.some.inj (rt.symm.trans e2)
  have hmem : ty ∈ (List.range Tryd.prog.types.size).filter fun t => Tryd.prog.rowNamed t [101, 114, 114, 111, 114] := List.mem_filter.2 ⟨List.mem_range.2 e3, e4⟩
  rw [oneRow] at hmem
  obtain rfl := List.mem_singleton.1 hmem
  have hh : typeHandle Tryd.prog 31 = .pointer (some ⟨9, 31, none⟩) := by kernel_rfl
  rw [hh] at e5
  have := World.var?_cell gErr e5 0
  simpa [ErrType] using this
theorem tab_of_reads {W : World} {name : String} {k : IntKind} {zs : List Int} {g : Nat} {t e : TypeId} {n : Nat}
    (hg : Tryd.prog.globalNamed name = some g) (hty : (Tryd.prog.globals[g]?).map (·.type) = some t) (ht : Tryd.prog.underlying t = some (.array n e)) (he : Tryd.prog.underlying e = some (.int k)) (hce : Tryd.prog.cellsOf e = 1) (hct : Tryd.prog.cellsOf t = n)
    (h : Lib.VarReads Tryd.prog W name (Lib.tabData k zs)) : Lib.TabIs Tryd.prog W name k zs := by
  obtain ⟨g', t', cs, fuel, p, hg', ht', hvar, hd⟩ := h
  obtain rfl := Option.some.inj (hg.symm.trans hg')
  obtain rfl := Option.some.inj (hty.symm.trans ht')
  unfold Lib.TabIs
  rw [hvar, ← Lib.cells_of_tab ht he hce hct hd]
theorem powData : (Lib.tabData .u64 Lib.pow10Tab : DataW Unit) = Rows.laid_internal_strconv_uint64pow10 := by kernel_rfl
theorem pow_of {W : World} (h : Lib.VarReads Tryd.prog W "internal/strconv.uint64pow10" Rows.laid_internal_strconv_uint64pow10) : PowTab W := by
  rw [← powData] at h
  exact tab_of_reads (t := 158) (e := 54) (n := 20) gPow (by kernel_rfl) (by kernel_rfl) (by kernel_rfl) (by kernel_rfl) (by kernel_rfl) h
/-- a laid sentinel is some error -/
theorem some_of {W : World} {name nm : String} {d : DataW Unit} {g : Nat} {ms : Array (String × TypeId)} (hg : Tryd.prog.globalNamed name = some g) (hty : (Tryd.prog.globals[g]?).map (·.type) = some 31) (hi : Tryd.prog.underlying 31 = some (.interface ms))
    (h : Lib.VarReads Tryd.prog W name (.iface nm d)) : SomeErr W name := by
  obtain ⟨g', t', cs, fuel, p, hg', ht', hvar, hd⟩ := h
  obtain rfl := Option.some.inj (hg.symm.trans hg')
  obtain rfl := Option.some.inj (hty.symm.trans ht')
  obtain ⟨_, u, v, hcs, _⟩ := iface_of_trod hi hd
  obtain ⟨l⟩ := cs
  exact ⟨u, v, by rw [hvar]; simp only at hcs; rw [hcs]⟩
theorem syn_of {W : World} (h : Lib.VarReads Tryd.prog W "strconv.ErrSyntax" Rows.laid_strconv_ErrSyntax) : SomeErr W "strconv.ErrSyntax" := some_of synGlobal (by kernel_rfl) Tryd.underlying31 h
theorem ran_of {W : World} (h : Lib.VarReads Tryd.prog W "strconv.ErrRange" Rows.laid_strconv_ErrRange) : SomeErr W "strconv.ErrRange" := some_of ranGlobal (by kernel_rfl) Tryd.underlying31 h
theorem max_of {W : World} (h : W.ShapedOpen Tryd.prog) : MaxIs W := Tryd.laysM145.s1_3 W h

def cellsIn : DataW Unit → Array Value
  | .agg l => (l.map fun | .lit (.int k n) => Value.int k n | .agg l2 => .agg (l2.map fun | .lit (.int k n) => Value.int k n | _ => .bool false).toArray | _ => .bool false).toArray
  | _ => #[]
def textOf : DataW Unit → Value
  | .iface _ (.ptr (.agg [.lit (.string l)])) => .string ⟨l.toArray⟩
  | _ => .bool false
def put (h : Array Obj) (g : Nat) (cs : Array Value) : Array Obj := h.modify g fun
  | .cells _ t frozen => .cells cs t frozen
  | o => o
/-- the heap in which a program begins -/
noncomputable def heap0 (os : Os) : Array Obj := (World.holding Tryd.prog os ⟨#[], #[], []⟩).heap
/-- with the tables, the handle and the two sentinels laid -/
noncomputable def heap1 (os : Os) : Array Obj :=
  let h1 := put (heap0 os) 7 (cellsIn Rows.laid_math_bits_deBruijn32tab)
  let h2 := put h1 8 (cellsIn Rows.laid_math_bits_deBruijn64tab)
  let h3 := put h2 4 (cellsIn Rows.laid_internal_strconv_uint64pow10)
  let h4 := put h3 1 #[.iface 163 (.agg #[.pointer (some ⟨9, 31, none⟩)])]
  let h5 := put h4 3 #[.iface 175 (.pointer (some ⟨(heap0 os).size, 0, none⟩))]
  let h6 := put h5 2 #[.iface 175 (.pointer (some ⟨(heap0 os).size + 1, 0, none⟩))]
  (h6.push (.cells #[textOf Rows.laid_strconv_ErrRange] 177)).push (.cells #[textOf Rows.laid_strconv_ErrSyntax] 177)
noncomputable def laidWorld (os : Os) : World := { World.holding Tryd.prog os ⟨#[], #[], []⟩ with heap := heap1 os }
end ck
end Go.Proofs.YthbjibhhomeolaaDoor
