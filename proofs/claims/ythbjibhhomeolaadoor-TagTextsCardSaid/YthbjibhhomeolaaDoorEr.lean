/-
  The errors of the program taken apart: contracts of errors.As (target *api.Errno), api.Tell, plain.Place and the statements' own 'bare', at nil, an api.Errno, an *api.At.
-/
import Derived.Test.YthbjibhhomeolaaDoorAs
import Derived.Deep.QuietTactic
import Derived.BigQuiet
namespace Go.Proofs.YthbjibhhomeolaaDoor
open Go.RowKit Go.Extern.Stop Go.Stop Go.Extern

theorem Tryd.methodUnwrap (p : Option Addr) (w : World) : (Go.method 311 103 (.pointer p) "Unwrap").run Tryd.prog w = .ok (133, .pointer p) w := by kernel_rfl
theorem Tryd.atNoAs (v : Value) (xT : TypeId) (w : World) : (Instr.typeAssert (.iface 103 v) xT 168 true).run Tryd.prog w = .ok (.tuple #[.nilIface, .bool false]) w :=
  run_typeAssert_lacksB Tryd.underlying168 (by kernel_rfl) (by kernel_rfl) v xT w
theorem Tryd.atUnwraps (v : Value) (xT : TypeId) (w : World) : (Instr.typeAssert (.iface 103 v) xT 107 true).run Tryd.prog w = .ok (.tuple #[.iface 103 v, .bool true]) w :=
  run_typeAssert_hasB Tryd.underlying107 (by kernel_rfl) v xT w
theorem Tryd.errnoNoUnwrap (v : Value) (xT : TypeId) (w : World) : (Instr.typeAssert (.iface 27 v) xT 107 true).run Tryd.prog w = .ok (.tuple #[.nilIface, .bool false]) w :=
  run_typeAssert_lacksB Tryd.underlying107 (by kernel_rfl) (by kernel_rfl) v xT w
theorem Tryd.atIsAt (v : Value) (w : World) : (Instr.typeAssert (.iface 103 v) 31 103 true).run Tryd.prog w = .ok (.tuple #[v, .bool true]) w := by kernel_rfl
theorem Tryd.errnoNoAt (v : Value) (w : World) : (Instr.typeAssert (.iface 27 v) 31 103 true).run Tryd.prog w = .ok (.tuple #[.pointer none, .bool false]) w := by kernel_rfl

/-- What errors.errorType holds (the row's listed variable). -/
def ErrType (w : World) : Prop := w.cell? ⟨1, 0, none⟩ = some (.iface 163 (.agg #[.pointer (some ⟨9, 31, none⟩)]))
theorem ErrType.lt {w : World} (h : ErrType w) : 1 < w.heap.size := World.block_lt_of_cell? w ⟨1, 0, none⟩ h
theorem ErrType.below {w w' : World} (h : ErrType w) (hb : Below w.heap.size w w') : ErrType w' := (hb.cell (p := ⟨1, 0, none⟩) h.lt).trans h

/-- the four blocks that a hit lays -/
def hitWorld (w : World) (t : Addr) (e : Int) : World :=
  (((w.alloc (.cells #[.pointer (some t)] 121)).alloc (.cells #[.pointer (some ⟨9, 121, none⟩), .pointer (some ⟨w.heap.size, 0, none⟩), .int .u64 150] 143)).alloc (.cells #[.pointer (some ⟨9, 121, none⟩), .pointer (some ⟨w.heap.size, 0, none⟩), .int .u64 150] 143)).alloc (.cells #[.int .i64 e] 27)

set_option maxHeartbeats 4000000 in
theorem as_E (e : Int) (t : Addr) (old : Value) (w : World) (hg : ErrType w) (ht0 : w.cell? t = some old) (hf0 : w.frozen? t = false) :
    Calls Tryd.prog 74 #[.iface 27 (.int .i64 e), .iface 121 (.pointer (some t))] w fun ev w' => ev = .returned (.bool true) ∧ w' = (hitWorld w t e).setCell t (.int .i64 e) := by
  have h6 := @run_callFunc_extern Tryd.prog 92 _ (fun args => ReflectliteValue.unpack (args.getD 0 (.tuple #[]))) Tryd.func92 (by kernel_rfl) (by kernel_rfl) (by kernel_rfl) (by kernel_rfl)
  have h7 := @run_callFunc_extern Tryd.prog 93 _ (ReflectliteValue.methodAny (ReflectliteValue.valueError "reflectlite.Value.Type" 0) (fun t _ _ _ => ReflectliteType.toType t)) Tryd.func93 (by kernel_rfl) (by kernel_rfl) (by kernel_rfl) (by kernel_rfl)
  have h8 := @run_callFunc_extern Tryd.prog 94 _ (ReflectliteValue.method (ReflectliteValue.valueError "reflectlite.Value.IsNil" 0) ReflectliteValue.isNil) Tryd.func94 (by kernel_rfl) (by kernel_rfl) (by kernel_rfl) (by kernel_rfl)
  have h27 := @run_callFunc_extern Tryd.prog 127 _ (ReflectliteType.abiMethod fun t => do pure (.int .u8 (← Rtype.kind t))) Tryd.func127 (by kernel_rfl) (by kernel_rfl) (by kernel_rfl) (by kernel_rfl)
  have h37 := @run_callFunc_extern Tryd.prog 143 _ (ReflectliteType.method ReflectliteType.elem) Tryd.func143 (by kernel_rfl) (by kernel_rfl) (by kernel_rfl) (by kernel_rfl)
  have h38 := @run_callFunc_extern Tryd.prog 144 _ (ReflectliteType.relation "Implements" ReflectliteType.implements_) Tryd.func144 (by kernel_rfl) (by kernel_rfl) (by kernel_rfl) (by kernel_rfl)
  have h10 := @run_callFunc_extern Tryd.prog 107 _ ReflectliteType.typeOf Tryd.func107 (by kernel_rfl) (by kernel_rfl) (by kernel_rfl) (by kernel_rfl)
  have h35 := @run_callFunc_extern Tryd.prog 141 _ (ReflectliteType.relation "AssignableTo" ReflectliteType.assignableTo) Tryd.func141 (by kernel_rfl) (by kernel_rfl) (by kernel_rfl) (by kernel_rfl)
  have h11 := @run_callFunc_extern Tryd.prog 108 _ (ReflectliteValue.method (ReflectliteValue.valueError "reflectlite.Value.Elem" 0) ReflectliteValue.elem) Tryd.func108 (by kernel_rfl) (by kernel_rfl) (by kernel_rfl) (by kernel_rfl)
  have h12 := @run_callFunc_extern Tryd.prog 109 _ ReflectliteValue.set Tryd.func109 (by kernel_rfl) (by kernel_rfl) (by kernel_rfl) (by kernel_rfl)
  have tO := Tryd.typeOfE
  have mA := Tryd.methodAssignableTo
  have a25 := Tryd.assignableE
  have v25 := Tryd.valueOfE
  have f6 := Tryd.valueOfP
  have f7 := Tryd.typeP
  have mK := Tryd.methodKind
  have mE := Tryd.methodElem
  have mI := Tryd.methodImplements
  have k27 := Tryd.kindP
  have k25 := Tryd.kindE
  have e27 := Tryd.elemP
  have i25 := Tryd.implementsE
  have hlt := hg.lt
  unfold ErrType at hg
  have htl : t.block < w.heap.size := World.block_lt_of_cell? w t ht0
  have n8 := Tryd.isNilP ⟨w.heap.size, 0, none⟩ t ((w.alloc (.cells #[.pointer (some t)] 121)).alloc (.cells #[.pointer (some ⟨9, 121, none⟩), .pointer (some ⟨w.heap.size, 0, none⟩), .int .u64 150] 143)) (by simp)
  have hg2 : ((w.alloc (.cells #[.pointer (some t)] 121)).alloc (.cells #[.pointer (some ⟨9, 121, none⟩), .pointer (some ⟨w.heap.size, 0, none⟩), .int .u64 150] 143)).cell? ⟨1, 0, none⟩ = some (.iface 163 (.agg #[.pointer (some ⟨9, 31, none⟩)])) := by
    rw [World.cell?_alloc_lt _ _ ⟨1, 0, none⟩ (by simp <;> omega), World.cell?_alloc_lt _ _ ⟨1, 0, none⟩ hlt]; exact hg
  have el := Tryd.elemVP ⟨w.heap.size, 0, none⟩ t (((w.alloc (.cells #[.pointer (some t)] 121)).alloc (.cells #[.pointer (some ⟨9, 121, none⟩), .pointer (some ⟨w.heap.size, 0, none⟩), .int .u64 150] 143)).alloc (.cells #[.pointer (some ⟨9, 121, none⟩), .pointer (some ⟨w.heap.size, 0, none⟩), .int .u64 150] 143)) (by rw [World.cell?_alloc_lt _ _ ⟨w.heap.size, 0, none⟩ (by simp; omega)]; simp)
  have st := Tryd.setE t ⟨w.heap.size + 1 + 1 + 1, 0, none⟩ e old ((((w.alloc (.cells #[.pointer (some t)] 121)).alloc (.cells #[.pointer (some ⟨9, 121, none⟩), .pointer (some ⟨w.heap.size, 0, none⟩), .int .u64 150] 143)).alloc (.cells #[.pointer (some ⟨9, 121, none⟩), .pointer (some ⟨w.heap.size, 0, none⟩), .int .u64 150] 143)).alloc (.cells #[.int .i64 e] 27))
    (by rw [World.cell?_alloc_at _ _ _ _ (by simp)]; rfl)
    (by rw [World.cell?_alloc_lt _ _ t (by simp; omega), World.cell?_alloc_lt _ _ t (by simp; omega), World.cell?_alloc_lt _ _ t (by simp; omega), World.cell?_alloc_lt _ _ t htl]; exact ht0)
    (by rw [World.frozen?_alloc_old _ _ t (by simp; omega), World.frozen?_alloc_old _ _ t (by simp; omega), World.frozen?_alloc_old _ _ t (by simp; omega), World.frozen?_alloc_old _ _ t (Nat.ne_of_lt htl)]; exact hf0)
  go_enter Tryd.func74, Tryd.ntmps74
  go_wp2
  refine wp_loop_rounds 1 ?_
  rw [rounds_succ]
  go_wp2
  go_ret
  exact ⟨rfl, rfl⟩

set_option maxHeartbeats 4000000 in
theorem as_A (e : Int) (h : Nat) (t : Addr) (old : Value) (w : World) (hg : ErrType w) (ht0 : w.cell? t = some old) (hf0 : w.frozen? t = false) (hat : w.cell? ⟨h, 0, none⟩ = some (.int .i64 e)) :
    Calls Tryd.prog 74 #[.iface 103 (.pointer (some ⟨h, 0, none⟩)), .iface 121 (.pointer (some t))] w fun ev w' => ev = .returned (.bool true) ∧ w' = (hitWorld w t e).setCell t (.int .i64 e) := by
  have h6 := @run_callFunc_extern Tryd.prog 92 _ (fun args => ReflectliteValue.unpack (args.getD 0 (.tuple #[]))) Tryd.func92 (by kernel_rfl) (by kernel_rfl) (by kernel_rfl) (by kernel_rfl)
  have h7 := @run_callFunc_extern Tryd.prog 93 _ (ReflectliteValue.methodAny (ReflectliteValue.valueError "reflectlite.Value.Type" 0) (fun t _ _ _ => ReflectliteType.toType t)) Tryd.func93 (by kernel_rfl) (by kernel_rfl) (by kernel_rfl) (by kernel_rfl)
  have h8 := @run_callFunc_extern Tryd.prog 94 _ (ReflectliteValue.method (ReflectliteValue.valueError "reflectlite.Value.IsNil" 0) ReflectliteValue.isNil) Tryd.func94 (by kernel_rfl) (by kernel_rfl) (by kernel_rfl) (by kernel_rfl)
  have h27 := @run_callFunc_extern Tryd.prog 127 _ (ReflectliteType.abiMethod fun t => do pure (.int .u8 (← Rtype.kind t))) Tryd.func127 (by kernel_rfl) (by kernel_rfl) (by kernel_rfl) (by kernel_rfl)
  have h37 := @run_callFunc_extern Tryd.prog 143 _ (ReflectliteType.method ReflectliteType.elem) Tryd.func143 (by kernel_rfl) (by kernel_rfl) (by kernel_rfl) (by kernel_rfl)
  have h38 := @run_callFunc_extern Tryd.prog 144 _ (ReflectliteType.relation "Implements" ReflectliteType.implements_) Tryd.func144 (by kernel_rfl) (by kernel_rfl) (by kernel_rfl) (by kernel_rfl)
  have h10 := @run_callFunc_extern Tryd.prog 107 _ ReflectliteType.typeOf Tryd.func107 (by kernel_rfl) (by kernel_rfl) (by kernel_rfl) (by kernel_rfl)
  have h35 := @run_callFunc_extern Tryd.prog 141 _ (ReflectliteType.relation "AssignableTo" ReflectliteType.assignableTo) Tryd.func141 (by kernel_rfl) (by kernel_rfl) (by kernel_rfl) (by kernel_rfl)
  have h11 := @run_callFunc_extern Tryd.prog 108 _ (ReflectliteValue.method (ReflectliteValue.valueError "reflectlite.Value.Elem" 0) ReflectliteValue.elem) Tryd.func108 (by kernel_rfl) (by kernel_rfl) (by kernel_rfl) (by kernel_rfl)
  have h12 := @run_callFunc_extern Tryd.prog 109 _ ReflectliteValue.set Tryd.func109 (by kernel_rfl) (by kernel_rfl) (by kernel_rfl) (by kernel_rfl)
  have tO := Tryd.typeOfE
  have mA := Tryd.methodAssignableTo
  have a25 := Tryd.assignableE
  have v25 := Tryd.valueOfE
  have f6 := Tryd.valueOfP
  have f7 := Tryd.typeP
  have mK := Tryd.methodKind
  have mE := Tryd.methodElem
  have mI := Tryd.methodImplements
  have k27 := Tryd.kindP
  have k25 := Tryd.kindE
  have e27 := Tryd.elemP
  have i25 := Tryd.implementsE
  have hlt := hg.lt
  unfold ErrType at hg
  have htl : t.block < w.heap.size := World.block_lt_of_cell? w t ht0
  have n8 := Tryd.isNilP ⟨w.heap.size, 0, none⟩ t ((w.alloc (.cells #[.pointer (some t)] 121)).alloc (.cells #[.pointer (some ⟨9, 121, none⟩), .pointer (some ⟨w.heap.size, 0, none⟩), .int .u64 150] 143)) (by simp)
  have hg2 : ((w.alloc (.cells #[.pointer (some t)] 121)).alloc (.cells #[.pointer (some ⟨9, 121, none⟩), .pointer (some ⟨w.heap.size, 0, none⟩), .int .u64 150] 143)).cell? ⟨1, 0, none⟩ = some (.iface 163 (.agg #[.pointer (some ⟨9, 31, none⟩)])) := by
    rw [World.cell?_alloc_lt _ _ ⟨1, 0, none⟩ (by simp <;> omega), World.cell?_alloc_lt _ _ ⟨1, 0, none⟩ hlt]; exact hg
  have el := Tryd.elemVP ⟨w.heap.size, 0, none⟩ t (((w.alloc (.cells #[.pointer (some t)] 121)).alloc (.cells #[.pointer (some ⟨9, 121, none⟩), .pointer (some ⟨w.heap.size, 0, none⟩), .int .u64 150] 143)).alloc (.cells #[.pointer (some ⟨9, 121, none⟩), .pointer (some ⟨w.heap.size, 0, none⟩), .int .u64 150] 143)) (by rw [World.cell?_alloc_lt _ _ ⟨w.heap.size, 0, none⟩ (by simp; omega)]; simp)
  have st := Tryd.setE t ⟨w.heap.size + 1 + 1 + 1, 0, none⟩ e old ((((w.alloc (.cells #[.pointer (some t)] 121)).alloc (.cells #[.pointer (some ⟨9, 121, none⟩), .pointer (some ⟨w.heap.size, 0, none⟩), .int .u64 150] 143)).alloc (.cells #[.pointer (some ⟨9, 121, none⟩), .pointer (some ⟨w.heap.size, 0, none⟩), .int .u64 150] 143)).alloc (.cells #[.int .i64 e] 27))
    (by rw [World.cell?_alloc_at _ _ _ _ (by simp)]; rfl)
    (by rw [World.cell?_alloc_lt _ _ t (by simp; omega), World.cell?_alloc_lt _ _ t (by simp; omega), World.cell?_alloc_lt _ _ t (by simp; omega), World.cell?_alloc_lt _ _ t htl]; exact ht0)
    (by rw [World.frozen?_alloc_old _ _ t (by simp; omega), World.frozen?_alloc_old _ _ t (by simp; omega), World.frozen?_alloc_old _ _ t (by simp; omega), World.frozen?_alloc_old _ _ t (Nat.ne_of_lt htl)]; exact hf0)
  have tA := Tryd.typeOfA
  have aA := Tryd.assignableA
  have nA := Tryd.atNoAs
  have uA := Tryd.atUnwraps
  have mU := Tryd.methodUnwrap
  have hlh : h < w.heap.size := World.block_lt_of_cell? w ⟨h, 0, none⟩ hat
  have hat2 : (((w.alloc (.cells #[.pointer (some t)] 121)).alloc (.cells #[.pointer (some ⟨9, 121, none⟩), .pointer (some ⟨w.heap.size, 0, none⟩), .int .u64 150] 143)).alloc (.cells #[.pointer (some ⟨9, 121, none⟩), .pointer (some ⟨w.heap.size, 0, none⟩), .int .u64 150] 143)).cell? ⟨h, 0, none⟩ = some (.int .i64 e) := by
    rw [World.cell?_alloc_lt _ _ ⟨h, 0, none⟩ (by simp; omega), World.cell?_alloc_lt _ _ ⟨h, 0, none⟩ (by simp; omega), World.cell?_alloc_lt _ _ ⟨h, 0, none⟩ hlh]; exact hat
  go_enter Tryd.func74, Tryd.ntmps74
  go_wp2
  refine wp_loop_rounds 2 ?_
  rw [rounds_succ]
  go_wp2
  rw [rounds_succ]
  go_wp2
  go_ret
  exact ⟨rfl, rfl⟩

theorem hit_below (w : World) (g : Nat) (t : Addr) (e : Int) (hB : g ≤ w.heap.size) (ht : g ≤ t.block) : Below g w ((hitWorld w t e).setCell t (.int .i64 e)) :=
  (((((Below.refl _ _).alloc hB _).alloc (by simp; omega) _).alloc (by simp; omega) _).alloc (by simp; omega) _).setCell ht _

/-- AN ERROR VALUE READS AS ITS NUMBER AND PLACE (0: nil, the place -1; an Errno: the place -1; an At: its own). -/
inductive IsErr (w : World) : Value → Int → Int → Prop
  | nil : IsErr w .nilIface 0 (-1)
  | errno (e : Int) : IsErr w (.iface 27 (.int .i64 e)) e (-1)
  | at_ (h : Nat) (e p : Int) (c0 : w.cell? ⟨h, 0, none⟩ = some (.int .i64 e)) (c1 : w.cell? ⟨h, 1, none⟩ = some (.int .i64 p)) : IsErr w (.iface 103 (.pointer (some ⟨h, 0, none⟩))) e p
theorem IsErr.below {w w' : World} {v : Value} {e p : Int} (h : IsErr w v e p) (hb : Below w.heap.size w w') : IsErr w' v e p := by
  cases h with
  | nil => exact .nil
  | errno e => exact .errno e
  | at_ h e p c0 c1 =>
    have hl : h < w.heap.size := World.block_lt_of_cell? w ⟨h, 0, none⟩ c0
    exact .at_ h e p ((hb.cell (p := ⟨h, 0, none⟩) hl).trans c0) ((hb.cell (p := ⟨h, 1, none⟩) hl).trans c1)

theorem hit_cell (w : World) (t : Addr) (e : Int) (old : Value) (ht0 : w.cell? t = some old) : ((hitWorld w t e).setCell t (.int .i64 e)).cell? t = some (.int .i64 e) := by
  have htl : t.block < w.heap.size := World.block_lt_of_cell? w t ht0
  refine World.cell?_setCell_same (u := old) _ _ _ ?_
  unfold hitWorld
  rw [World.cell?_alloc_lt _ _ t (by simp; omega), World.cell?_alloc_lt _ _ t (by simp; omega), World.cell?_alloc_lt _ _ t (by simp; omega), World.cell?_alloc_lt _ _ t htl]; exact ht0

theorem as_any (v : Value) (e p : Int) (t : Addr) (old : Value) (w : World) (hv : IsErr w v e p) (hn : v ≠ .nilIface) (hg : ErrType w) (ht0 : w.cell? t = some old) (hf0 : w.frozen? t = false) :
    Calls Tryd.prog 74 #[v, .iface 121 (.pointer (some t))] w fun ev w' => ev = .returned (.bool true) ∧ w'.cell? t = some (.int .i64 e) ∧ Below t.block w w' := by
  have htl : t.block < w.heap.size := World.block_lt_of_cell? w t ht0
  cases hv with
  | nil => exact absurd rfl hn
  | errno e =>
    refine (as_E e t old w hg ht0 hf0).mono ?_
    rintro ev w' ⟨rfl, rfl⟩
    exact ⟨rfl, hit_cell w t e old ht0, hit_below w t.block t e (by omega) (Nat.le_refl _)⟩
  | at_ h e p c0 c1 =>
    refine (as_A e h t old w hg ht0 hf0 c0).mono ?_
    rintro ev w' ⟨rfl, rfl⟩
    exact ⟨rfl, hit_cell w t e old ht0, hit_below w t.block t e (by omega) (Nat.le_refl _)⟩

theorem tell_nil (w : World) : Calls Tryd.prog 56 #[.nilIface] w fun ev w' => ev = .returned (.int .i64 0) ∧ w' = w := by
  go_enter Tryd.func56, Tryd.ntmps56
  go_wp2
  go_ret
  exact ⟨rfl, rfl⟩
theorem tell_some (T : TypeId) (x : Value) (e p : Int) (w : World) (hv : IsErr w (.iface T x) e p) (hg : ErrType w) : Calls Tryd.prog 56 #[.iface T x] w fun ev w' => ev = .returned (.int .i64 e) ∧ Below w.heap.size w w' := by
  have hb0 : Below w.heap.size w (w.alloc (.cells #[.int .i64 0] 27)) := (Below.refl _ _).alloc (Nat.le_refl _) _
  have HG := Lib.hid (hg.below hb0)
  have HV := Lib.hid (hv.below hb0)
  clear hg hv
  have hne : ∀ (w : World), (binOp .eql 31 (.iface T x) .nilIface).run Tryd.prog w = .ok (.bool false) w := fun w => by simp [go_sem]
  go_enter Tryd.func56, Tryd.ntmps56
  go_wp2_with (go_at_call 74; refine (as_any _ e p ⟨w.heap.size, 0, none⟩ (.int .i64 0) _ HV.out (by simp) HG.out (by simp) (by simp)).mono ?_; rintro ev w' ⟨rfl, hc, hb⟩)
  go_ret
  exact ⟨rfl, hb0.trans (hb.mono (by simp))⟩
theorem tell_any (v : Value) (e p : Int) (w : World) (hv : IsErr w v e p) (hg : ErrType w) : Calls Tryd.prog 56 #[v] w fun ev w' => ev = .returned (.int .i64 e) ∧ Below w.heap.size w w' := by
  cases hv with
  | nil => exact (tell_nil w).mono fun ev w' ⟨h1, h2⟩ => ⟨h1, h2 ▸ Below.refl _ _⟩
  | errno e => exact tell_some _ _ e _ w (.errno e) hg
  | at_ h e p c0 c1 => exact tell_some _ _ e _ w (.at_ h e p c0 c1) hg

theorem place_nil (w : World) : Calls Tryd.prog 33 #[.nilIface] w fun ev w' => ev = .returned (.tuple #[.int .i64 0, .int .i64 (-1)]) ∧ Below w.heap.size w w' := by
  go_enter Tryd.func33, Tryd.ntmps33
  go_wp2_with (go_at_call 56; refine (tell_nil _).mono ?_; rintro ev w' ⟨rfl, rfl⟩)
  refine wp_loop_rounds 1 ?_
  rw [rounds_succ]
  go_wp2
  go_ret2
  exact ⟨rfl, Below.refl _ _⟩
theorem place_errno (e : Int) (w : World) (hg : ErrType w) : Calls Tryd.prog 33 #[.iface 27 (.int .i64 e)] w fun ev w' => ev = .returned (.tuple #[.int .i64 e, .int .i64 (-1)]) ∧ Below w.heap.size w w' := by
  have hne : ∀ (w : World), (binOp .neq 31 (.iface 27 (.int .i64 e)) .nilIface).run Tryd.prog w = .ok (.bool true) w := fun w => by simp [go_sem]
  have a1 := Tryd.errnoNoAt
  have a2 := Tryd.errnoNoUnwrap
  have hnot : ∀ (x : Bool) (w : World), (Op.unary .not (.bool x)).run Tryd.prog w = .ok (.bool (!x)) w := fun _ _ => rfl
  go_enter Tryd.func33, Tryd.ntmps33
  go_wp2_with (go_at_call 56; refine (tell_any _ e (-1) _ (.errno e) hg).mono ?_; rintro ev w' ⟨rfl, hb⟩)
  refine wp_loop_rounds 1 ?_
  rw [rounds_succ]
  go_wp2
  go_ret2
  exact ⟨rfl, hb⟩
theorem place_at (h : Nat) (e p : Int) (w : World) (hg : ErrType w) (c0 : w.cell? ⟨h, 0, none⟩ = some (.int .i64 e)) (c1 : w.cell? ⟨h, 1, none⟩ = some (.int .i64 p)) :
    Calls Tryd.prog 33 #[.iface 103 (.pointer (some ⟨h, 0, none⟩))] w fun ev w' => ev = .returned (.tuple #[.int .i64 e, .int .i64 p]) ∧ Below w.heap.size w w' := by
  have hne : ∀ (x : Value) (w : World), (binOp .neq 31 (.iface 103 x) .nilIface).run Tryd.prog w = .ok (.bool true) w := fun x w => by simp [go_sem]
  have a1 := Tryd.atIsAt
  have hlh : h < w.heap.size := World.block_lt_of_cell? w ⟨h, 0, none⟩ c0
  go_enter Tryd.func33, Tryd.ntmps33
  go_wp2_with (go_at_call 56; refine (tell_any _ e p _ (.at_ h e p c0 c1) hg).mono ?_; rintro ev w' ⟨rfl, hb⟩)
  have c1' : w'.cell? ⟨h, 1, none⟩ = some (.int .i64 p) := (hb.cell (p := ⟨h, 1, none⟩) hlh).trans c1
  refine wp_loop_rounds 1 ?_
  rw [rounds_succ]
  go_wp2
  go_quiet (fail)
  go_wp2
  go_ret2
  exact ⟨rfl, hb.trans ⟨rfl, rfl, rfl, Nat.le_refl _, fun _ _ => rfl⟩⟩
theorem place_any (v : Value) (e p : Int) (w : World) (hv : IsErr w v e p) (hg : ErrType w) : Calls Tryd.prog 33 #[v] w fun ev w' => ev = .returned (.tuple #[.int .i64 e, .int .i64 p]) ∧ Below w.heap.size w w' := by
  cases hv with
  | nil => exact place_nil w
  | errno e => exact place_errno e w hg
  | at_ h e p c0 c1 => exact place_at h e p w hg c0 c1

/-- 'bare', where it holds. -/
theorem bare_any (v : Value) (e : Int) (w : World) (hv : IsErr w v e (-1)) (hg : ErrType w) : Calls Tryd.prog 15 #[v, .int .i64 e] w fun ev w' => ev = .returned (.bool true) ∧ Below w.heap.size w w' := by
  go_enter Tryd.func15, Tryd.ntmps15
  go_wp2_with (go_at_call 33; refine (place_any _ e (-1) _ hv hg).mono ?_; rintro ev w' ⟨rfl, hb⟩)
  go_ret
  exact ⟨by simp, hb⟩
end Go.Proofs.YthbjibhhomeolaaDoor
