/-
  Small lemmas on worlds, of no function of the program: blocks of known cells; worlds in which only some blocks have turned; small maps that a statement itself fills with written keys ('map[bool]string{true: .., false: ..}[x]').
-/
import Derived.Test.YthbjibhhomeolaaDoorProg
import Derived.WalkKit
import Derived.WalkSmall
import Derived.MapKept
import Derived.ChangeMaps4
import Derived.WideMake
import Derived.Lib.Hide
namespace Go.Proofs.YthbjibhhomeolaaDoor
open Go.RowKit
open Go.ChangeMaps (setBlock)

theorem heap_lt {w : World} {g : Nat} {o : Obj} (h : w.heap[g]? = some o) : g < w.heap.size := (Array.getElem?_eq_some_iff.1 h).1
theorem heap_ne {w : World} {g g' : Nat} {t t' : TypeId} {cs cs' : Array Value} (h : w.heap[g]? = some (.cells cs t (0, 0))) (h' : w.heap[g']? = some (.cells cs' t' (0, 0))) (hne : t ≠ t') : g ≠ g' := by
  rintro rfl
  rw [h] at h'
  injection h' with h'
  injection h' with _ ht
  exact hne ht
theorem heap_set {w : World} {g : Nat} {t : TypeId} {cs : Array Value} (h : w.heap[g]? = some (.cells cs t (0, 0))) (i : Nat) (u : Value) : (w.setCell ⟨g, i, none⟩ u).heap[g]? = some (.cells (cs.setIfInBounds i u) t (0, 0)) := by
  simp [World.setCell, Array.getElem?_modify, h]
theorem heap_cell {w : World} {g : Nat} {t : TypeId} {cs : Array Value} (h : w.heap[g]? = some (.cells cs t (0, 0))) (i : Nat) : w.cell? ⟨g, i, none⟩ = cs[i]? := cell_of_row w g i cs t (0, 0) h
theorem heap_frozen {w : World} {g : Nat} {t : TypeId} {cs : Array Value} (h : w.heap[g]? = some (.cells cs t (0, 0))) (i : Nat) : w.frozen? ⟨g, i, none⟩ = false := by simp [World.frozen?, h]
theorem heap_new (w : World) (o : Obj) : (w.alloc o).heap[w.heap.size]? = some o := (MapKept.heap_alloc w o).1
theorem grown_set (w : World) (g i : Nat) (u : Value) : w.grownBy (w.setCell ⟨g, i, none⟩ u) (some g) :=
  ⟨rfl, rfl, rfl, by simp [World.setCell], fun k _ hk => Below.heap_setCell w ⟨g, i, none⟩ u k (fun e => hk (by simp [e]))⟩

/-- Block g is a row of just these cells. -/
structure Row (w : World) (g : Nat) (cs : Array Value) (t : TypeId) : Prop where
  is : w.heap[g]? = some (.cells cs t (0, 0))
theorem Row.new (w : World) (cs : Array Value) (t : TypeId) : Row (w.alloc (.cells cs t)) w.heap.size cs t := ⟨heap_new w _⟩
theorem Row.below {w w' : World} {g : Nat} {cs : Array Value} {t : TypeId} (h : Row w g cs t) (hb : Below w.heap.size w w') : Row w' g cs t := ⟨(hb.block _ (heap_lt h.is)).trans h.is⟩
theorem Row.lt {w : World} {g : Nat} {cs : Array Value} {t : TypeId} (h : Row w g cs t) : g < w.heap.size := heap_lt h.is
theorem Row.cell {w : World} {g : Nat} {cs : Array Value} {t : TypeId} (h : Row w g cs t) (i : Nat) : w.cell? ⟨g, i, none⟩ = cs[i]? := heap_cell h.is i
theorem Row.frozen {w : World} {g : Nat} {cs : Array Value} {t : TypeId} (h : Row w g cs t) (i : Nat) : w.frozen? ⟨g, i, none⟩ = false := heap_frozen h.is i
theorem Row.set {w : World} {g : Nat} {cs : Array Value} {t : TypeId} (h : Row w g cs t) (i : Nat) (u : Value) : Row (w.setCell ⟨g, i, none⟩ u) g (cs.setIfInBounds i u) t := ⟨heap_set h.is i u⟩
theorem Row.far {w : World} {g : Nat} {cs : Array Value} {t : TypeId} (h : Row w g cs t) (g' i : Nat) (u : Value) (hne : g ≠ g') : Row (w.setCell ⟨g', i, none⟩ u) g cs t := ⟨(Below.heap_setCell w ⟨g', i, none⟩ u g hne).trans h.is⟩
theorem Row.drew {w : World} {g : Nat} {cs : Array Value} {t : TypeId} (h : Row w g cs t) : Row w.drew g cs t := ⟨h.is⟩

theorem Row.cells4 {w : World} {g : Nat} {a b c d : Value} {t : TypeId} (h : Row w g #[a, b, c, d] t) : w.cell? ⟨g, 0, none⟩ = some a ∧ w.cell? ⟨g, 1, none⟩ = some b ∧ w.cell? ⟨g, 2, none⟩ = some c ∧ w.cell? ⟨g, 3, none⟩ = some d :=
  ⟨h.cell 0, h.cell 1, h.cell 2, h.cell 3⟩
/-- Blocks outside S are as they were. -/
structure Keeps (S : Nat → Prop) (w w' : World) : Prop where
  os : w'.os = w.os
  tape : w'.tape = w.tape
  output : w'.output = w.output
  size : w.heap.size ≤ w'.heap.size
  block : ∀ i, i < w.heap.size → ¬ S i → w'.heap[i]? = w.heap[i]?
theorem Keeps.refl (S : Nat → Prop) (w : World) : Keeps S w w := ⟨rfl, rfl, rfl, Nat.le_refl _, fun _ _ _ => rfl⟩
theorem Keeps.trans {S : Nat → Prop} {a b c : World} (h : Keeps S a b) (k : Keeps S b c) : Keeps S a c :=
  ⟨k.os.trans h.os, k.tape.trans h.tape, k.output.trans h.output, Nat.le_trans h.size k.size, fun i hi hn => (k.block i (Nat.lt_of_lt_of_le hi h.size) hn).trans (h.block i hi hn)⟩
theorem Keeps.of_below {S : Nat → Prop} {a b : World} (h : Below a.heap.size a b) : Keeps S a b := ⟨h.os, h.tape, h.output, h.size, fun i hi _ => h.block i hi⟩
theorem Keeps.of_grown {S : Nat → Prop} {a b : World} {row : Option Nat} (h : a.grownBy b row) (hr : ∀ g, row = some g → S g) : Keeps S a b :=
  ⟨h.os, h.tape, h.output, h.size, fun i hi hn => h.block i hi (fun e => hn (hr i e.symm))⟩
theorem Keeps.set {S : Nat → Prop} (w : World) {g : Nat} (hg : S g) (i : Nat) (u : Value) : Keeps S w (w.setCell ⟨g, i, none⟩ u) := .of_grown (grown_set w g i u) (fun k e => by injection e with e; exact e ▸ hg)
theorem Keeps.mono {S S' : Nat → Prop} {a b : World} (h : Keeps S a b) (hs : ∀ i, S i → S' i) : Keeps S' a b := ⟨h.os, h.tape, h.output, h.size, fun i hi hn => h.block i hi (fun e => hn (hs i e))⟩
theorem Keeps.below {S : Nat → Prop} {a b : World} {B : Nat} (h : Keeps S a b) (hB : B ≤ a.heap.size) (hs : ∀ i, i < B → ¬ S i) : Below B a b := ⟨h.os, h.tape, h.output, h.size, fun i hi => h.block i (by omega) (hs i hi)⟩

theorem toList_data (a : ByteArray) : a.toList = a.data.toList := ByteArray.toList_eq a
theorem str_eq {a b : ByteArray} (h : a = b) : (a.toList == b.toList) = true := by subst h; exact beq_self_eq_true _
theorem str_ne {a b : ByteArray} (h : a ≠ b) : (a.toList == b.toList) = false := by
  rw [beq_eq_false_iff_ne, toList_data, toList_data]
  exact fun e => h (by obtain ⟨⟨x⟩⟩ := a; obtain ⟨⟨y⟩⟩ := b; cases e; rfl)

/-! ### Small maps with written keys -/
/-- two keys of one plain kind -/
def litKey : Value → Value → Bool
  | .bool _, .bool _ => true
  | .int j _, .int k _ => j == k
  | _, _ => false
def keySame : Value → Value → Bool
  | .bool a, .bool b => a == b
  | .int j a, .int k b => j == k && a == b
  | _, _ => false
/-- block b is a map, and k is none of its keys -/
def mapFresh (w : World) (b : Nat) (k : Value) : Bool := match w.heap[b]? with
  | some (.map es _) => es.toList.all fun e => litKey e.key k && !keySame e.key k
  | _ => false
/-- block b is a map, and k is one of its keys -/
def mapHas (w : World) (b : Nat) (k : Value) : Bool := match w.heap[b]? with
  | some (.map es _) => (es.toList.all fun e => litKey e.key k) && es.toList.any fun e => keySame e.key k
  | _ => false
/-- what stands there -/
def mapAt (w : World) (b : Nat) (k : Value) : Value := match w.heap[b]? with
  | some (.map es _) => ((es.toList.find? fun e => keySame e.key k).map (·.val)).getD .nilIface
  | _ => .nilIface
/-- the world behind 'm[k] = v' at a key that was not there -/
def insW (w : World) (b : Nat) (k v : Value) : World := match w.heap[b]? with
  | some (.map es c) => setBlock w b (.map (es.push { key := k, val := v, born := c }) (c + 1))
  | _ => w

theorem insW_at {w : World} {b : Nat} {es : Array MapEntry} {c : Nat} (h : w.heap[b]? = some (.map es c)) (k v : Value) : insW w b k v = setBlock w b (.map (es.push { key := k, val := v, born := c }) (c + 1)) := by
  unfold insW; rw [h]
theorem insW_heap {w : World} {b : Nat} {es : Array MapEntry} {c : Nat} (h : w.heap[b]? = some (.map es c)) (k v : Value) : (insW w b k v).heap[b]? = some (.map (es.push { key := k, val := v, born := c }) (c + 1)) := by
  rw [insW_at h]; exact (MapKept.heap_set h).1
theorem insW_other (w : World) (b : Nat) (k v : Value) {i : Nat} (hi : i ≠ b) : (insW w b k v).heap[i]? = w.heap[i]? := by
  unfold insW
  split
  · rename_i h; exact (MapKept.heap_set h).2 i hi
  · rfl
theorem insW_size (w : World) (b : Nat) (k v : Value) : (insW w b k v).heap.size = w.heap.size := by
  unfold insW
  split
  · show (w.heap.setIfInBounds b _).size = _; simp
  · rfl
theorem insW_cell (w : World) (b : Nat) (k v : Value) (a : Addr) : (insW w b k v).cell? a = w.cell? a := by
  by_cases ha : a.block = b
  · cases h : w.heap[b]? with
    | none => unfold insW; rw [h]
    | some o =>
      cases o with
      | map es c => unfold World.cell?; rw [ha, h, insW_heap h]
      | _ => unfold insW; rw [h]
  · unfold World.cell?; rw [insW_other w b k v ha]
theorem insW_frozen (w : World) (b : Nat) (k v : Value) (a : Addr) : (insW w b k v).frozen? a = w.frozen? a := by
  by_cases ha : a.block = b
  · cases h : w.heap[b]? with
    | none => unfold insW; rw [h]
    | some o =>
      cases o with
      | map es c => unfold World.frozen?; rw [ha, h, insW_heap h]
      | _ => unfold insW; rw [h]
  · unfold World.frozen?; rw [insW_other w b k v ha]
theorem insW_drew (w : World) (b : Nat) (k v : Value) : insW w.drew b k v = (insW w b k v).drew := by
  cases h : w.heap[b]? with
  | none => unfold insW; rw [h, show w.drew.heap[b]? = none from h]
  | some o =>
    have h' : w.drew.heap[b]? = some o := h
    cases o with
    | map es c => rw [insW_at h, insW_at h']; rfl
    | _ => unfold insW; rw [h, h']
theorem insW_below {B : Nat} {w w' : World} (h : Below B w w') {b : Nat} (hb : B ≤ b) (k v : Value) : Below B w (insW w' b k v) := by
  refine h.trans ?_
  have hr : (insW w' b k v).os = w'.os ∧ (insW w' b k v).tape = w'.tape ∧ (insW w' b k v).output = w'.output := by
    unfold insW; split <;> exact ⟨rfl, rfl, rfl⟩
  exact ⟨hr.1, hr.2.1, hr.2.2, by rw [insW_size]; exact Nat.le_refl _, fun i hi => insW_other w' b k v (by omega)⟩
theorem mapFresh_new (w : World) (k : Value) : mapFresh (w.alloc (.map #[] 0)) w.heap.size k = true := by
  unfold mapFresh; rw [heap_new]; rfl
theorem mapFresh_drew (w : World) (b : Nat) (k : Value) : mapFresh w.drew b k = mapFresh w b k := rfl
theorem mapHas_drew (w : World) (b : Nat) (k : Value) : mapHas w.drew b k = mapHas w b k := rfl
theorem mapAt_drew (w : World) (b : Nat) (k : Value) : mapAt w.drew b k = mapAt w b k := rfl
/-- block b is a map, and nothing stands at k -/
def mapNone (w : World) (b : Nat) (k : Value) : Bool := match w.heap[b]? with
  | some (.map es _) => !es.toList.any fun e => keySame e.key k
  | _ => false
theorem mapNone_new (w : World) (k : Value) : mapNone (w.alloc (.map #[] 0)) w.heap.size k = true := by
  unfold mapNone; rw [heap_new]; rfl
theorem mapNone_drew (w : World) (b : Nat) (k : Value) : mapNone w.drew b k = mapNone w b k := rfl
theorem insW_none {w : World} {b : Nat} (h : ∀ es c, w.heap[b]? ≠ some (.map es c)) (k v : Value) : insW w b k v = w := by
  unfold insW
  split
  · rename_i es c hb; exact absurd hb (h es c)
  · rfl
theorem all_and (l : List MapEntry) (f g : MapEntry → Bool) : (l.all fun e => f e && !g e) = (l.all f && !l.any g) := by
  induction l with
  | nil => rfl
  | cons a l ih => simp only [List.all_cons, List.any_cons, ih]; cases f a <;> cases g a <;> simp
theorem mapFresh_ins (w : World) (b : Nat) (k k' v : Value) : mapFresh (insW w b k v) b k' = (mapFresh w b k' && (litKey k k' && !keySame k k')) := by
  by_cases h : ∃ es c, w.heap[b]? = some (.map es c)
  · obtain ⟨es, c, hb⟩ := h
    unfold mapFresh
    rw [insW_heap hb, hb]
    simp [Array.toList_push, List.all_append]
  · have hn : ∀ es c, w.heap[b]? ≠ some (.map es c) := fun es c e => h ⟨es, c, e⟩
    rw [insW_none hn]
    have : mapFresh w b k' = false := by
      unfold mapFresh; split
      · rename_i es c hb; exact absurd hb (hn es c)
      · rfl
    rw [this]; rfl
theorem mapNone_ins (w : World) (b : Nat) (k k' v : Value) : mapNone (insW w b k v) b k' = (mapNone w b k' && !keySame k k') := by
  by_cases h : ∃ es c, w.heap[b]? = some (.map es c)
  · obtain ⟨es, c, hb⟩ := h
    unfold mapNone
    rw [insW_heap hb, hb]
    simp [Array.toList_push, List.any_append]
  · have hn : ∀ es c, w.heap[b]? ≠ some (.map es c) := fun es c e => h ⟨es, c, e⟩
    rw [insW_none hn]
    have : mapNone w b k' = false := by
      unfold mapNone; split
      · rename_i es c hb; exact absurd hb (hn es c)
      · rfl
    rw [this]; rfl
theorem mapHas_ins (w : World) (b : Nat) (k k' v : Value) : mapHas (insW w b k v) b k' = (litKey k k' && (mapHas w b k' || (mapFresh w b k' && keySame k k'))) := by
  by_cases h : ∃ es c, w.heap[b]? = some (.map es c)
  · obtain ⟨es, c, hb⟩ := h
    unfold mapHas mapFresh
    rw [insW_heap hb, hb]
    simp only [all_and, Array.toList_push, List.all_append, List.any_append, List.all_cons, List.all_nil, List.any_cons, List.any_nil]
    cases es.toList.all (fun e => litKey e.key k') <;> cases es.toList.any (fun e => keySame e.key k') <;> cases litKey k k' <;> cases keySame k k' <;> rfl
  · have hn : ∀ es c, w.heap[b]? ≠ some (.map es c) := fun es c e => h ⟨es, c, e⟩
    rw [insW_none hn]
    have h1 : mapHas w b k' = false := by
      unfold mapHas; split
      · rename_i es c hb; exact absurd hb (hn es c)
      · rfl
    have h2 : mapFresh w b k' = false := by
      unfold mapFresh; split
      · rename_i es c hb; exact absurd hb (hn es c)
      · rfl
    rw [h1, h2]; simp
theorem mapAt_ins (w : World) (b : Nat) (k k' v : Value) : mapAt (insW w b k v) b k' = if (mapNone w b k' && keySame k k') = true then v else mapAt w b k' := by
  by_cases h : ∃ es c, w.heap[b]? = some (.map es c)
  · obtain ⟨es, c, hb⟩ := h
    unfold mapAt mapNone
    rw [insW_heap hb, hb]
    simp only [Array.toList_push, List.find?_append]
    cases hf : es.toList.find? (fun e => keySame e.key k') with
    | some e =>
      have : es.toList.any (fun e => keySame e.key k') = true := List.any_eq_true.2 ⟨e, List.mem_of_find?_eq_some hf, by have := List.find?_some (p := fun e : MapEntry => keySame e.key k') hf; exact this⟩
      simp [this]
    | none =>
      have : es.toList.any (fun e => keySame e.key k') = false := by
        rw [List.find?_eq_none] at hf
        rw [List.any_eq_false]
        exact hf
      cases hs : keySame k k' <;> simp [this, hs]
  · have hn : ∀ es c, w.heap[b]? ≠ some (.map es c) := fun es c e => h ⟨es, c, e⟩
    rw [insW_none hn]
    have : mapNone w b k' = false := by
      unfold mapNone; split
      · rename_i es c hb; exact absurd hb (hn es c)
      · rfl
    rw [this]; simp
theorem map_below {w w' : World} {b : Nat} (hb : Below w.heap.size w w') (hlt : b < w.heap.size) (k : Value) : mapFresh w' b k = mapFresh w b k ∧ mapNone w' b k = mapNone w b k ∧ mapHas w' b k = mapHas w b k ∧ mapAt w' b k = mapAt w b k := by
  unfold mapFresh mapNone mapHas mapAt
  rw [hb.block b hlt]
  exact ⟨rfl, rfl, rfl, rfl⟩

/-- the worlds in which a statement stands that fills a map of two keys -/
theorem lit0 (w : World) : Below w.heap.size w w.drew := (Below.refl _ _).drew
theorem lit1 (w : World) : Below w.heap.size w (w.alloc (.map #[] 0)).drew := ((Below.refl _ _).alloc (Nat.le_refl _) _).drew
theorem lit2 (w : World) (k v : Value) : Below w.heap.size w (insW (w.alloc (.map #[] 0)) w.heap.size k v).drew := (insW_below ((Below.refl _ _).alloc (Nat.le_refl _) _) (Nat.le_refl _) _ _).drew
theorem lit3 (w : World) (k v k' v' : Value) : Below w.heap.size w (insW (insW (w.alloc (.map #[] 0)) w.heap.size k v) w.heap.size k' v').drew := (insW_below (insW_below ((Below.refl _ _).alloc (Nat.le_refl _) _) (Nat.le_refl _) _ _) (Nat.le_refl _) _ _).drew
theorem litKey_is {d : TypeDesc} {k x : Value} (hk : MapKept.IsKey d k) (h : litKey x k = true) : MapKept.IsKey d x := by
  cases k <;> cases x <;> simp [litKey] at h <;> cases d <;> simp_all [MapKept.IsKey]
theorem keySame_now {d : TypeDesc} {k x : Value} (hk : MapKept.IsKey d k) (h : litKey x k = true) : Instr.sameNow d k x = some (keySame x k) := by
  cases k <;> cases x <;> simp [litKey] at h <;> cases d <;> simp_all [MapKept.IsKey, Instr.sameNow, keySame, Bool.beq_comm, eq_comm]
theorem findNow_find {d : TypeDesc} {k : Value} (hk : MapKept.IsKey d k) : ∀ (l : List MapEntry) (i : Nat), (l.all fun e => litKey e.key k) = true →
    (match l.find? fun e => keySame e.key k with | some e => ∃ j, Instr.findNow d k l i = some (some (j, e.val)) | none => Instr.findNow d k l i = some none)
  | [], _, _ => rfl
  | e :: es, i, h => by
    simp only [List.all_cons, Bool.and_eq_true] at h
    have hs := keySame_now hk h.1
    have ih := findNow_find hk es (i + 1) h.2
    rw [List.find?_cons]
    cases hq : keySame e.key k with
    | true => exact ⟨i, by simp [Instr.findNow, hs, hq]⟩
    | false =>
      simp only [Instr.findNow, hs, hq]
      exact ih
section
variable {P : Program}
/-- 'm[k] = v' at a key that is not there -/
theorem run_insert_fresh {t kt et : TypeId} {d : TypeDesc} (hm : P.underlying t = some (.map kt et)) (hd : P.underlying kt = some d) {k : Value} (hk : MapKept.IsKey d k) (w : World) (b : Nat) (v : Value) (hf : mapFresh w b k = true) :
    (Instr.mapUpdate t (.map (some b)) k v).run P w = .ok () (insW w b k v) := by
  unfold mapFresh at hf
  split at hf
  · rename_i es c hb
    simp only [List.all_eq_true, Bool.and_eq_true, Bool.not_eq_true'] at hf
    have hn : es.toList.find? (fun e => keySame e.key k) = none := by
      rw [List.find?_eq_none]
      intro x hx
      simp [(hf x hx).2]
    have hfn := findNow_find hk es.toList 0 (by rw [List.all_eq_true]; exact fun x hx => (hf x hx).1)
    rw [hn] at hfn
    have hc : (Instr.checkKey false 10000 kt k).run P w = .ok () w := MapKept.run_checkKey hd hk false 9999
    rw [insW_at hb]
    simp [Instr.mapUpdate, run_underlying hm, MapKept.run_getObj_map hb, hc, MapKept.run_findKey hd hfn, MapKept.run_setObj_map _ hb, Result.andThen, setBlock]
  · cases hf
/-- 'm[k]' at a key that is there -/
theorem run_lookup_has {t kt et : TypeId} {d : TypeDesc} (hm : P.underlying t = some (.map kt et)) (hd : P.underlying kt = some d) {k : Value} (hk : MapKept.IsKey d k) (w : World) (b : Nat) (hh : mapHas w b k = true) :
    (Instr.lookup t (.map (some b)) k false).run P w = .ok (mapAt w b k) w := by
  unfold mapHas at hh
  unfold mapAt
  split at hh
  · rename_i es c hb
    simp only [Bool.and_eq_true] at hh
    have hfn := findNow_find hk es.toList 0 hh.1
    obtain ⟨x, hx, hq⟩ := List.any_eq_true.1 hh.2
    cases hf : es.toList.find? (fun e => keySame e.key k) with
    | none => rw [List.find?_eq_none] at hf; exact absurd hq (hf x hx)
    | some e =>
      rw [hf] at hfn
      obtain ⟨j, hj⟩ := hfn
      have hc : ∀ em, (Instr.checkKey em 10000 kt k).run P w = .ok () w := fun em => MapKept.run_checkKey hd hk em 9999
      simp [Instr.lookup, run_underlying hm, MapKept.run_getObj_map hb, hc, MapKept.run_findKey hd hj, Result.andThen]
  · cases hh
/-- 'm[k]' at a key that is not there -/
theorem run_lookup_fresh {t kt et : TypeId} {d : TypeDesc} (hm : P.underlying t = some (.map kt et)) (hd : P.underlying kt = some d) {k : Value} (hk : MapKept.IsKey d k) {z : Value} (hz : ∀ w, (zeroValue et).run P w = .ok z w) (w : World) (b : Nat) (hf : mapFresh w b k = true) :
    (Instr.lookup t (.map (some b)) k false).run P w = .ok z w := by
  unfold mapFresh at hf
  split at hf
  · rename_i es c hb
    simp only [List.all_eq_true, Bool.and_eq_true, Bool.not_eq_true'] at hf
    have hn : es.toList.find? (fun e => keySame e.key k) = none := by
      rw [List.find?_eq_none]
      intro x hx
      simp [(hf x hx).2]
    have hfn := findNow_find hk es.toList 0 (by rw [List.all_eq_true]; exact fun x hx => (hf x hx).1)
    rw [hn] at hfn
    have hc : ∀ em, (Instr.checkKey em 10000 kt k).run P w = .ok () w := fun em => MapKept.run_checkKey hd hk em 9999
    simp [Instr.lookup, run_underlying hm, MapKept.run_getObj_map hb, hc, MapKept.run_findKey hd hfn, hz, Result.andThen]
  · cases hf
end
end Go.Proofs.YthbjibhhomeolaaDoor
