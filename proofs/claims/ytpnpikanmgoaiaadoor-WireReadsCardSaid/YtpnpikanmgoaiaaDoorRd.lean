/-
  A reader as plain data: what wire.Reader holds, and what each of its operations makes of it. No program in sight.
-/
import Derived.WalkKit
import Derived.Lib.Hide
import Derived.Laws.BitsLemmas
namespace Go.Proofs.YtpnpikanmgoaiaaDoor
open Go.RowKit

structure Rd where
  s : ByteArray
  at_ : Nat
  off : Int
  err : Option (Int × Int)

namespace Rd
def ok (r : Rd) : Prop := r.at_ ≤ r.s.size ∧ r.s.size ≤ 1099511627776 ∧ 0 ≤ r.off ∧ r.off ≤ 2199023255552
def place (r : Rd) : Int := r.off + r.at_
def fail (r : Rd) (e p : Int) : Rd := match r.err with | none => { r with err := some (e, p) } | some _ => r
def bytes (r : Rd) (n : Int) : ByteArray × Rd :=
  if r.err.isSome then (⟨#[]⟩, r) else if n < 0 then (⟨#[]⟩, r.fail 2 r.place) else if (r.s.size : Int) - r.at_ < n then (⟨#[]⟩, r.fail 7 r.place)
  else (r.s.extract r.at_ (r.at_ + n.toNat), { r with at_ := r.at_ + n.toNat })
/-- x<<8 | c on int's 64 bits -/
def step (x : Int) (c : UInt8) : Int := bits .or .i64 (wrap64 (x * 256)) (c.toNat : Int)
def beNum (l : List UInt8) : Int := l.foldl step 0
def numPre (r : Rd) (n : Int) : Rd := if r.err.isNone = true ∧ (n < 1 ∨ 8 < n) then r.fail 2 r.place else r
def num (r : Rd) (n : Int) : Int × Rd := let b := (r.numPre n).bytes n; (beNum b.1.data.toList, b.2)
/-- how many noughts stand at the front -/
def noughts : List UInt8 → Nat
  | [] => 0
  | c :: l => if c = 0 then noughts l + 1 else 0
def zeros (r : Rd) : Bool × Rd :=
  match r.err with
  | some _ => (false, r)
  | none =>
    let k := r.at_ + noughts (r.s.data.toList.drop r.at_)
    if k < r.s.size then (false, { r with at_ := k, err := some (15, r.off + k) }) else (true, { r with at_ := r.s.size })

theorem fail_ok {r : Rd} (h : r.ok) (e p : Int) : (r.fail e p).ok := by
  unfold fail
  split
  · exact h
  · exact h
theorem fail_s (r : Rd) (e p : Int) : (r.fail e p).s = r.s := by unfold fail; split <;> rfl
theorem fail_at (r : Rd) (e p : Int) : (r.fail e p).at_ = r.at_ := by unfold fail; split <;> rfl
theorem fail_off (r : Rd) (e p : Int) : (r.fail e p).off = r.off := by unfold fail; split <;> rfl
theorem fail_none {r : Rd} (h : r.err = none) (e p : Int) : r.fail e p = { r with err := some (e, p) } := by unfold fail; rw [h]
theorem fail_some {r : Rd} {x : Int × Int} (h : r.err = some x) (e p : Int) : r.fail e p = r := by unfold fail; rw [h]
theorem noughts_at (s : ByteArray) (k : Nat) (h : k < s.size) : noughts (s.data.toList.drop k) = if s[k] = 0 then noughts (s.data.toList.drop (k + 1)) + 1 else 0 := by
  have hl : s.data.toList.length = s.size := by rw [Array.length_toList]; rfl
  rw [List.drop_eq_getElem_cons (by rw [hl]; exact h)]
  rfl
theorem noughts_end (s : ByteArray) (k : Nat) (h : s.size ≤ k) : noughts (s.data.toList.drop k) = 0 := by
  have hl : s.data.toList.length = s.size := by rw [Array.length_toList]; rfl
  rw [List.drop_eq_nil_of_le (by rw [hl]; exact h)]
  rfl
theorem zeros_bad {r : Rd} (he : r.err = none) {k : Nat} (hk : k + noughts (r.s.data.toList.drop k) = r.at_ + noughts (r.s.data.toList.drop r.at_)) (h : k < r.s.size) (hc : r.s[k] ≠ 0) :
    r.zeros = (false, { r with at_ := k, err := some (15, r.off + k) }) := by
  have h0 : noughts (r.s.data.toList.drop k) = 0 := by rw [noughts_at _ _ h, if_neg hc]
  unfold zeros
  rw [he]
  simp only
  rw [← hk, h0, Nat.add_zero, if_pos h]
theorem zeros_good {r : Rd} (he : r.err = none) {k : Nat} (hk : k + noughts (r.s.data.toList.drop k) = r.at_ + noughts (r.s.data.toList.drop r.at_)) (h : k = r.s.size) :
    r.zeros = (true, { r with at_ := k }) := by
  have h0 : noughts (r.s.data.toList.drop k) = 0 := noughts_end _ _ (by omega)
  unfold zeros
  rw [he]
  simp only
  rw [← hk, h0, Nat.add_zero, if_neg (by omega), h]
theorem zeros_some {r : Rd} {x : Int × Int} (he : r.err = some x) : r.zeros = (false, r) := by unfold zeros; rw [he]
theorem noughts_le : ∀ l : List UInt8, noughts l ≤ l.length
  | [] => Nat.le_refl _
  | c :: l => by
    unfold noughts
    split
    · have := noughts_le l; simp; omega
    · simp
theorem numPre_ok {r : Rd} (h : r.ok) (n : Int) : (r.numPre n).ok := by
  unfold numPre
  split
  · exact fail_ok h _ _
  · exact h
theorem numPre_in {r : Rd} {n : Int} (h1 : 1 ≤ n) (h2 : n ≤ 8) : r.numPre n = r := by unfold numPre; rw [if_neg (by omega)]
theorem numPre_some {r : Rd} {x : Int × Int} (h : r.err = some x) (n : Int) : r.numPre n = r := by unfold numPre; rw [if_neg (by rw [h]; simp)]
theorem numPre_out {r : Rd} {n : Int} (h : r.err = none) (hn : n < 1 ∨ 8 < n) : r.numPre n = r.fail 2 r.place := by unfold numPre; rw [if_pos ⟨by rw [h]; rfl, hn⟩]
theorem bytes_size {r : Rd} (h : r.ok) (n : Int) : (r.bytes n).1.size ≤ 1099511627776 := by
  unfold ok at h
  unfold bytes
  split
  · show 0 ≤ _; omega
  · split
    · show 0 ≤ _; omega
    · split
      · show 0 ≤ _; omega
      · simp; omega
end Rd
end Go.Proofs.YtpnpikanmgoaiaaDoor
