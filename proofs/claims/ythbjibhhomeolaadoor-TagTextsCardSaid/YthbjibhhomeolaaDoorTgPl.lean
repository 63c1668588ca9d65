/-
  Tags as texts (3.2), in plain words: a tag's text, and what a text that is a tag's looks like to those who take it apart. No program.
-/
import Derived.Lib.AtoiAll
import Derived.Lib.ItoaNum
import Derived.Lib.IndexBytes
import Derived.Lib.IndexMore
namespace Go.Proofs.YthbjibhhomeolaaDoor
open Go

theorem u8of {n : Nat} (h : n < 256) : (UInt8.ofNat n).toNat = n := by simp [Nat.mod_eq_of_lt h]
theorem dec_digit : ∀ (u : Nat) (c : UInt8), c ∈ Lib.decDigits u → 48 ≤ c.toNat ∧ c.toNat ≤ 57 := by
  intro u
  induction u using Nat.strongRecOn with
  | _ u ih =>
    intro c hc
    rw [Lib.decDigits] at hc
    split at hc
    · rename_i h
      have : c = UInt8.ofNat (48 + u) := by simpa using hc
      subst this
      rw [u8of (by omega)]
      omega
    · rename_i h
      rcases List.mem_append.1 hc with hc | hc
      · exact ih (u / 10) (by omega) c hc
      · have : c = UInt8.ofNat (48 + u % 10) := by simpa using hc
        subst this
        rw [u8of (by omega)]
        omega
theorem dec_ne (u : Nat) : Lib.decDigits u ≠ [] := by
  rw [Lib.decDigits]
  split
  · simp
  · simp
theorem parse_step (acc : Nat) (d : Nat) (hd : d < 10) (r : List UInt8) (h : acc * 10 + d < 1000000000000000000) : Lib.parseUint10 acc (UInt8.ofNat (48 + d) :: r) = Lib.parseUint10 (acc * 10 + d) r := by
  have e : (UInt8.ofNat (48 + d)).toNat = 48 + d := u8of (by omega)
  rw [Lib.parseUint10, e, if_pos (by omega), if_neg (by omega), if_neg (by omega), show 48 + d - 48 = d by omega]
theorem parse_dec : ∀ (u acc : Nat) (r : List UInt8), acc * 10 ^ Lib.nDigits u + u < 1000000000000000000 → Lib.parseUint10 acc (Lib.decDigits u ++ r) = Lib.parseUint10 (acc * 10 ^ Lib.nDigits u + u) r := by
  intro u
  induction u using Nat.strongRecOn with
  | _ u ih =>
    intro acc r h
    by_cases hu : u < 10
    · rw [Lib.nDigits_small hu] at h ⊢
      rw [Lib.decDigits, dif_pos hu, List.singleton_append, parse_step acc u hu r (by omega)]
    · rw [Lib.nDigits_big hu] at h ⊢
      rw [Lib.decDigits, dif_neg hu, List.append_assoc, List.singleton_append]
      have e : acc * 10 ^ (Lib.nDigits (u / 10) + 1) = acc * 10 ^ Lib.nDigits (u / 10) * 10 := by rw [Nat.pow_succ, Nat.mul_assoc]
      rw [e] at h ⊢
      rw [ih (u / 10) (by omega) acc _ (by omega), parse_step _ _ (Nat.mod_lt _ (by omega)) r (by omega), show (acc * 10 ^ Lib.nDigits (u / 10) + u / 10) * 10 + u % 10 = acc * 10 ^ Lib.nDigits (u / 10) * 10 + u by omega]
theorem atoi_dec (u : Nat) (h : u < 1000000000000000000) : Lib.atoiAll (Lib.decDigits u) = .ok (u : Int) := by
  have hp := parse_dec u 0 [] (by omega)
  rw [List.append_nil, Nat.zero_mul, Nat.zero_add] at hp
  have hne := dec_ne u
  have hd := dec_digit u
  revert hp hne hd
  generalize Lib.decDigits u = l
  intro hp hne hd
  cases l with
  | nil => exact absurd rfl hne
  | cons c r =>
    have hc := hd c (by simp)
    have h1 : (c.toNat = 43) = False := eq_false (by omega)
    have h2 : (c.toNat = 45) = False := eq_false (by omega)
    have hm : Lib.parseMag (c :: r) = .ok u := by rw [Lib.parseMag, if_neg hne, hp]; rfl
    unfold Lib.atoiAll
    simp only [h1, h2, or_self, if_false, hm, not_false_eq_true, true_and, false_and]
    rw [if_neg (by omega)]
theorem dec_inj {u v : Nat} (hu : u < 1000000000000000000) (hv : v < 1000000000000000000) (h : Lib.decDigits u = Lib.decDigits v) : u = v := by
  have h1 := atoi_dec u hu
  rw [h, atoi_dec v hv] at h1
  injection h1 with h1
  omega
theorem ib_skip : ∀ (a : List UInt8) (c : UInt8) (r : List UInt8), c ∉ a → Lib.indexByte (a ++ c :: r) c = (a.length : Int)
  | [], c, r, _ => by simp [Lib.indexByte]
  | b :: a, c, r, h => by
    have hb : (b == c) = false := beq_eq_false_iff_ne.2 (fun e => h (by simp [e]))
    have ih := ib_skip a c r (fun e => h (by simp [e]))
    rw [List.cons_append, Lib.indexByte, hb, ih]
    have : ((a.length : Int) == -1) = false := by rw [beq_eq_false_iff_ne]; omega
    simp [this]
theorem cut_skip (a : List UInt8) (c : UInt8) (r : List UInt8) (h : c ∉ a) : Lib.cut (a ++ c :: r) [c] = (a, r, true) := by
  unfold Lib.cut
  rw [Lib.index_one, ib_skip a c r h, if_pos (by omega)]
  simp

/-- a tag that is right -/
structure Tg where
  s : Bool
  p : Nat
  d : Bool
  v : Nat
def Tg.Right (t : Tg) : Prop := t.p < 8 ∧ t.v < 4095
def sC (b : Bool) : UInt8 := if b then 115 else 99
def dC (b : Bool) : List UInt8 := if b then [33] else []
/-- what stands ahead of the point -/
def Tg.head (t : Tg) : List UInt8 := sC t.s :: UInt8.ofNat (48 + t.p) :: dC t.d
/-- its text -/
def Tg.txt (t : Tg) : List UInt8 := t.head ++ 46 :: Lib.decDigits t.v
theorem pC {p : Nat} (h : p < 8) : (UInt8.ofNat (48 + p)).toNat = 48 + p := u8of (by omega)
theorem Tg.head_no (t : Tg) (h : t.Right) : (46 : UInt8) ∉ t.head := by
  obtain ⟨s, p, d, v⟩ := t
  have hp := pC h.1
  simp only at hp
  unfold Tg.head
  simp only [List.mem_cons, not_or]
  refine ⟨by cases s <;> decide, fun e => ?_, by cases d <;> decide⟩
  rw [← e] at hp
  have : (46 : UInt8).toNat = 46 := rfl
  omega
theorem Tg.cut (t : Tg) (h : t.Right) : Lib.cut t.txt [46] = (t.head, Lib.decDigits t.v, true) := cut_skip _ _ _ (t.head_no h)
theorem Tg.point (t : Tg) (h : t.Right) : Lib.indexByte t.txt 46 = (t.head.length : Int) := ib_skip _ _ _ (t.head_no h)
theorem Tg.head_len (t : Tg) : t.head.length = if t.d then 3 else 2 := by
  unfold Tg.head dC
  cases t.d <;> rfl
theorem Tg.inj {t u : Tg} (ht : t.Right) (hu : u.Right) (h : t.txt = u.txt) : t = u := by
  have e := t.cut ht
  rw [h, u.cut hu] at e
  injection e with e1 e2
  injection e2 with e2 _
  have ev := dec_inj (u := u.v) (v := t.v) (by have := hu.2; omega) (by have := ht.2; omega) e2
  have hp1 := pC ht.1
  have hp2 := pC hu.1
  obtain ⟨s, p, d, v⟩ := t
  obtain ⟨s', p', d', v'⟩ := u
  unfold Tg.head at e1
  simp only [List.cons.injEq] at e1 ev hp1 hp2
  obtain ⟨es, ep, ed⟩ := e1
  have : s = s' := by cases s <;> cases s' <;> first | rfl | (revert es; decide)
  have hd : d = d' := by cases d <;> cases d' <;> first | rfl | (revert ed; decide)
  have hp : p = p' := by rw [ep] at hp2; omega
  subst this hd hp ev
  rfl
theorem nDigits_le4 {u : Nat} (h : u < 4095) : Lib.nDigits u ≤ 4 := by
  have := Lib.nDigits_unique
  rw [Lib.nDigits]; split
  · omega
  · rw [Lib.nDigits]; split
    · omega
    · rw [Lib.nDigits]; split
      · omega
      · rw [Lib.nDigits]; split <;> omega
end Go.Proofs.YthbjibhhomeolaaDoor
