/- Byte arrays as lists of bytes; remainders; what the library's cut tells of a text with one cut. -/
import Derived.Test.YtekmgbeaoojdcaaDoorVGivP
import Derived.Test.YtekmgbeaoojdcaaDoorVGivS
import Derived.Lib.IndexLaws
import Derived.Lib.IndexMore
import Derived.Lib.SmallJoins
namespace Go.Proofs.YtekmgbeaoojdcaaDoor.Bas
open Go.RowKit Go.Proofs.YtekmgbeaoojdcaaDoorW.PrintWords Go.Proofs.YtekmgbeaoojdcaaDoorW.PrintLast Go.Proofs.YtekmgbeaoojdcaaDoorW.PrintMore
def B (l : List UInt8) : ByteArray := ⟨l.toArray⟩
theorem B_data (a : ByteArray) : B a.data.toList = a := rfl
theorem data_B (l : List UInt8) : (B l).data.toList = l := by simp [B]
theorem B_size (l : List UInt8) : (B l).size = l.length := by simp [B, ByteArray.size]
theorem B_toList (l : List UInt8) : (B l).toList = l := by rw [ByteArray.toList_eq, data_B]
theorem B_append (l m : List UInt8) : B l ++ B m = B (l ++ m) := by
  apply ByteArray.ext
  simp [B, ByteArray.data_append]
theorem B_extract (l : List UInt8) (i j : Nat) : (B l).extract i j = B ((l.take j).drop i) := by
  apply ByteArray.ext
  apply Array.ext'
  simp [B, ByteArray.data_extract, List.drop_take]
theorem B_inj {l m : List UInt8} (h : B l = B m) : l = m := by
  have := congrArg (fun x : ByteArray => x.data.toList) h
  simpa [data_B] using this
theorem ex_B (a : ByteArray) : ∃ l, a = B l := ⟨a.data.toList, rfl⟩
theorem bt_B (l : List UInt8) (i : Nat) (h : i < l.length) : bt (B l) (i : Int) = (l[i].toNat : Int) := by
  unfold bt
  have h' : (i : Int).toNat < (B l).size := by rw [B_size]; simpa using h
  rw [dif_pos h']
  simp [B]
  rfl
theorem tmod_emod (a n : Int) (h : 1 ≤ n) (hn : n ≤ 4611686018427387904) : (if Int.tmod a n < 0 then wrap64 (Int.tmod a n + n) else Int.tmod a n) = a % n := by
  have h1 : Int.tmod a n = a % n ∨ Int.tmod a n = a % n - n := by
    rw [Int.tmod_eq_emod]
    split
    · left; omega
    · right; omega
  have h2 := Int.emod_nonneg a (show n ≠ 0 by omega)
  have h3 := Int.emod_lt_of_pos a (show 0 < n by omega)
  split
  · unfold wrap64; omega
  · omega
/-- The number that digits tell. -/
def numV (n : Int) (l : List UInt8) : Int := l.foldl (fun n c => 10 * n + ((c.toNat : Int) - 48)) n
def isD (c : UInt8) : Bool := decide (48 ≤ c.toNat) && decide (c.toNat ≤ 57)
theorem isD_no {c : UInt8} (h : c.toNat < 48 ∨ 57 < c.toNat) : isD c = false := by
  unfold isD
  rcases h with h | h
  · rw [decide_eq_false (by omega)]; rfl
  · rw [decide_eq_false (by omega : ¬ c.toNat ≤ 57), Bool.and_false]
theorem isD_yes {c : UInt8} (h1 : 48 ≤ c.toNat) (h2 : c.toNat ≤ 57) : isD c = true := by
  unfold isD
  rw [decide_eq_true h1, decide_eq_true h2]; rfl
def numS (l : List UInt8) : Int × Bool := if 1 ≤ l.length ∧ l.length ≤ 6 ∧ l.all isD = true then (numV 0 l, true) else (0, false)
theorem cut_no (l : List UInt8) (c : UInt8) (h : c ∉ l) : Lib.cut l [c] = (l, [], false) := by
  have hi : Lib.index l [c] = -1 := by
    refine Lib.index_none fun j _ => ?_
    unfold Lib.occAt
    cases hd : l.drop j with
    | nil => rfl
    | cons b r =>
      have hb : b ∈ l := List.mem_of_mem_drop (by rw [hd]; exact List.mem_cons_self)
      have : (c == b) = false := by
        rw [beq_eq_false_iff_ne]
        intro e
        exact h (e ▸ hb)
      simp [List.isPrefixOf, this]
  unfold Lib.cut
  rw [hi]
  rfl
theorem cut_yes (l r : List UInt8) (c : UInt8) (h : c ∉ l) : Lib.cut (l ++ c :: r) [c] = (l, r, true) := by
  have hi : Lib.index (l ++ c :: r) [c] = (l.length : Int) := by
    refine Lib.index_first (i := l.length) (by simp) ?_ fun j hj => ?_
    · unfold Lib.occAt
      simp [List.isPrefixOf]
    · unfold Lib.occAt
      rw [List.drop_append_of_le_length (by omega)]
      cases hd : l.drop j with
      | nil => have := congrArg List.length hd; simp at this; omega
      | cons b q =>
        have hb : b ∈ l := List.mem_of_mem_drop (by rw [hd]; exact List.mem_cons_self)
        have : (c == b) = false := by
          rw [beq_eq_false_iff_ne]
          intro e
          exact h (e ▸ hb)
        simp [List.isPrefixOf, this]
  unfold Lib.cut
  rw [hi, if_pos (by omega)]
  simp
/-- The digits of a number. -/
theorem dec_isD (u : Nat) : ∀ c ∈ Lib.decDigits u, isD c = true := by
  induction u using Nat.strongRecOn with
  | _ u ih =>
    intro c hc
    by_cases h : u < 10
    · rw [Giv.dec_small u h] at hc
      simp at hc
      subst hc
      unfold isD
      simp
      omega
    · rw [Giv.dec_step u h] at hc
      rcases List.mem_append.1 hc with hc | hc
      · exact ih (u / 10) (by omega) c hc
      · simp at hc
        subst hc
        unfold isD
        simp
        omega
theorem numV_append (n : Int) (l m : List UInt8) : numV n (l ++ m) = numV (numV n l) m := by unfold numV; rw [List.foldl_append]
theorem dec_numV (u : Nat) : numV 0 (Lib.decDigits u) = u := by
  induction u using Nat.strongRecOn with
  | _ u ih =>
    by_cases h : u < 10
    · rw [Giv.dec_small u h]
      simp [numV]
      omega
    · rw [Giv.dec_step u h, numV_append, ih (u / 10) (by omega)]
      simp [numV]
      omega
theorem dec_pos (u : Nat) : 1 ≤ (Lib.decDigits u).length := by
  by_cases h : u < 10
  · rw [Giv.dec_small u h]; simp
  · rw [Giv.dec_step u h]; simp
theorem dec_ge : ∀ (k u : Nat), 10 ^ k ≤ u → k + 1 ≤ (Lib.decDigits u).length := by
  intro k
  induction k with
  | zero => intro u _; exact dec_pos u
  | succ k ih =>
    intro u hu
    have hp : 0 < 10 ^ k := Nat.pos_of_ne_zero (by simp)
    rw [Nat.pow_succ] at hu
    rw [Giv.dec_step u (by omega)]
    have := ih (u / 10) (by omega)
    simp
    omega
/-- A number's digits, read again. -/
theorem numS_dec (u : Nat) : numS (Lib.decDigits u) = if u < 1000000 then ((u : Int), true) else (0, false) := by
  unfold numS
  have h1 := dec_pos u
  have h2 : (Lib.decDigits u).all isD = true := List.all_eq_true.2 (dec_isD u)
  by_cases h : u < 1000000
  · have h3 := Giv.dec_len 6 u (by simpa using h)
    rw [if_pos ⟨h1, by omega, h2⟩, if_pos h, dec_numV]
  · have h3 := dec_ge 6 u (by simp; omega)
    rw [if_neg (by omega), if_neg h]
theorem dec_no (u : Nat) (c : UInt8) (h : isD c = false) : c ∉ Lib.decDigits u := fun hc => by
  have := dec_isD u c hc
  rw [h] at this
  cases this
end Go.Proofs.YtekmgbeaoojdcaaDoor.Bas
