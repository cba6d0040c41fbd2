/- The contract of postilionref01.Digits, by hand. -/
import Derived.Test.YtekmgbeaoojdcaaDoorVMw
import Derived.WalkKit
import Derived.WalkSpells
import Derived.WalkLawsBesides
import Derived.Lib.ItoaNum
import Derived.Deep.QuietTactic
import Derived.BigQuiet
namespace Go.Proofs.YtekmgbeaoojdcaaDoor.Giv
open Go.RowKit Go.Proofs.YtekmgbeaoojdcaaDoorW.PrintWords
theorem ret_str {a b : ByteArray} (h : a = b) : Ending.returned (.string a) = .returned (.string b) := by rw [h]
theorem dec_small (i : Nat) (h : i < 10) : Lib.decDigits i = [UInt8.ofNat (48 + i)] := by
  rw [Lib.decDigits]
  rw [dif_pos h]
theorem dec_step (u : Nat) (h : ¬ u < 10) : Lib.decDigits u = Lib.decDigits (u / 10) ++ [UInt8.ofNat (48 + u % 10)] := by
  rw [Lib.decDigits]
  rw [dif_neg h]
set_option maxRecDepth 100000 in
set_option maxHeartbeats 1600000 in
theorem digits_small (n : Int) (w : World) (h1 : n < 10) :
    Calls Tryd.prog 30 #[.int .i64 n] w fun e w' => e = .returned (.string ⟨(Lib.decDigits n.toNat).toArray⟩) ∧ ∃ q, w' = w.drewN q := by
  by_cases h0 : n ≤ 0
  · have hz := Lib.hid (show Lib.decDigits n.toNat = [48] by rw [show n.toNat = 0 by omega]; exact dec_small 0 (by omega))
    have hm : (if n < 0 then (0 : Int) else n) = 0 := by split <;> omega
    go_enter Tryd.func30, Tryd.ntmps30
    go_wp2
    go_ret
    exact ⟨ret_str (by rw [hz.out]; decide), 0, rfl⟩
  · have hc : n = 1 ∨ n = 2 ∨ n = 3 ∨ n = 4 ∨ n = 5 ∨ n = 6 ∨ n = 7 ∨ n = 8 ∨ n = 9 := by omega
    clear h0 h1
    rcases hc with rfl | rfl | rfl | rfl | rfl | rfl | rfl | rfl | rfl
    all_goals
      go_enter Tryd.func30, Tryd.ntmps30
      go_wp2
      go_ret
      exact ⟨ret_str (by rw [dec_small _ (by decide)]; decide), 0, rfl⟩
theorem cat_one (X : List UInt8) (b : ByteArray) (c : UInt8) (h : b = ⟨#[c]⟩) : (⟨X.toArray⟩ ++ b : ByteArray) = ⟨(X ++ [c]).toArray⟩ := by
  subst h
  apply ByteArray.ext
  simp [ByteArray.data_append]
set_option maxRecDepth 100000 in
set_option maxHeartbeats 1600000 in
theorem digits_step (n : Int) (w : World) (h1 : ¬ n < 10) (hb : n ≤ 9223372036854775807) (hlen : (Lib.decDigits (n / 10).toNat).length ≤ 20)
    (ih : ∀ w, Calls Tryd.prog 30 #[.int .i64 (n / 10)] w fun e w' => e = .returned (.string ⟨(Lib.decDigits (n / 10).toNat).toArray⟩) ∧ ∃ q, w' = w.drewN q) :
    Calls Tryd.prog 30 #[.int .i64 n] w fun e w' => e = .returned (.string ⟨(Lib.decDigits n.toNat).toArray⟩) ∧ ∃ q, w' = w.drewN q := by
  have hfin : Lib.decDigits n.toNat = Lib.decDigits (n / 10).toNat ++ [UInt8.ofNat (48 + (n % 10).toNat)] := by
    rw [dec_step n.toNat (by omega), show n.toNat / 10 = (n / 10).toNat by omega, show n.toNat % 10 = (n % 10).toNat by omega]
  have HF := Lib.hid hfin
  clear hfin
  have hge : (10 : Int) ≤ n := by omega
  have hmod : 0 ≤ n % 10 ∧ n % 10 < 10 := by omega
  have IH := Lib.hid ih
  clear ih
  generalize hX : Lib.decDigits (n / 10).toNat = X at *
  obtain ⟨d, hd⟩ : ∃ d, n % 10 = d := ⟨_, rfl⟩
  rw [hd] at hmod HF
  have HD := Lib.hid hd
  have HX := Lib.hid hX
  clear hX
  have hc : d = 0 ∨ d = 1 ∨ d = 2 ∨ d = 3 ∨ d = 4 ∨ d = 5 ∨ d = 6 ∨ d = 7 ∨ d = 8 ∨ d = 9 := by omega
  clear hmod
  have hn0 : 0 ≤ n := by omega
  rcases hc with rfl | rfl | rfl | rfl | rfl | rfl | rfl | rfl | rfl | rfl
  all_goals
    go_enter Tryd.func30, Tryd.ntmps30
    go_wp2_with fail
    go_quiet ((go_at_call 30; exact Calls.quiet_of (IH.out _)))
    go_wp2
    go_ret
    refine ⟨ret_str ?_, _, rfl⟩
    rw [HF.out]
    exact cat_one X _ _ (by decide)
theorem dec_len : ∀ (k u : Nat), u < 10 ^ k → (Lib.decDigits u).length ≤ max k 1 := by
  intro k
  induction k with
  | zero => intro u hu; rw [dec_small u (by simp at hu; omega)]; simp
  | succ k ih =>
    intro u hu
    by_cases h : u < 10
    · rw [dec_small u h]; simp
    · rw [dec_step u h]
      have := ih (u / 10) (by rw [Nat.pow_succ] at hu; omega)
      simp
      have hk : 1 ≤ k := by
        rcases Nat.eq_zero_or_pos k with rfl | h2
        · simp at hu; omega
        · exact h2
      omega
theorem digits15 (u : Nat) : ∀ (n : Int) (w : World), n.toNat = u → n ≤ 9223372036854775807 → Calls Tryd.prog 30 #[.int .i64 n] w fun e w' => e = .returned (.string ⟨(Lib.decDigits n.toNat).toArray⟩) ∧ ∃ q, w' = w.drewN q := by
  induction u using Nat.strongRecOn with
  | _ u ih =>
    intro n w hn hb
    by_cases h : n < 10
    · exact digits_small n w h
    · refine digits_step n w h hb ?_ fun w' => ih (n / 10).toNat (by omega) (n / 10) w' rfl (by omega)
      have := dec_len 19 (n / 10).toNat (by have : (10 : Nat) ^ 19 = 10000000000000000000 := by decide
                                            omega)
      omega
end Go.Proofs.YtekmgbeaoojdcaaDoor.Giv
