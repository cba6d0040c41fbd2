-- Made by this session's changed copy of the kit's printer (wip/myprint). Not trusted: Lean checks it.
import Derived.Test.YtllblgjhoeopjaaDoorVGCorsTellsx0
import Derived.Test.YtllblgjhoeopjaaDoorVGPrex
import Derived.Test.YtllblgjhoeopjaaDoorVGUnsafex
import Derived.Test.YtllblgjhoeopjaaDoorVGivC
import Derived.Test.YtllblgjhoeopjaaDoorVGivPre
import Derived.Test.YtllblgjhoeopjaaDoorVGivUns
namespace Go.Proofs.YtllblgjhoeopjaaDoor.GCorsTells
open Go.RowKit GivC Mw GPre GivPre GUnsafe GivUns Go.Proofs.YtllblgjhoeopjaaDoorW.PrintWords Go.Proofs.YtllblgjhoeopjaaDoorW.PrintLast Go.Proofs.YtllblgjhoeopjaaDoorW.PrintMore
attribute [local go_sem] max2_int min2_int max_two min_two max_three min_three max_four min_four   -- for this text's walks alone
set_option linter.unusedVariables false
set_option linter.unusedSimpArgs false

/-! ### postilionkeep_Within: function 12 -/
def postilionkeep_Within.f (a0 : Int) (a1 : Int) : Option (Int) := if a1 < 1 then (some 0) else (if a1 = 0 then (none) else (if (Int.tmod a0 a1) < 0 then (some (wrap64 ((Int.tmod a0 a1) + a1))) else (some (Int.tmod a0 a1))))
set_option maxHeartbeats 8000000 in
set_option maxRecDepth 100000 in
theorem postilionkeep_Within.calls (a0 : Int) (a1 : Int) (r : Int) (w : World) (h : postilionkeep_Within.f a0 a1 = some r) :
    Calls Tryd.prog 12 #[.int .i64 a0, .int .i64 a1] w fun e w' => e = .returned (.int .i64 r) ∧ Drawn0 w w' := by
  have H : (if a1 < 1 then (some 0) else (if a1 = 0 then (none) else (if (Int.tmod a0 a1) < 0 then (some (wrap64 ((Int.tmod a0 a1) + a1))) else (some (Int.tmod a0 a1))))) = some r := h
  clear h
  by_cases c3 : a1 < 1
  · rw [if_pos c3] at H
    have c3b0 : decide (a1 < 1) = true := decide_eq_true c3
    clear c3
    obtain rfl := Option.some.inj H
    go_enter Tryd.func12, Tryd.ntmps12
    go_wp2
    go_ret
    exact ⟨by first | rfl | (simp; done) | (simp [*]; done), by repeat (first | exact Drawn0.refl _ | apply Drawn0.step)⟩
  · rw [if_neg c3] at H
    have c3b0 : decide (a1 < 1) = false := decide_eq_false c3
    clear c3
    by_cases c4 : a1 = 0
    · rw [if_pos c4] at H
      exact absurd H (by simp)
    · rw [if_neg c4] at H
      have c4b0 : (a1 == 0) = false := beq_eq_false_iff_ne.mpr c4
      have c4b1 : (a1 != 0) = true := bne_iff_ne.mpr c4
      by_cases c5 : (Int.tmod a0 a1) < 0
      · rw [if_pos c5] at H
        have c5b0 : decide ((Int.tmod a0 a1) < 0) = true := decide_eq_true c5
        clear c5
        obtain rfl := Option.some.inj H
        go_enter Tryd.func12, Tryd.ntmps12
        go_wp2
        go_ret
        exact ⟨by first | rfl | (simp; done) | (simp [*]; done), by repeat (first | exact Drawn0.refl _ | apply Drawn0.step)⟩
      · rw [if_neg c5] at H
        have c5b0 : decide ((Int.tmod a0 a1) < 0) = false := decide_eq_false c5
        clear c5
        obtain rfl := Option.some.inj H
        go_enter Tryd.func12, Tryd.ntmps12
        go_wp2
        go_ret
        exact ⟨by first | rfl | (simp; done) | (simp [*]; done), by repeat (first | exact Drawn0.refl _ | apply Drawn0.step)⟩

/-! ### postilionkeep_Same_string: function 16 -/
def postilionkeep_Same_string.l0 : Nat → List ByteArray → List ByteArray → Int → Option (Bool)
  | 0, _, _, _ => none
  | k + 1, x0, x1, x5 => if x5 < (x0.length : Int) then (if 0 ≤ x5 then (if x5 < (x1.length : Int) then (if (rdOf ByteArray.empty x0 x5).toList = (rdOf ByteArray.empty x1 x5).toList then (postilionkeep_Same_string.l0 k x0 x1 (wrap64 (x5 + 1))) else (some false)) else (none)) else (none)) else (some true)
def postilionkeep_Same_string.f (k : Nat) (l0 : List ByteArray) (l1 : List ByteArray) : Option (Bool) := if (l0.length : Int) = (l1.length : Int) then (postilionkeep_Same_string.l0 k l0 l1 0) else (some false)
theorem postilionkeep_Same_string.mono_l : ∀ k, (∀ y0 y1 y2, LeO (postilionkeep_Same_string.l0 k y0 y1 y2) (postilionkeep_Same_string.l0 (k + 1) y0 y1 y2))
  | 0 => fun _ _ _ r h => by simp [postilionkeep_Same_string.l0] at h
  | k + 1 => by
    have ih0 := postilionkeep_Same_string.mono_l k
    · intro y0 y1 y2
      unfold postilionkeep_Same_string.l0
      repeat' first
      | (with_reducible exact ih0 _ _ _)
      | (with_reducible exact LeO.refl _)
      | (with_reducible exact LeO.none _)
      | (with_reducible refine LeO.ite ?_ ?_)
      | (with_reducible refine LeO.bind ?_ (fun _ => ?_))
      | exact ih0 _ _ _
      | exact LeO.none _
      | refine LeO.ite ?_ ?_
      | refine LeO.bind ?_ (fun _ => ?_)
theorem postilionkeep_Same_string.mono : ∀ a0 a1 k, LeO (postilionkeep_Same_string.f k a0 a1) (postilionkeep_Same_string.f (k + 1) a0 a1) := by
  intro a0 a1 k
  have ih0 := postilionkeep_Same_string.mono_l k
  unfold postilionkeep_Same_string.f
  repeat' first
      | (with_reducible exact ih0 _ _ _)
      | (with_reducible exact LeO.refl _)
      | (with_reducible exact LeO.none _)
      | (with_reducible refine LeO.ite ?_ ?_)
      | (with_reducible refine LeO.bind ?_ (fun _ => ?_))
      | exact ih0 _ _ _
      | exact LeO.none _
      | refine LeO.ite ?_ ?_
      | refine LeO.bind ?_ (fun _ => ?_)
set_option maxHeartbeats 8000000 in
set_option maxRecDepth 100000 in
theorem postilionkeep_Same_string.calls (k : Nat) (A0 : Option Addr) (c0 : Nat) (l0 : List ByteArray) (A1 : Option Addr) (c1 : Nat) (l1 : List ByteArray) (r : Bool) (w : World) (hr0 : Kd.C Kd.string w A0 l0.length l0) (hc0 : l0.length ≤ c0) (hr1 : Kd.C Kd.string w A1 l1.length l1) (hc1 : l1.length ≤ c1) (h : postilionkeep_Same_string.f k l0 l1 = some r) :
    Calls Tryd.prog 16 #[.slice A0 l0.length c0, .slice A1 l1.length c1] w fun e w' => e = .returned (.bool r) ∧ Drawn0 w w' := by
  have HR0 := Aside0.mk hr0
  have HC0 := Aside0.mk hc0
  clear hr0 hc0
  have HR1 := Aside0.mk hr1
  have HC1 := Aside0.mk hc1
  clear hr1 hc1
  have H : (if (l0.length : Int) = (l1.length : Int) then (postilionkeep_Same_string.l0 k l0 l1 0) else (some false)) = some r := h
  clear h
  by_cases c3 : (l0.length : Int) = (l1.length : Int)
  · rw [if_pos c3] at H
    have c3b0 : ((l0.length : Int) == (l1.length : Int)) = true := beq_iff_eq.mpr c3
    have c3b1 : ((l0.length : Int) != (l1.length : Int)) = false := bne_eq_false_iff_eq.mpr c3
    have c3b2 : (l0.length == l1.length) = true := by first | simpa using c3 | (simp at c3 ⊢; omega)
    clear c3
    have H' := Aside0.mk H
    clear H
    go_enter Tryd.func16, Tryd.ntmps16
    go_wp2
    repeat (go_quiet (fail); try go_wp2)
    go_loopg [5] k (fun kq v5 w' => ∃ (x5_1 : Int), v5 = .int .i64 x5_1 ∧ Aside0 (postilionkeep_Same_string.l0 kq l0 l1 x5_1 = some r) ∧ Aside0 (kq ≤ k) ∧ Drawn0 w w')
    case atStart => exact ⟨(0), (by first | rfl | (simp; done) | (simp [*]; done)), H', ⟨Nat.le_refl _⟩, by repeat (first | exact Drawn0.refl _ | apply Drawn0.step)⟩
    case round =>
      clear H'
      try clear c1
      try clear p2
      try clear c3
      try clear c3b0
      try clear c3b1
      try clear c3b2
      obtain ⟨x5_1, rfl, HA, HK1, ⟨m1, rfl⟩⟩ := hrel
      cases gk with
      | zero => exact absurd HA.out (by simp [postilionkeep_Same_string.l0])
      | succ k1 =>
        have H := HA.out
        clear HA
        simp only [postilionkeep_Same_string.l0] at H
        by_cases c4 : x5_1 < (l0.length : Int)
        · rw [if_pos c4] at H
          have c4b0 : decide (x5_1 < (l0.length : Int)) = true := decide_eq_true c4
          clear c4
          by_cases c5 : 0 ≤ x5_1
          · rw [if_pos c5] at H
            have c5b0 : decide (0 ≤ x5_1) = true := decide_eq_true c5
            clear c5
            by_cases c6 : x5_1 < (l1.length : Int)
            · rw [if_pos c6] at H
              have c6b0 : decide (x5_1 < (l1.length : Int)) = true := decide_eq_true c6
              clear c6
              by_cases c7 : (rdOf ByteArray.empty l0 x5_1).toList = (rdOf ByteArray.empty l1 x5_1).toList
              · rw [if_pos c7] at H
                have c7b0 : ((rdOf ByteArray.empty l0 x5_1).toList == (rdOf ByteArray.empty l1 x5_1).toList) = true := beq_iff_eq.mpr c7
                have c7b1 : ((rdOf ByteArray.empty l0 x5_1).toList != (rdOf ByteArray.empty l1 x5_1).toList) = false := bne_eq_false_iff_eq.mpr c7
                clear c7
                have H' := Aside0.mk H
                clear H
                have p101 : 0 ≤ (x5_1 : Int) := of_decide_eq_true (by first | (with_reducible assumption) | assumption)
                have q101 : x5_1 < (l0.length : Int) := of_decide_eq_true (by first | (with_reducible assumption) | assumption)
                obtain ⟨ad101, e101, hx101_0⟩ := Kd.at_string HR0.out x5_1 p101 q101
                cases e101
                replace p101 := eq_true p101
                replace q101 := eq_true q101
                have p102 : 0 ≤ (x5_1 : Int) := of_decide_eq_true (by first | (with_reducible assumption) | assumption)
                have q102 : x5_1 < (l1.length : Int) := of_decide_eq_true (by first | (with_reducible assumption) | assumption)
                obtain ⟨ad102, e102, hx102_0⟩ := Kd.at_string HR1.out x5_1 p102 q102
                cases e102
                replace p102 := eq_true p102
                replace q102 := eq_true q102
                go_wp2
                repeat (go_quiet (fail); try go_wp2)
                go_roundg k1
                case measure => have := HK1.out; omega
                case rel => exact ⟨(wrap64 (x5_1 + 1)), (by first | rfl | (simp; done) | (simp [*]; done)), H', ⟨by have := HK1.out; omega⟩, by repeat (first | exact Drawn0.refl _ | apply Drawn0.step)⟩
              · rw [if_neg c7] at H
                have c7b0 : ((rdOf ByteArray.empty l0 x5_1).toList == (rdOf ByteArray.empty l1 x5_1).toList) = false := beq_eq_false_iff_ne.mpr c7
                have c7b1 : ((rdOf ByteArray.empty l0 x5_1).toList != (rdOf ByteArray.empty l1 x5_1).toList) = true := bne_iff_ne.mpr c7
                obtain rfl := Option.some.inj H
                have p101 : 0 ≤ (x5_1 : Int) := of_decide_eq_true (by first | (with_reducible assumption) | assumption)
                have q101 : x5_1 < (l0.length : Int) := of_decide_eq_true (by first | (with_reducible assumption) | assumption)
                obtain ⟨ad101, e101, hx101_0⟩ := Kd.at_string HR0.out x5_1 p101 q101
                cases e101
                replace p101 := eq_true p101
                replace q101 := eq_true q101
                have p102 : 0 ≤ (x5_1 : Int) := of_decide_eq_true (by first | (with_reducible assumption) | assumption)
                have q102 : x5_1 < (l1.length : Int) := of_decide_eq_true (by first | (with_reducible assumption) | assumption)
                obtain ⟨ad102, e102, hx102_0⟩ := Kd.at_string HR1.out x5_1 p102 q102
                cases e102
                replace p102 := eq_true p102
                replace q102 := eq_true q102
                go_wp2
                repeat (go_quiet (fail); try go_wp2)
                go_ret
                exact ⟨by first | rfl | (simp; done) | (simp [*]; done), by repeat (first | exact Drawn0.refl _ | apply Drawn0.step)⟩
            · rw [if_neg c6] at H
              exact absurd H (by simp)
          · rw [if_neg c5] at H
            exact absurd H (by simp)
        · rw [if_neg c4] at H
          have c4b0 : decide (x5_1 < (l0.length : Int)) = false := decide_eq_false c4
          clear c4
          obtain rfl := Option.some.inj H
          go_wp2
          repeat (go_quiet (fail); try go_wp2)
          go_ret
          exact ⟨by first | rfl | (simp; done) | (simp [*]; done), by repeat (first | exact Drawn0.refl _ | apply Drawn0.step)⟩
  · rw [if_neg c3] at H
    have c3b0 : ((l0.length : Int) == (l1.length : Int)) = false := beq_eq_false_iff_ne.mpr c3
    have c3b1 : ((l0.length : Int) != (l1.length : Int)) = true := bne_iff_ne.mpr c3
    have c3b2 : (l0.length == l1.length) = false := by first | simpa using c3 | (simp at c3 ⊢; omega)
    obtain rfl := Option.some.inj H
    go_enter Tryd.func16, Tryd.ntmps16
    go_wp2
    repeat (go_quiet (fail); try go_wp2)
    go_ret
    exact ⟨by first | rfl | (simp; done) | (simp [*]; done), by repeat (first | exact Drawn0.refl _ | apply Drawn0.step)⟩

/-! ### cors_Plain: function 21 -/
def cors_Plain.f (k : Nat) (a0 : ByteArray) (l1 : List (S27)) : Option (Bool) := (cors_common.f k a0).bind fun t103 => (if t103 = true then ((head_Unsafe.f k l1).bind fun t104 => (some ((t104.length : Int) == 0))) else (some false))
theorem cors_Plain.mono : ∀ a0 a1 k, LeO (cors_Plain.f k a0 a1) (cors_Plain.f (k + 1) a0 a1) := by
  intro a0 a1 k
  unfold cors_Plain.f
  repeat' first
      | (with_reducible exact cors_common.mono _ _)
      | (with_reducible exact head_Unsafe.mono _ _)
      | (with_reducible exact LeO.refl _)
      | (with_reducible exact LeO.none _)
      | (with_reducible refine LeO.ite ?_ ?_)
      | (with_reducible refine LeO.bind ?_ (fun _ => ?_))
      | exact cors_common.mono _ _
      | exact head_Unsafe.mono _ _
      | exact LeO.none _
      | refine LeO.ite ?_ ?_
      | refine LeO.bind ?_ (fun _ => ?_)
set_option maxHeartbeats 8000000 in
set_option maxRecDepth 100000 in
theorem cors_Plain.calls (k : Nat) (a0 : ByteArray) (A1 : Option Addr) (c1 : Nat) (l1 : List (S27)) (r : Bool) (w : World) (hG : Gl w) (hr1 : Kd.C k27 w A1 l1.length l1) (hc1 : l1.length ≤ c1) (h : cors_Plain.f k a0 l1 = some r) :
    Calls Tryd.prog 21 #[.string a0, .slice A1 l1.length c1] w fun e w' => e = .returned (.bool r) ∧ Below w.heap.size w w' := by
  have HR1 := Aside0.mk hr1
  have HC1 := Aside0.mk hc1
  clear hr1 hc1
  have HB := Aside0.mk (Below.refl w.heap.size w)
  have H : ((cors_common.f k a0).bind fun t103 => (if t103 = true then ((head_Unsafe.f k l1).bind fun t104 => (some ((t104.length : Int) == 0))) else (some false))) = some r := h
  clear h
  replace H := Option.bind_eq_some_iff.mp H
  obtain ⟨t103, A30, H⟩ := H
  replace H : (if t103 = true then ((head_Unsafe.f k l1).bind fun t104 => (some ((t104.length : Int) == 0))) else (some false)) = some r := H
  have A3 := Aside0.mk A30
  clear A30
  by_cases c4 : t103 = true
  · subst c4
    have H1 : ((head_Unsafe.f k l1).bind fun t104 => (some ((t104.length : Int) == 0))) = some r := by rw [if_pos rfl] at H; exact H
    clear H
    have H := H1
    clear H1
    replace H := Option.bind_eq_some_iff.mp H
    obtain ⟨t104, A50, H⟩ := H
    replace H : (some ((t104.length : Int) == 0)) = some r := H
    have A5 := Aside0.mk A50
    clear A50
    obtain rfl := Option.some.inj H
    go_enter Tryd.func21, Tryd.ntmps21
    go_wp2_with (first | ((with_reducible refine gate_callee (f := 44) rfl ?_); refine goesL_ (some 6) rfl rfl Tryd.func44 (by kernel_rfl) rfl #[.string a0] rfl (by (try simp only [List.map_toArray, List.map_cons, List.map_nil]); first | done | rfl | (simp only [List.length_drop, List.length_take]; rfl)) ?_; (with_reducible refine (cors_common.calls k a0 true _ A3.out).mono ?_); rintro e w6 ⟨rfl, hb⟩; refine ⟨_, rfl, ?_⟩; have n0_ := Aside0.mk (below_step (by repeat (first | (with_reducible first | exact HB.out | apply below_alloc | apply pw_below_drewN | apply below_drew1) | exact HB.out)) hb); clear HB; have HB := n0_; clear n0_; (try clear hb); (try clear hb2); (try clear hk); (try clear hi)) | (go_at_call 47; (with_reducible refine (head_Unsafe.calls k _ _ l1 t104 _ ?side1 ?side2 ?side3 A5.out).mono ?_); (case side1 => exact Gl.below hG (by repeat (first | (with_reducible first | exact HB.out | apply below_alloc | apply pw_below_drewN | apply below_drew1) | exact HB.out))); (case side2 => repeat (first | exact (Kd.C_below HR1.out HB.out) | (with_reducible refine Kd.C_alloc ?_ _) | (with_reducible refine Kd.C_drewN ?_ _) | (with_reducible refine Kd.C_drew ?_))); (case side3 => exact HC1.out); rintro e w7 ⟨v105, rfl, ho0, hb⟩; have n0_ := Aside0.mk (Kd.R_lower ho0 (below_size (by repeat (first | (with_reducible first | exact HB.out | apply below_alloc | apply pw_below_drewN | apply below_drew1) | exact HB.out)))); have n1_ := Aside0.mk (below_step (by repeat (first | (with_reducible first | exact HB.out | apply below_alloc | apply pw_below_drewN | apply below_drew1) | exact HB.out)) hb); clear HB; have HO106 := n0_; have HB := n1_; clear n0_ n1_; (try clear hb); (try clear hb2); (try clear hk); (try clear hi); (try clear ho0); obtain ⟨Ao8, co8, eo8⟩ := Kd.R_slice HO106.out; subst eo8))
    go_ret
    exact ⟨by first | rfl | (simp [errW_none, errW_some] <;> rfl) | (simp [*, errW_none, errW_some] <;> rfl), by repeat (first | (with_reducible first | exact HB.out | apply below_alloc | apply pw_below_drewN | apply below_drew1) | exact HB.out)⟩
  · replace c4 := Bool.eq_false_iff.mpr c4
    subst c4
    have H1 : (some false) = some r := by rw [if_neg (show ¬ (false = true) by decide)] at H; exact H
    clear H
    have H := H1
    clear H1
    obtain rfl := Option.some.inj H
    go_enter Tryd.func21, Tryd.ntmps21
    go_wp2_with (first | ((with_reducible refine gate_callee (f := 44) rfl ?_); refine goesL_ (some 6) rfl rfl Tryd.func44 (by kernel_rfl) rfl #[.string a0] rfl (by (try simp only [List.map_toArray, List.map_cons, List.map_nil]); first | done | rfl | (simp only [List.length_drop, List.length_take]; rfl)) ?_; (with_reducible refine (cors_common.calls k a0 false _ A3.out).mono ?_); rintro e w9 ⟨rfl, hb⟩; refine ⟨_, rfl, ?_⟩; have n0_ := Aside0.mk (below_step (by repeat (first | (with_reducible first | exact HB.out | apply below_alloc | apply pw_below_drewN | apply below_drew1) | exact HB.out)) hb); clear HB; have HB := n0_; clear n0_; (try clear hb); (try clear hb2); (try clear hk); (try clear hi)))
    go_ret
    exact ⟨by first | rfl | (simp [errW_none, errW_some] <;> rfl) | (simp [*, errW_none, errW_some] <;> rfl), by repeat (first | (with_reducible first | exact HB.out | apply below_alloc | apply pw_below_drewN | apply below_drew1) | exact HB.out)⟩

theorem cors_Plain.calls0 (k : Nat) (a0 : ByteArray) (r : Bool) (w : World) (hG : Gl w) (h : cors_Plain.f k a0 ([] : List (S27)) = some r) :
    Calls Tryd.prog 21 #[.string a0, .slice none 0 0] w fun e w' => e = .returned (.bool r) ∧ Below w.heap.size w w' := cors_Plain.calls k a0 none 0 [] r w hG (Kd.C_nil _ _) (Nat.le_refl _) h
theorem cors_Pre.calls0 (k : Nat) (a0_0 : Int) (A0_1 : Option Addr) (c0_1 : Nat) (l0_1 : List (S27)) (a0_2 : ByteArray) (a0_3 : Bool) (a1 : ByteArray) (a2 : Bool) (a3 : ByteArray) (r : Bool) (w : World) (hG : Gl w) (hr0_1 : Kd.C k27 w A0_1 l0_1.length l0_1) (hc0_1 : l0_1.length ≤ c0_1) (h : cors_Pre.f k a0_0 l0_1 a0_2 a0_3 a1 a2 a3 ([] : List (S27)) = some r) :
    Calls Tryd.prog 20 #[.agg #[.int .i64 a0_0, .slice A0_1 l0_1.length c0_1, .string a0_2, .bool a0_3], .string a1, .bool a2, .string a3, .slice none 0 0] w fun e w' => e = .returned (.bool r) ∧ Below w.heap.size w w' := cors_Pre.calls k a0_0 A0_1 c0_1 l0_1 a0_2 a0_3 a1 a2 a3 none 0 [] r w hG hr0_1 hc0_1 (Kd.C_nil _ _) (Nat.le_refl _) h
/-! ### postilionlaw13_wakes: function 18 -/
def postilionlaw13_wakes.f (k : Nat)  : Option (Bool) := (cors_Plain.f k (⟨#[71, 69, 84]⟩ : ByteArray) ([] : List (S27))).bind fun t107 => (if t107 = true then ((cors_Plain.f k (⟨#[80, 85, 84]⟩ : ByteArray) ([] : List (S27))).bind fun t108 => (some (!t108))) else (some false))
theorem postilionlaw13_wakes.mono : ∀ k, LeO (postilionlaw13_wakes.f k ) (postilionlaw13_wakes.f (k + 1) ) := by
  intro  k
  unfold postilionlaw13_wakes.f
  repeat' first
      | (with_reducible exact cors_Plain.mono _ _ _)
      | (with_reducible exact LeO.refl _)
      | (with_reducible exact LeO.none _)
      | (with_reducible refine LeO.ite ?_ ?_)
      | (with_reducible refine LeO.bind ?_ (fun _ => ?_))
      | exact cors_Plain.mono _ _ _
      | exact LeO.none _
      | refine LeO.ite ?_ ?_
      | refine LeO.bind ?_ (fun _ => ?_)
set_option maxHeartbeats 8000000 in
set_option maxRecDepth 100000 in
theorem postilionlaw13_wakes.calls (k : Nat)  (r : Bool) (w : World) (hG : Gl w) (h : postilionlaw13_wakes.f k  = some r) :
    Calls Tryd.prog 18 #[] w fun e w' => e = .returned (.bool r) ∧ Below w.heap.size w w' := by
  have HB := Aside0.mk (Below.refl w.heap.size w)
  have H : ((cors_Plain.f k (⟨#[71, 69, 84]⟩ : ByteArray) ([] : List (S27))).bind fun t107 => (if t107 = true then ((cors_Plain.f k (⟨#[80, 85, 84]⟩ : ByteArray) ([] : List (S27))).bind fun t108 => (some (!t108))) else (some false))) = some r := h
  clear h
  replace H := Option.bind_eq_some_iff.mp H
  obtain ⟨t107, A10, H⟩ := H
  replace H : (if t107 = true then ((cors_Plain.f k (⟨#[80, 85, 84]⟩ : ByteArray) ([] : List (S27))).bind fun t108 => (some (!t108))) else (some false)) = some r := H
  have A1 := Aside0.mk A10
  clear A10
  by_cases c2 : t107 = true
  · subst c2
    have H1 : ((cors_Plain.f k (⟨#[80, 85, 84]⟩ : ByteArray) ([] : List (S27))).bind fun t108 => (some (!t108))) = some r := by rw [if_pos rfl] at H; exact H
    clear H
    have H := H1
    clear H1
    replace H := Option.bind_eq_some_iff.mp H
    obtain ⟨t108, A30, H⟩ := H
    replace H : (some (!t108)) = some r := H
    have A3 := Aside0.mk A30
    clear A30
    obtain rfl := Option.some.inj H
    go_enter Tryd.func18, Tryd.ntmps18
    go_wp2_with (first | ((with_reducible refine gate_callee (f := 21) rfl ?_); refine goesL_ (some 1) rfl rfl Tryd.func21 (by kernel_rfl) rfl #[.string (⟨#[71, 69, 84]⟩ : ByteArray), .slice none 0 0] rfl (by (try simp only [List.map_toArray, List.map_cons, List.map_nil]); first | done | rfl | (simp only [List.length_drop, List.length_take]; rfl)) ?_; (with_reducible refine (cors_Plain.calls0 k (⟨#[71, 69, 84]⟩ : ByteArray) true _ ?side1 A1.out).mono ?_); (case side1 => exact Gl.below hG (by repeat (first | (with_reducible first | exact HB.out | apply below_alloc | apply pw_below_drewN | apply below_drew1) | exact HB.out))); rintro e w4 ⟨rfl, hb⟩; refine ⟨_, rfl, ?_⟩; have n0_ := Aside0.mk (below_step (by repeat (first | (with_reducible first | exact HB.out | apply below_alloc | apply pw_below_drewN | apply below_drew1) | exact HB.out)) hb); clear HB; have HB := n0_; clear n0_; (try clear hb); (try clear hb2); (try clear hk); (try clear hi)) | (go_at_call 21; (with_reducible refine (cors_Plain.calls0 k (⟨#[80, 85, 84]⟩ : ByteArray) t108 _ ?side1 A3.out).mono ?_); (case side1 => exact Gl.below hG (by repeat (first | (with_reducible first | exact HB.out | apply below_alloc | apply pw_below_drewN | apply below_drew1) | exact HB.out))); rintro e w5 ⟨rfl, hb⟩; have n0_ := Aside0.mk (below_step (by repeat (first | (with_reducible first | exact HB.out | apply below_alloc | apply pw_below_drewN | apply below_drew1) | exact HB.out)) hb); clear HB; have HB := n0_; clear n0_; (try clear hb); (try clear hb2); (try clear hk); (try clear hi)))
    go_ret
    exact ⟨by first | rfl | (simp [errW_none, errW_some] <;> rfl) | (simp [*, errW_none, errW_some] <;> rfl), by repeat (first | (with_reducible first | exact HB.out | apply below_alloc | apply pw_below_drewN | apply below_drew1) | exact HB.out)⟩
  · replace c2 := Bool.eq_false_iff.mpr c2
    subst c2
    have H1 : (some false) = some r := by rw [if_neg (show ¬ (false = true) by decide)] at H; exact H
    clear H
    have H := H1
    clear H1
    obtain rfl := Option.some.inj H
    go_enter Tryd.func18, Tryd.ntmps18
    go_wp2_with (first | ((with_reducible refine gate_callee (f := 21) rfl ?_); refine goesL_ (some 1) rfl rfl Tryd.func21 (by kernel_rfl) rfl #[.string (⟨#[71, 69, 84]⟩ : ByteArray), .slice none 0 0] rfl (by (try simp only [List.map_toArray, List.map_cons, List.map_nil]); first | done | rfl | (simp only [List.length_drop, List.length_take]; rfl)) ?_; (with_reducible refine (cors_Plain.calls0 k (⟨#[71, 69, 84]⟩ : ByteArray) false _ ?side1 A1.out).mono ?_); (case side1 => exact Gl.below hG (by repeat (first | (with_reducible first | exact HB.out | apply below_alloc | apply pw_below_drewN | apply below_drew1) | exact HB.out))); rintro e w6 ⟨rfl, hb⟩; refine ⟨_, rfl, ?_⟩; have n0_ := Aside0.mk (below_step (by repeat (first | (with_reducible first | exact HB.out | apply below_alloc | apply pw_below_drewN | apply below_drew1) | exact HB.out)) hb); clear HB; have HB := n0_; clear n0_; (try clear hb); (try clear hb2); (try clear hk); (try clear hi)))
    go_ret
    exact ⟨by first | rfl | (simp [errW_none, errW_some] <;> rfl) | (simp [*, errW_none, errW_some] <;> rfl), by repeat (first | (with_reducible first | exact HB.out | apply below_alloc | apply pw_below_drewN | apply below_drew1) | exact HB.out)⟩

/-! ### postilionplay_head: function 49 -/
def postilionplay_head.f (a0 : Int) (a1 : ByteArray) : Option (ByteArray × ByteArray) := (some (([(⟨(⟨#[97, 108, 108, 111, 119, 45, 111, 114, 105, 103, 105, 110]⟩ : ByteArray), (⟨#[42]⟩ : ByteArray)⟩ : S27), (⟨(⟨#[65, 108, 108, 111, 119, 45, 79, 114, 105, 103, 105, 110]⟩ : ByteArray), (⟨#[104, 116, 116, 112, 115, 58, 47, 47, 97, 46, 98]⟩ : ByteArray)⟩ : S27), (⟨(⟨#[97, 108, 108, 111, 119, 45, 111, 114, 105, 103, 105, 110]⟩ : ByteArray), (⟨#[110, 117, 108, 108]⟩ : ByteArray)⟩ : S27), (⟨(⟨#[97, 108, 108, 111, 119, 45, 99, 114, 101, 100, 115]⟩ : ByteArray), (⟨#[116, 114, 117, 101]⟩ : ByteArray)⟩ : S27), (⟨(⟨#[97, 108, 108, 111, 119, 45, 109, 101, 116, 104, 111, 100, 115]⟩ : ByteArray), (⟨#[112, 117, 116, 44, 32, 68, 69, 76, 69, 84, 69]⟩ : ByteArray)⟩ : S27), (⟨(⟨#[97, 108, 108, 111, 119, 45, 109, 101, 116, 104, 111, 100, 115]⟩ : ByteArray), (⟨#[42]⟩ : ByteArray)⟩ : S27), (⟨(⟨#[97, 108, 108, 111, 119, 45, 104, 101, 97, 100, 115]⟩ : ByteArray), (⟨#[120, 45, 111, 110, 101, 44, 44, 32, 67, 111, 110, 116, 101, 110, 116, 45, 116, 121, 112, 101]⟩ : ByteArray)⟩ : S27), (⟨(⟨#[97, 108, 108, 111, 119, 45, 104, 101, 97, 100, 115]⟩ : ByteArray), (⟨#[42]⟩ : ByteArray)⟩ : S27), (⟨(⟨#[101, 116, 97, 103]⟩ : ByteArray), (⟨#[34, 97, 34]⟩ : ByteArray)⟩ : S27), (⟨(⟨#[69, 84, 97, 103]⟩ : ByteArray), (⟨#[34, 98, 34]⟩ : ByteArray)⟩ : S27), (⟨(⟨#[101, 116, 97, 103]⟩ : ByteArray), (⟨#[87, 47, 34, 97, 34]⟩ : ByteArray)⟩ : S27), (⟨(⟨#[114, 101, 116, 114, 121, 45, 97, 102, 116, 101, 114]⟩ : ByteArray), (⟨#[53]⟩ : ByteArray)⟩ : S27), (⟨(⟨#[114, 101, 116, 114, 121, 45, 97, 102, 116, 101, 114]⟩ : ByteArray), (⟨#[57, 57]⟩ : ByteArray)⟩ : S27), (⟨(⟨#[114, 101, 116, 114, 121, 45, 97, 102, 116, 101, 114]⟩ : ByteArray), (⟨#[120]⟩ : ByteArray)⟩ : S27), (⟨(⟨#[108, 111, 99, 97, 116, 105, 111, 110]⟩ : ByteArray), (⟨#[104, 116, 116, 112, 115, 58, 47, 47, 99, 46, 100, 47, 112, 63, 113]⟩ : ByteArray)⟩ : S27), (⟨(⟨#[108, 111, 99, 97, 116, 105, 111, 110]⟩ : ByteArray), (⟨#[47, 120]⟩ : ByteArray)⟩ : S27), (⟨(⟨#[108, 111, 99, 97, 116, 105, 111, 110]⟩ : ByteArray), (⟨#[47, 47, 115, 46, 99, 46, 100, 47, 121]⟩ : ByteArray)⟩ : S27), (⟨(⟨#[108, 111, 99, 97, 116, 105, 111, 110]⟩ : ByteArray), (⟨#[104, 116, 116, 112, 58, 47, 47, 97, 46, 98, 47]⟩ : ByteArray)⟩ : S27), (⟨(⟨#[108, 111, 99, 97, 116, 105, 111, 110]⟩ : ByteArray), (⟨#[63]⟩ : ByteArray)⟩ : S27), (⟨(⟨#[99, 111, 110, 116, 101, 110, 116, 45, 114, 97, 110, 103, 101]⟩ : ByteArray), (⟨#[98, 121, 116, 101, 115, 32, 51, 45, 55, 47, 56]⟩ : ByteArray)⟩ : S27), (⟨(⟨#[99, 111, 110, 116, 101, 110, 116, 45, 114, 97, 110, 103, 101]⟩ : ByteArray), (⟨#[98, 121, 116, 101, 115, 32, 48, 45, 55, 47, 56]⟩ : ByteArray)⟩ : S27), (⟨(⟨#[99, 111, 110, 116, 101, 110, 116, 45, 108, 101, 110, 103, 116, 104]⟩ : ByteArray), (⟨#[53]⟩ : ByteArray)⟩ : S27), (⟨(⟨#[99, 111, 110, 116, 101, 110, 116, 45, 108, 101, 110, 103, 116, 104]⟩ : ByteArray), (⟨#[56]⟩ : ByteArray)⟩ : S27), (⟨(⟨#[120]⟩ : ByteArray), a1⟩ : S27)] : List (S27)) : List (S27))).bind fun y110 => ((postilionkeep_Within.f a0 (y110.length : Int)).bind fun t113 => (if 0 ≤ t113 then (if t113 < (y110.length : Int) then (some ((rd_T27 y110 t113).f0, (rd_T27 y110 t113).f1)) else (none)) else (none)))
set_option maxHeartbeats 8000000 in
set_option maxRecDepth 100000 in
theorem postilionplay_head.calls (a0 : Int) (a1 : ByteArray) (r1 : ByteArray) (r2 : ByteArray) (w : World) (h : postilionplay_head.f a0 a1 = some (r1, r2)) :
    Calls Tryd.prog 49 #[.int .i64 a0, .string a1] w fun e w' => e = .returned (.agg #[.string r1, .string r2]) ∧ Below w.heap.size w w' := by
  have hu27 := Tryd.underlying27
  have HB := Aside0.mk (Below.refl w.heap.size w)
  have H : ((some (([(⟨(⟨#[97, 108, 108, 111, 119, 45, 111, 114, 105, 103, 105, 110]⟩ : ByteArray), (⟨#[42]⟩ : ByteArray)⟩ : S27), (⟨(⟨#[65, 108, 108, 111, 119, 45, 79, 114, 105, 103, 105, 110]⟩ : ByteArray), (⟨#[104, 116, 116, 112, 115, 58, 47, 47, 97, 46, 98]⟩ : ByteArray)⟩ : S27), (⟨(⟨#[97, 108, 108, 111, 119, 45, 111, 114, 105, 103, 105, 110]⟩ : ByteArray), (⟨#[110, 117, 108, 108]⟩ : ByteArray)⟩ : S27), (⟨(⟨#[97, 108, 108, 111, 119, 45, 99, 114, 101, 100, 115]⟩ : ByteArray), (⟨#[116, 114, 117, 101]⟩ : ByteArray)⟩ : S27), (⟨(⟨#[97, 108, 108, 111, 119, 45, 109, 101, 116, 104, 111, 100, 115]⟩ : ByteArray), (⟨#[112, 117, 116, 44, 32, 68, 69, 76, 69, 84, 69]⟩ : ByteArray)⟩ : S27), (⟨(⟨#[97, 108, 108, 111, 119, 45, 109, 101, 116, 104, 111, 100, 115]⟩ : ByteArray), (⟨#[42]⟩ : ByteArray)⟩ : S27), (⟨(⟨#[97, 108, 108, 111, 119, 45, 104, 101, 97, 100, 115]⟩ : ByteArray), (⟨#[120, 45, 111, 110, 101, 44, 44, 32, 67, 111, 110, 116, 101, 110, 116, 45, 116, 121, 112, 101]⟩ : ByteArray)⟩ : S27), (⟨(⟨#[97, 108, 108, 111, 119, 45, 104, 101, 97, 100, 115]⟩ : ByteArray), (⟨#[42]⟩ : ByteArray)⟩ : S27), (⟨(⟨#[101, 116, 97, 103]⟩ : ByteArray), (⟨#[34, 97, 34]⟩ : ByteArray)⟩ : S27), (⟨(⟨#[69, 84, 97, 103]⟩ : ByteArray), (⟨#[34, 98, 34]⟩ : ByteArray)⟩ : S27), (⟨(⟨#[101, 116, 97, 103]⟩ : ByteArray), (⟨#[87, 47, 34, 97, 34]⟩ : ByteArray)⟩ : S27), (⟨(⟨#[114, 101, 116, 114, 121, 45, 97, 102, 116, 101, 114]⟩ : ByteArray), (⟨#[53]⟩ : ByteArray)⟩ : S27), (⟨(⟨#[114, 101, 116, 114, 121, 45, 97, 102, 116, 101, 114]⟩ : ByteArray), (⟨#[57, 57]⟩ : ByteArray)⟩ : S27), (⟨(⟨#[114, 101, 116, 114, 121, 45, 97, 102, 116, 101, 114]⟩ : ByteArray), (⟨#[120]⟩ : ByteArray)⟩ : S27), (⟨(⟨#[108, 111, 99, 97, 116, 105, 111, 110]⟩ : ByteArray), (⟨#[104, 116, 116, 112, 115, 58, 47, 47, 99, 46, 100, 47, 112, 63, 113]⟩ : ByteArray)⟩ : S27), (⟨(⟨#[108, 111, 99, 97, 116, 105, 111, 110]⟩ : ByteArray), (⟨#[47, 120]⟩ : ByteArray)⟩ : S27), (⟨(⟨#[108, 111, 99, 97, 116, 105, 111, 110]⟩ : ByteArray), (⟨#[47, 47, 115, 46, 99, 46, 100, 47, 121]⟩ : ByteArray)⟩ : S27), (⟨(⟨#[108, 111, 99, 97, 116, 105, 111, 110]⟩ : ByteArray), (⟨#[104, 116, 116, 112, 58, 47, 47, 97, 46, 98, 47]⟩ : ByteArray)⟩ : S27), (⟨(⟨#[108, 111, 99, 97, 116, 105, 111, 110]⟩ : ByteArray), (⟨#[63]⟩ : ByteArray)⟩ : S27), (⟨(⟨#[99, 111, 110, 116, 101, 110, 116, 45, 114, 97, 110, 103, 101]⟩ : ByteArray), (⟨#[98, 121, 116, 101, 115, 32, 51, 45, 55, 47, 56]⟩ : ByteArray)⟩ : S27), (⟨(⟨#[99, 111, 110, 116, 101, 110, 116, 45, 114, 97, 110, 103, 101]⟩ : ByteArray), (⟨#[98, 121, 116, 101, 115, 32, 48, 45, 55, 47, 56]⟩ : ByteArray)⟩ : S27), (⟨(⟨#[99, 111, 110, 116, 101, 110, 116, 45, 108, 101, 110, 103, 116, 104]⟩ : ByteArray), (⟨#[53]⟩ : ByteArray)⟩ : S27), (⟨(⟨#[99, 111, 110, 116, 101, 110, 116, 45, 108, 101, 110, 103, 116, 104]⟩ : ByteArray), (⟨#[56]⟩ : ByteArray)⟩ : S27), (⟨(⟨#[120]⟩ : ByteArray), a1⟩ : S27)] : List (S27)) : List (S27))).bind fun y110 => ((postilionkeep_Within.f a0 (y110.length : Int)).bind fun t113 => (if 0 ≤ t113 then (if t113 < (y110.length : Int) then (some ((rd_T27 y110 t113).f0, (rd_T27 y110 t113).f1)) else (none)) else (none)))) = some (r1, r2) := h
  clear h
  obtain ⟨y110, hy110⟩ : ∃ y_ : List (S27), y_ = (([(⟨(⟨#[97, 108, 108, 111, 119, 45, 111, 114, 105, 103, 105, 110]⟩ : ByteArray), (⟨#[42]⟩ : ByteArray)⟩ : S27), (⟨(⟨#[65, 108, 108, 111, 119, 45, 79, 114, 105, 103, 105, 110]⟩ : ByteArray), (⟨#[104, 116, 116, 112, 115, 58, 47, 47, 97, 46, 98]⟩ : ByteArray)⟩ : S27), (⟨(⟨#[97, 108, 108, 111, 119, 45, 111, 114, 105, 103, 105, 110]⟩ : ByteArray), (⟨#[110, 117, 108, 108]⟩ : ByteArray)⟩ : S27), (⟨(⟨#[97, 108, 108, 111, 119, 45, 99, 114, 101, 100, 115]⟩ : ByteArray), (⟨#[116, 114, 117, 101]⟩ : ByteArray)⟩ : S27), (⟨(⟨#[97, 108, 108, 111, 119, 45, 109, 101, 116, 104, 111, 100, 115]⟩ : ByteArray), (⟨#[112, 117, 116, 44, 32, 68, 69, 76, 69, 84, 69]⟩ : ByteArray)⟩ : S27), (⟨(⟨#[97, 108, 108, 111, 119, 45, 109, 101, 116, 104, 111, 100, 115]⟩ : ByteArray), (⟨#[42]⟩ : ByteArray)⟩ : S27), (⟨(⟨#[97, 108, 108, 111, 119, 45, 104, 101, 97, 100, 115]⟩ : ByteArray), (⟨#[120, 45, 111, 110, 101, 44, 44, 32, 67, 111, 110, 116, 101, 110, 116, 45, 116, 121, 112, 101]⟩ : ByteArray)⟩ : S27), (⟨(⟨#[97, 108, 108, 111, 119, 45, 104, 101, 97, 100, 115]⟩ : ByteArray), (⟨#[42]⟩ : ByteArray)⟩ : S27), (⟨(⟨#[101, 116, 97, 103]⟩ : ByteArray), (⟨#[34, 97, 34]⟩ : ByteArray)⟩ : S27), (⟨(⟨#[69, 84, 97, 103]⟩ : ByteArray), (⟨#[34, 98, 34]⟩ : ByteArray)⟩ : S27), (⟨(⟨#[101, 116, 97, 103]⟩ : ByteArray), (⟨#[87, 47, 34, 97, 34]⟩ : ByteArray)⟩ : S27), (⟨(⟨#[114, 101, 116, 114, 121, 45, 97, 102, 116, 101, 114]⟩ : ByteArray), (⟨#[53]⟩ : ByteArray)⟩ : S27), (⟨(⟨#[114, 101, 116, 114, 121, 45, 97, 102, 116, 101, 114]⟩ : ByteArray), (⟨#[57, 57]⟩ : ByteArray)⟩ : S27), (⟨(⟨#[114, 101, 116, 114, 121, 45, 97, 102, 116, 101, 114]⟩ : ByteArray), (⟨#[120]⟩ : ByteArray)⟩ : S27), (⟨(⟨#[108, 111, 99, 97, 116, 105, 111, 110]⟩ : ByteArray), (⟨#[104, 116, 116, 112, 115, 58, 47, 47, 99, 46, 100, 47, 112, 63, 113]⟩ : ByteArray)⟩ : S27), (⟨(⟨#[108, 111, 99, 97, 116, 105, 111, 110]⟩ : ByteArray), (⟨#[47, 120]⟩ : ByteArray)⟩ : S27), (⟨(⟨#[108, 111, 99, 97, 116, 105, 111, 110]⟩ : ByteArray), (⟨#[47, 47, 115, 46, 99, 46, 100, 47, 121]⟩ : ByteArray)⟩ : S27), (⟨(⟨#[108, 111, 99, 97, 116, 105, 111, 110]⟩ : ByteArray), (⟨#[104, 116, 116, 112, 58, 47, 47, 97, 46, 98, 47]⟩ : ByteArray)⟩ : S27), (⟨(⟨#[108, 111, 99, 97, 116, 105, 111, 110]⟩ : ByteArray), (⟨#[63]⟩ : ByteArray)⟩ : S27), (⟨(⟨#[99, 111, 110, 116, 101, 110, 116, 45, 114, 97, 110, 103, 101]⟩ : ByteArray), (⟨#[98, 121, 116, 101, 115, 32, 51, 45, 55, 47, 56]⟩ : ByteArray)⟩ : S27), (⟨(⟨#[99, 111, 110, 116, 101, 110, 116, 45, 114, 97, 110, 103, 101]⟩ : ByteArray), (⟨#[98, 121, 116, 101, 115, 32, 48, 45, 55, 47, 56]⟩ : ByteArray)⟩ : S27), (⟨(⟨#[99, 111, 110, 116, 101, 110, 116, 45, 108, 101, 110, 103, 116, 104]⟩ : ByteArray), (⟨#[53]⟩ : ByteArray)⟩ : S27), (⟨(⟨#[99, 111, 110, 116, 101, 110, 116, 45, 108, 101, 110, 103, 116, 104]⟩ : ByteArray), (⟨#[56]⟩ : ByteArray)⟩ : S27), (⟨(⟨#[120]⟩ : ByteArray), a1⟩ : S27)] : List (S27))) := ⟨_, rfl⟩
  replace H : ((postilionkeep_Within.f a0 (y110.length : Int)).bind fun t113 => (if 0 ≤ t113 then (if t113 < (y110.length : Int) then (some ((rd_T27 y110 t113).f0, (rd_T27 y110 t113).f1)) else (none)) else (none))) = some (r1, r2) := by first | (rw [hy110]; with_reducible exact H) | (have H2_ := (Option.bind_some _ _).symm.trans H; rw [hy110]; with_reducible exact H2_) | (have H2_ := (Option.bind_some _ _).symm.trans H; with_reducible exact H2_) | with_reducible exact H | (rw [hy110]; exact H) | exact H
  have Ny110 := Aside0.mk hy110
  clear hy110
  replace H := Option.bind_eq_some_iff.mp H
  obtain ⟨t113, A30, H⟩ := H
  replace H : (if 0 ≤ t113 then (if t113 < (y110.length : Int) then (some ((rd_T27 y110 t113).f0, (rd_T27 y110 t113).f1)) else (none)) else (none)) = some (r1, r2) := H
  have A3 := Aside0.mk A30
  clear A30
  by_cases c4 : 0 ≤ t113
  · rw [if_pos c4] at H
    have c4b0 : decide (0 ≤ t113) = true := decide_eq_true c4
    clear c4
    by_cases c5 : t113 < (y110.length : Int)
    · rw [if_pos c5] at H
      have c5b0 : decide (t113 < (y110.length : Int)) = true := decide_eq_true c5
      clear c5
      simp only [Option.some.injEq, Prod.mk.injEq] at H
      obtain ⟨rfl, rfl⟩ := H
      go_enter Tryd.func49, Tryd.ntmps49
      go_wp2_with (first | ((with_reducible refine gate_dst (N := 4) rfl ?_); refine box_event ?hg (N := 4) ?hd (cs := #[.string (⟨#[]⟩ : ByteArray), .string (⟨#[]⟩ : ByteArray)]) (t := 27) ?hr ?_; (case hd => rfl); (case hg => rfl); (case hr => first | (go_simp; done) | (go_simp; rfl)); intro gb109 hg w6 hbox hb; have n0_ := Aside0.mk (below_step (by repeat (first | (with_reducible first | exact HB.out | apply below_alloc | apply pw_below_drewN | apply below_drew1) | exact HB.out)) hb); have n1_ := Aside0.mk (hbox); have n2_ := Aside0.mk ((by rw [hg]; exact (below_size (by repeat (first | (with_reducible first | exact HB.out | apply below_alloc | apply pw_below_drewN | apply below_drew1) | exact HB.out))) : w.heap.size ≤ gb109)); have n3_ := Aside0.mk ((by rw [hg]; exact (below_size (by repeat (first | (with_reducible first | exact HB.out | apply below_alloc | apply pw_below_drewN | apply below_drew1) | exact HB.out))) : w.heap.size ≤ gb109)); clear HB; have HB := n0_; have BK109 := n1_; have GW109 := n2_; have GE109 := n3_; clear n0_ n1_ n2_ n3_; clear hb hbox hg) | ((with_reducible refine gate_dst (N := 31) rfl ?_); refine Kd.R_lit k27 _ 27 ?hg (N := 31) ?hd (xs := ([(⟨(⟨#[97, 108, 108, 111, 119, 45, 111, 114, 105, 103, 105, 110]⟩ : ByteArray), (⟨#[42]⟩ : ByteArray)⟩ : S27), (⟨(⟨#[65, 108, 108, 111, 119, 45, 79, 114, 105, 103, 105, 110]⟩ : ByteArray), (⟨#[104, 116, 116, 112, 115, 58, 47, 47, 97, 46, 98]⟩ : ByteArray)⟩ : S27), (⟨(⟨#[97, 108, 108, 111, 119, 45, 111, 114, 105, 103, 105, 110]⟩ : ByteArray), (⟨#[110, 117, 108, 108]⟩ : ByteArray)⟩ : S27), (⟨(⟨#[97, 108, 108, 111, 119, 45, 99, 114, 101, 100, 115]⟩ : ByteArray), (⟨#[116, 114, 117, 101]⟩ : ByteArray)⟩ : S27), (⟨(⟨#[97, 108, 108, 111, 119, 45, 109, 101, 116, 104, 111, 100, 115]⟩ : ByteArray), (⟨#[112, 117, 116, 44, 32, 68, 69, 76, 69, 84, 69]⟩ : ByteArray)⟩ : S27), (⟨(⟨#[97, 108, 108, 111, 119, 45, 109, 101, 116, 104, 111, 100, 115]⟩ : ByteArray), (⟨#[42]⟩ : ByteArray)⟩ : S27), (⟨(⟨#[97, 108, 108, 111, 119, 45, 104, 101, 97, 100, 115]⟩ : ByteArray), (⟨#[120, 45, 111, 110, 101, 44, 44, 32, 67, 111, 110, 116, 101, 110, 116, 45, 116, 121, 112, 101]⟩ : ByteArray)⟩ : S27), (⟨(⟨#[97, 108, 108, 111, 119, 45, 104, 101, 97, 100, 115]⟩ : ByteArray), (⟨#[42]⟩ : ByteArray)⟩ : S27), (⟨(⟨#[101, 116, 97, 103]⟩ : ByteArray), (⟨#[34, 97, 34]⟩ : ByteArray)⟩ : S27), (⟨(⟨#[69, 84, 97, 103]⟩ : ByteArray), (⟨#[34, 98, 34]⟩ : ByteArray)⟩ : S27), (⟨(⟨#[101, 116, 97, 103]⟩ : ByteArray), (⟨#[87, 47, 34, 97, 34]⟩ : ByteArray)⟩ : S27), (⟨(⟨#[114, 101, 116, 114, 121, 45, 97, 102, 116, 101, 114]⟩ : ByteArray), (⟨#[53]⟩ : ByteArray)⟩ : S27), (⟨(⟨#[114, 101, 116, 114, 121, 45, 97, 102, 116, 101, 114]⟩ : ByteArray), (⟨#[57, 57]⟩ : ByteArray)⟩ : S27), (⟨(⟨#[114, 101, 116, 114, 121, 45, 97, 102, 116, 101, 114]⟩ : ByteArray), (⟨#[120]⟩ : ByteArray)⟩ : S27), (⟨(⟨#[108, 111, 99, 97, 116, 105, 111, 110]⟩ : ByteArray), (⟨#[104, 116, 116, 112, 115, 58, 47, 47, 99, 46, 100, 47, 112, 63, 113]⟩ : ByteArray)⟩ : S27), (⟨(⟨#[108, 111, 99, 97, 116, 105, 111, 110]⟩ : ByteArray), (⟨#[47, 120]⟩ : ByteArray)⟩ : S27), (⟨(⟨#[108, 111, 99, 97, 116, 105, 111, 110]⟩ : ByteArray), (⟨#[47, 47, 115, 46, 99, 46, 100, 47, 121]⟩ : ByteArray)⟩ : S27), (⟨(⟨#[108, 111, 99, 97, 116, 105, 111, 110]⟩ : ByteArray), (⟨#[104, 116, 116, 112, 58, 47, 47, 97, 46, 98, 47]⟩ : ByteArray)⟩ : S27), (⟨(⟨#[108, 111, 99, 97, 116, 105, 111, 110]⟩ : ByteArray), (⟨#[63]⟩ : ByteArray)⟩ : S27), (⟨(⟨#[99, 111, 110, 116, 101, 110, 116, 45, 114, 97, 110, 103, 101]⟩ : ByteArray), (⟨#[98, 121, 116, 101, 115, 32, 51, 45, 55, 47, 56]⟩ : ByteArray)⟩ : S27), (⟨(⟨#[99, 111, 110, 116, 101, 110, 116, 45, 114, 97, 110, 103, 101]⟩ : ByteArray), (⟨#[98, 121, 116, 101, 115, 32, 48, 45, 55, 47, 56]⟩ : ByteArray)⟩ : S27), (⟨(⟨#[99, 111, 110, 116, 101, 110, 116, 45, 108, 101, 110, 103, 116, 104]⟩ : ByteArray), (⟨#[53]⟩ : ByteArray)⟩ : S27), (⟨(⟨#[99, 111, 110, 116, 101, 110, 116, 45, 108, 101, 110, 103, 116, 104]⟩ : ByteArray), (⟨#[56]⟩ : ByteArray)⟩ : S27), (⟨(⟨#[120]⟩ : ByteArray), a1⟩ : S27)] : List (S27))) (inner := [.string (⟨#[97, 108, 108, 111, 119, 45, 111, 114, 105, 103, 105, 110]⟩ : ByteArray), .string (⟨#[42]⟩ : ByteArray), .string (⟨#[65, 108, 108, 111, 119, 45, 79, 114, 105, 103, 105, 110]⟩ : ByteArray), .string (⟨#[104, 116, 116, 112, 115, 58, 47, 47, 97, 46, 98]⟩ : ByteArray), .string (⟨#[97, 108, 108, 111, 119, 45, 111, 114, 105, 103, 105, 110]⟩ : ByteArray), .string (⟨#[110, 117, 108, 108]⟩ : ByteArray), .string (⟨#[97, 108, 108, 111, 119, 45, 99, 114, 101, 100, 115]⟩ : ByteArray), .string (⟨#[116, 114, 117, 101]⟩ : ByteArray), .string (⟨#[97, 108, 108, 111, 119, 45, 109, 101, 116, 104, 111, 100, 115]⟩ : ByteArray), .string (⟨#[112, 117, 116, 44, 32, 68, 69, 76, 69, 84, 69]⟩ : ByteArray), .string (⟨#[97, 108, 108, 111, 119, 45, 109, 101, 116, 104, 111, 100, 115]⟩ : ByteArray), .string (⟨#[42]⟩ : ByteArray), .string (⟨#[97, 108, 108, 111, 119, 45, 104, 101, 97, 100, 115]⟩ : ByteArray), .string (⟨#[120, 45, 111, 110, 101, 44, 44, 32, 67, 111, 110, 116, 101, 110, 116, 45, 116, 121, 112, 101]⟩ : ByteArray), .string (⟨#[97, 108, 108, 111, 119, 45, 104, 101, 97, 100, 115]⟩ : ByteArray), .string (⟨#[42]⟩ : ByteArray), .string (⟨#[101, 116, 97, 103]⟩ : ByteArray), .string (⟨#[34, 97, 34]⟩ : ByteArray), .string (⟨#[69, 84, 97, 103]⟩ : ByteArray), .string (⟨#[34, 98, 34]⟩ : ByteArray), .string (⟨#[101, 116, 97, 103]⟩ : ByteArray), .string (⟨#[87, 47, 34, 97, 34]⟩ : ByteArray), .string (⟨#[114, 101, 116, 114, 121, 45, 97, 102, 116, 101, 114]⟩ : ByteArray), .string (⟨#[53]⟩ : ByteArray), .string (⟨#[114, 101, 116, 114, 121, 45, 97, 102, 116, 101, 114]⟩ : ByteArray), .string (⟨#[57, 57]⟩ : ByteArray), .string (⟨#[114, 101, 116, 114, 121, 45, 97, 102, 116, 101, 114]⟩ : ByteArray), .string (⟨#[120]⟩ : ByteArray), .string (⟨#[108, 111, 99, 97, 116, 105, 111, 110]⟩ : ByteArray), .string (⟨#[104, 116, 116, 112, 115, 58, 47, 47, 99, 46, 100, 47, 112, 63, 113]⟩ : ByteArray), .string (⟨#[108, 111, 99, 97, 116, 105, 111, 110]⟩ : ByteArray), .string (⟨#[47, 120]⟩ : ByteArray), .string (⟨#[108, 111, 99, 97, 116, 105, 111, 110]⟩ : ByteArray), .string (⟨#[47, 47, 115, 46, 99, 46, 100, 47, 121]⟩ : ByteArray), .string (⟨#[108, 111, 99, 97, 116, 105, 111, 110]⟩ : ByteArray), .string (⟨#[104, 116, 116, 112, 58, 47, 47, 97, 46, 98, 47]⟩ : ByteArray), .string (⟨#[108, 111, 99, 97, 116, 105, 111, 110]⟩ : ByteArray), .string (⟨#[63]⟩ : ByteArray), .string (⟨#[99, 111, 110, 116, 101, 110, 116, 45, 114, 97, 110, 103, 101]⟩ : ByteArray), .string (⟨#[98, 121, 116, 101, 115, 32, 51, 45, 55, 47, 56]⟩ : ByteArray), .string (⟨#[99, 111, 110, 116, 101, 110, 116, 45, 114, 97, 110, 103, 101]⟩ : ByteArray), .string (⟨#[98, 121, 116, 101, 115, 32, 48, 45, 55, 47, 56]⟩ : ByteArray), .string (⟨#[99, 111, 110, 116, 101, 110, 116, 45, 108, 101, 110, 103, 116, 104]⟩ : ByteArray), .string (⟨#[53]⟩ : ByteArray), .string (⟨#[99, 111, 110, 116, 101, 110, 116, 45, 108, 101, 110, 103, 116, 104]⟩ : ByteArray), .string (⟨#[56]⟩ : ByteArray), .string (⟨#[120]⟩ : ByteArray), .string a1]) (ok := fun _ => True) (okp := fun _ => True) ?hr ?hp (fun _ hk => hk) trivial (Below.refl _ _) (Nat.le_refl _) (by simp) ?_; (case hd => rfl); (case hg => rfl); (case hr => first | (go_simp; done) | (go_simp; rfl)); (case hp => exact (Reps.c2 (show Kd.M k27 _ _ _ (⟨(⟨#[97, 108, 108, 111, 119, 45, 111, 114, 105, 103, 105, 110]⟩ : ByteArray), (⟨#[42]⟩ : ByteArray)⟩ : S27) [.string (⟨#[97, 108, 108, 111, 119, 45, 111, 114, 105, 103, 105, 110]⟩ : ByteArray), .string (⟨#[42]⟩ : ByteArray)] from (k27_mkM _ _ _ (⟨(⟨#[97, 108, 108, 111, 119, 45, 111, 114, 105, 103, 105, 110]⟩ : ByteArray), (⟨#[42]⟩ : ByteArray)⟩ : S27) )) (Reps.c2 (show Kd.M k27 _ _ _ (⟨(⟨#[65, 108, 108, 111, 119, 45, 79, 114, 105, 103, 105, 110]⟩ : ByteArray), (⟨#[104, 116, 116, 112, 115, 58, 47, 47, 97, 46, 98]⟩ : ByteArray)⟩ : S27) [.string (⟨#[65, 108, 108, 111, 119, 45, 79, 114, 105, 103, 105, 110]⟩ : ByteArray), .string (⟨#[104, 116, 116, 112, 115, 58, 47, 47, 97, 46, 98]⟩ : ByteArray)] from (k27_mkM _ _ _ (⟨(⟨#[65, 108, 108, 111, 119, 45, 79, 114, 105, 103, 105, 110]⟩ : ByteArray), (⟨#[104, 116, 116, 112, 115, 58, 47, 47, 97, 46, 98]⟩ : ByteArray)⟩ : S27) )) (Reps.c2 (show Kd.M k27 _ _ _ (⟨(⟨#[97, 108, 108, 111, 119, 45, 111, 114, 105, 103, 105, 110]⟩ : ByteArray), (⟨#[110, 117, 108, 108]⟩ : ByteArray)⟩ : S27) [.string (⟨#[97, 108, 108, 111, 119, 45, 111, 114, 105, 103, 105, 110]⟩ : ByteArray), .string (⟨#[110, 117, 108, 108]⟩ : ByteArray)] from (k27_mkM _ _ _ (⟨(⟨#[97, 108, 108, 111, 119, 45, 111, 114, 105, 103, 105, 110]⟩ : ByteArray), (⟨#[110, 117, 108, 108]⟩ : ByteArray)⟩ : S27) )) (Reps.c2 (show Kd.M k27 _ _ _ (⟨(⟨#[97, 108, 108, 111, 119, 45, 99, 114, 101, 100, 115]⟩ : ByteArray), (⟨#[116, 114, 117, 101]⟩ : ByteArray)⟩ : S27) [.string (⟨#[97, 108, 108, 111, 119, 45, 99, 114, 101, 100, 115]⟩ : ByteArray), .string (⟨#[116, 114, 117, 101]⟩ : ByteArray)] from (k27_mkM _ _ _ (⟨(⟨#[97, 108, 108, 111, 119, 45, 99, 114, 101, 100, 115]⟩ : ByteArray), (⟨#[116, 114, 117, 101]⟩ : ByteArray)⟩ : S27) )) (Reps.c2 (show Kd.M k27 _ _ _ (⟨(⟨#[97, 108, 108, 111, 119, 45, 109, 101, 116, 104, 111, 100, 115]⟩ : ByteArray), (⟨#[112, 117, 116, 44, 32, 68, 69, 76, 69, 84, 69]⟩ : ByteArray)⟩ : S27) [.string (⟨#[97, 108, 108, 111, 119, 45, 109, 101, 116, 104, 111, 100, 115]⟩ : ByteArray), .string (⟨#[112, 117, 116, 44, 32, 68, 69, 76, 69, 84, 69]⟩ : ByteArray)] from (k27_mkM _ _ _ (⟨(⟨#[97, 108, 108, 111, 119, 45, 109, 101, 116, 104, 111, 100, 115]⟩ : ByteArray), (⟨#[112, 117, 116, 44, 32, 68, 69, 76, 69, 84, 69]⟩ : ByteArray)⟩ : S27) )) (Reps.c2 (show Kd.M k27 _ _ _ (⟨(⟨#[97, 108, 108, 111, 119, 45, 109, 101, 116, 104, 111, 100, 115]⟩ : ByteArray), (⟨#[42]⟩ : ByteArray)⟩ : S27) [.string (⟨#[97, 108, 108, 111, 119, 45, 109, 101, 116, 104, 111, 100, 115]⟩ : ByteArray), .string (⟨#[42]⟩ : ByteArray)] from (k27_mkM _ _ _ (⟨(⟨#[97, 108, 108, 111, 119, 45, 109, 101, 116, 104, 111, 100, 115]⟩ : ByteArray), (⟨#[42]⟩ : ByteArray)⟩ : S27) )) (Reps.c2 (show Kd.M k27 _ _ _ (⟨(⟨#[97, 108, 108, 111, 119, 45, 104, 101, 97, 100, 115]⟩ : ByteArray), (⟨#[120, 45, 111, 110, 101, 44, 44, 32, 67, 111, 110, 116, 101, 110, 116, 45, 116, 121, 112, 101]⟩ : ByteArray)⟩ : S27) [.string (⟨#[97, 108, 108, 111, 119, 45, 104, 101, 97, 100, 115]⟩ : ByteArray), .string (⟨#[120, 45, 111, 110, 101, 44, 44, 32, 67, 111, 110, 116, 101, 110, 116, 45, 116, 121, 112, 101]⟩ : ByteArray)] from (k27_mkM _ _ _ (⟨(⟨#[97, 108, 108, 111, 119, 45, 104, 101, 97, 100, 115]⟩ : ByteArray), (⟨#[120, 45, 111, 110, 101, 44, 44, 32, 67, 111, 110, 116, 101, 110, 116, 45, 116, 121, 112, 101]⟩ : ByteArray)⟩ : S27) )) (Reps.c2 (show Kd.M k27 _ _ _ (⟨(⟨#[97, 108, 108, 111, 119, 45, 104, 101, 97, 100, 115]⟩ : ByteArray), (⟨#[42]⟩ : ByteArray)⟩ : S27) [.string (⟨#[97, 108, 108, 111, 119, 45, 104, 101, 97, 100, 115]⟩ : ByteArray), .string (⟨#[42]⟩ : ByteArray)] from (k27_mkM _ _ _ (⟨(⟨#[97, 108, 108, 111, 119, 45, 104, 101, 97, 100, 115]⟩ : ByteArray), (⟨#[42]⟩ : ByteArray)⟩ : S27) )) (Reps.c2 (show Kd.M k27 _ _ _ (⟨(⟨#[101, 116, 97, 103]⟩ : ByteArray), (⟨#[34, 97, 34]⟩ : ByteArray)⟩ : S27) [.string (⟨#[101, 116, 97, 103]⟩ : ByteArray), .string (⟨#[34, 97, 34]⟩ : ByteArray)] from (k27_mkM _ _ _ (⟨(⟨#[101, 116, 97, 103]⟩ : ByteArray), (⟨#[34, 97, 34]⟩ : ByteArray)⟩ : S27) )) (Reps.c2 (show Kd.M k27 _ _ _ (⟨(⟨#[69, 84, 97, 103]⟩ : ByteArray), (⟨#[34, 98, 34]⟩ : ByteArray)⟩ : S27) [.string (⟨#[69, 84, 97, 103]⟩ : ByteArray), .string (⟨#[34, 98, 34]⟩ : ByteArray)] from (k27_mkM _ _ _ (⟨(⟨#[69, 84, 97, 103]⟩ : ByteArray), (⟨#[34, 98, 34]⟩ : ByteArray)⟩ : S27) )) (Reps.c2 (show Kd.M k27 _ _ _ (⟨(⟨#[101, 116, 97, 103]⟩ : ByteArray), (⟨#[87, 47, 34, 97, 34]⟩ : ByteArray)⟩ : S27) [.string (⟨#[101, 116, 97, 103]⟩ : ByteArray), .string (⟨#[87, 47, 34, 97, 34]⟩ : ByteArray)] from (k27_mkM _ _ _ (⟨(⟨#[101, 116, 97, 103]⟩ : ByteArray), (⟨#[87, 47, 34, 97, 34]⟩ : ByteArray)⟩ : S27) )) (Reps.c2 (show Kd.M k27 _ _ _ (⟨(⟨#[114, 101, 116, 114, 121, 45, 97, 102, 116, 101, 114]⟩ : ByteArray), (⟨#[53]⟩ : ByteArray)⟩ : S27) [.string (⟨#[114, 101, 116, 114, 121, 45, 97, 102, 116, 101, 114]⟩ : ByteArray), .string (⟨#[53]⟩ : ByteArray)] from (k27_mkM _ _ _ (⟨(⟨#[114, 101, 116, 114, 121, 45, 97, 102, 116, 101, 114]⟩ : ByteArray), (⟨#[53]⟩ : ByteArray)⟩ : S27) )) (Reps.c2 (show Kd.M k27 _ _ _ (⟨(⟨#[114, 101, 116, 114, 121, 45, 97, 102, 116, 101, 114]⟩ : ByteArray), (⟨#[57, 57]⟩ : ByteArray)⟩ : S27) [.string (⟨#[114, 101, 116, 114, 121, 45, 97, 102, 116, 101, 114]⟩ : ByteArray), .string (⟨#[57, 57]⟩ : ByteArray)] from (k27_mkM _ _ _ (⟨(⟨#[114, 101, 116, 114, 121, 45, 97, 102, 116, 101, 114]⟩ : ByteArray), (⟨#[57, 57]⟩ : ByteArray)⟩ : S27) )) (Reps.c2 (show Kd.M k27 _ _ _ (⟨(⟨#[114, 101, 116, 114, 121, 45, 97, 102, 116, 101, 114]⟩ : ByteArray), (⟨#[120]⟩ : ByteArray)⟩ : S27) [.string (⟨#[114, 101, 116, 114, 121, 45, 97, 102, 116, 101, 114]⟩ : ByteArray), .string (⟨#[120]⟩ : ByteArray)] from (k27_mkM _ _ _ (⟨(⟨#[114, 101, 116, 114, 121, 45, 97, 102, 116, 101, 114]⟩ : ByteArray), (⟨#[120]⟩ : ByteArray)⟩ : S27) )) (Reps.c2 (show Kd.M k27 _ _ _ (⟨(⟨#[108, 111, 99, 97, 116, 105, 111, 110]⟩ : ByteArray), (⟨#[104, 116, 116, 112, 115, 58, 47, 47, 99, 46, 100, 47, 112, 63, 113]⟩ : ByteArray)⟩ : S27) [.string (⟨#[108, 111, 99, 97, 116, 105, 111, 110]⟩ : ByteArray), .string (⟨#[104, 116, 116, 112, 115, 58, 47, 47, 99, 46, 100, 47, 112, 63, 113]⟩ : ByteArray)] from (k27_mkM _ _ _ (⟨(⟨#[108, 111, 99, 97, 116, 105, 111, 110]⟩ : ByteArray), (⟨#[104, 116, 116, 112, 115, 58, 47, 47, 99, 46, 100, 47, 112, 63, 113]⟩ : ByteArray)⟩ : S27) )) (Reps.c2 (show Kd.M k27 _ _ _ (⟨(⟨#[108, 111, 99, 97, 116, 105, 111, 110]⟩ : ByteArray), (⟨#[47, 120]⟩ : ByteArray)⟩ : S27) [.string (⟨#[108, 111, 99, 97, 116, 105, 111, 110]⟩ : ByteArray), .string (⟨#[47, 120]⟩ : ByteArray)] from (k27_mkM _ _ _ (⟨(⟨#[108, 111, 99, 97, 116, 105, 111, 110]⟩ : ByteArray), (⟨#[47, 120]⟩ : ByteArray)⟩ : S27) )) (Reps.c2 (show Kd.M k27 _ _ _ (⟨(⟨#[108, 111, 99, 97, 116, 105, 111, 110]⟩ : ByteArray), (⟨#[47, 47, 115, 46, 99, 46, 100, 47, 121]⟩ : ByteArray)⟩ : S27) [.string (⟨#[108, 111, 99, 97, 116, 105, 111, 110]⟩ : ByteArray), .string (⟨#[47, 47, 115, 46, 99, 46, 100, 47, 121]⟩ : ByteArray)] from (k27_mkM _ _ _ (⟨(⟨#[108, 111, 99, 97, 116, 105, 111, 110]⟩ : ByteArray), (⟨#[47, 47, 115, 46, 99, 46, 100, 47, 121]⟩ : ByteArray)⟩ : S27) )) (Reps.c2 (show Kd.M k27 _ _ _ (⟨(⟨#[108, 111, 99, 97, 116, 105, 111, 110]⟩ : ByteArray), (⟨#[104, 116, 116, 112, 58, 47, 47, 97, 46, 98, 47]⟩ : ByteArray)⟩ : S27) [.string (⟨#[108, 111, 99, 97, 116, 105, 111, 110]⟩ : ByteArray), .string (⟨#[104, 116, 116, 112, 58, 47, 47, 97, 46, 98, 47]⟩ : ByteArray)] from (k27_mkM _ _ _ (⟨(⟨#[108, 111, 99, 97, 116, 105, 111, 110]⟩ : ByteArray), (⟨#[104, 116, 116, 112, 58, 47, 47, 97, 46, 98, 47]⟩ : ByteArray)⟩ : S27) )) (Reps.c2 (show Kd.M k27 _ _ _ (⟨(⟨#[108, 111, 99, 97, 116, 105, 111, 110]⟩ : ByteArray), (⟨#[63]⟩ : ByteArray)⟩ : S27) [.string (⟨#[108, 111, 99, 97, 116, 105, 111, 110]⟩ : ByteArray), .string (⟨#[63]⟩ : ByteArray)] from (k27_mkM _ _ _ (⟨(⟨#[108, 111, 99, 97, 116, 105, 111, 110]⟩ : ByteArray), (⟨#[63]⟩ : ByteArray)⟩ : S27) )) (Reps.c2 (show Kd.M k27 _ _ _ (⟨(⟨#[99, 111, 110, 116, 101, 110, 116, 45, 114, 97, 110, 103, 101]⟩ : ByteArray), (⟨#[98, 121, 116, 101, 115, 32, 51, 45, 55, 47, 56]⟩ : ByteArray)⟩ : S27) [.string (⟨#[99, 111, 110, 116, 101, 110, 116, 45, 114, 97, 110, 103, 101]⟩ : ByteArray), .string (⟨#[98, 121, 116, 101, 115, 32, 51, 45, 55, 47, 56]⟩ : ByteArray)] from (k27_mkM _ _ _ (⟨(⟨#[99, 111, 110, 116, 101, 110, 116, 45, 114, 97, 110, 103, 101]⟩ : ByteArray), (⟨#[98, 121, 116, 101, 115, 32, 51, 45, 55, 47, 56]⟩ : ByteArray)⟩ : S27) )) (Reps.c2 (show Kd.M k27 _ _ _ (⟨(⟨#[99, 111, 110, 116, 101, 110, 116, 45, 114, 97, 110, 103, 101]⟩ : ByteArray), (⟨#[98, 121, 116, 101, 115, 32, 48, 45, 55, 47, 56]⟩ : ByteArray)⟩ : S27) [.string (⟨#[99, 111, 110, 116, 101, 110, 116, 45, 114, 97, 110, 103, 101]⟩ : ByteArray), .string (⟨#[98, 121, 116, 101, 115, 32, 48, 45, 55, 47, 56]⟩ : ByteArray)] from (k27_mkM _ _ _ (⟨(⟨#[99, 111, 110, 116, 101, 110, 116, 45, 114, 97, 110, 103, 101]⟩ : ByteArray), (⟨#[98, 121, 116, 101, 115, 32, 48, 45, 55, 47, 56]⟩ : ByteArray)⟩ : S27) )) (Reps.c2 (show Kd.M k27 _ _ _ (⟨(⟨#[99, 111, 110, 116, 101, 110, 116, 45, 108, 101, 110, 103, 116, 104]⟩ : ByteArray), (⟨#[53]⟩ : ByteArray)⟩ : S27) [.string (⟨#[99, 111, 110, 116, 101, 110, 116, 45, 108, 101, 110, 103, 116, 104]⟩ : ByteArray), .string (⟨#[53]⟩ : ByteArray)] from (k27_mkM _ _ _ (⟨(⟨#[99, 111, 110, 116, 101, 110, 116, 45, 108, 101, 110, 103, 116, 104]⟩ : ByteArray), (⟨#[53]⟩ : ByteArray)⟩ : S27) )) (Reps.c2 (show Kd.M k27 _ _ _ (⟨(⟨#[99, 111, 110, 116, 101, 110, 116, 45, 108, 101, 110, 103, 116, 104]⟩ : ByteArray), (⟨#[56]⟩ : ByteArray)⟩ : S27) [.string (⟨#[99, 111, 110, 116, 101, 110, 116, 45, 108, 101, 110, 103, 116, 104]⟩ : ByteArray), .string (⟨#[56]⟩ : ByteArray)] from (k27_mkM _ _ _ (⟨(⟨#[99, 111, 110, 116, 101, 110, 116, 45, 108, 101, 110, 103, 116, 104]⟩ : ByteArray), (⟨#[56]⟩ : ByteArray)⟩ : S27) )) (Reps.c2 (show Kd.M k27 _ _ _ (⟨(⟨#[120]⟩ : ByteArray), a1⟩ : S27) [.string (⟨#[120]⟩ : ByteArray), .string a1] from (k27_mkM _ _ _ (⟨(⟨#[120]⟩ : ByteArray), a1⟩ : S27) )) (Reps.none _ _)))))))))))))))))))))))))); intro v111 w7 ho8 hb hg_ hnew_; clear hg_ hnew_; (first | rw [← Ny110.out] at ho8 | (simp only [Int.reduceToNat] at ho8; rw [← Ny110.out] at ho8)); have n0_ := Aside0.mk (Kd.R_lower (Kd.R_newB ho8 (g := gb109) (o := .cells #[.string (⟨#[]⟩ : ByteArray), .string (⟨#[]⟩ : ByteArray)] 27 (0, 0)) (by (with_reducible repeat (first | refine blk_drewN ?_ _ | refine blk_drew ?_ | refine blk_alloc ?_ _)); exact BK109.out)) (below_size (by repeat (first | (with_reducible first | exact HB.out | apply below_alloc | apply pw_below_drewN | apply below_drew1 | refine below_set ?_ GE109.out) | exact HB.out)))); have n1_ := Aside0.mk (blk_below (g := gb109) (o := .cells #[.string (⟨#[]⟩ : ByteArray), .string (⟨#[]⟩ : ByteArray)] 27 (0, 0)) (by (with_reducible repeat (first | refine blk_drewN ?_ _ | refine blk_drew ?_ | refine blk_alloc ?_ _)); exact BK109.out) hb); have n2_ := Aside0.mk (below_step (by repeat (first | (with_reducible first | exact HB.out | apply below_alloc | apply pw_below_drewN | apply below_drew1 | refine below_set ?_ GE109.out) | exact HB.out)) hb); clear BK109; clear HB; have HO112 := n0_; have BK109 := n1_; have HB := n2_; clear n0_ n1_ n2_; clear hb ho8; obtain ⟨Ao9, co9, eo9⟩ := Kd.R_slice HO112.out; subst eo9) | ((with_reducible refine gate_callee (f := 12) rfl ?_); refine goesL_ (some 36) rfl rfl Tryd.func12 (by kernel_rfl) rfl #[.int .i64 a0, .int .i64 (y110.length : Int)] rfl (by (try simp only [List.map_toArray, List.map_cons, List.map_nil]); first | done | rfl | (simp only [List.length_drop, List.length_take]; rfl)) ?_; (with_reducible refine (postilionkeep_Within.calls a0 (y110.length : Int) t113 _ A3.out).mono ?_); rintro e w' ⟨rfl, ⟨nd, rfl⟩⟩; refine ⟨_, rfl, ?_⟩; (try (rw [drewN_self w7]; generalize hq_ : World.drewN w7 _ = w7; have n0_ : Aside0 (Kd.R k27 27 w7 w.heap.size (fun k_ => k_ ≠ gb109) (.slice Ao9 y110.length co9) y110) := ⟨by rw [← hq_]; exact (by (with_reducible repeat (first | apply Kd.R_alloc | apply Kd.R_drewN | apply Kd.R_drew)); exact Kd.R_mono HO112.out (fun _ hk => hk.2))⟩; have n1_ : Aside0 (w7.heap[gb109]? = some (.cells #[.string (⟨#[]⟩ : ByteArray), .string (⟨#[]⟩ : ByteArray)] 27 (0, 0))) := ⟨by rw [← hq_]; exact (by (with_reducible repeat (first | refine blk_drewN ?_ _ | refine blk_drew ?_ | refine blk_alloc ?_ _)); exact BK109.out)⟩; have n2_ : Aside0 (Below w.heap.size w w7) := ⟨by rw [← hq_]; exact (by repeat (first | (with_reducible first | exact HB.out | apply below_alloc | apply pw_below_drewN | apply below_drew1 | refine below_set ?_ GE109.out) | exact HB.out))⟩; clear HO112 BK109 HB hq_; have HO112 := n0_; have BK109 := n1_; have HB := n2_; clear n0_ n1_ n2_)); have p114 : 0 ≤ (t113 : Int) := of_decide_eq_true (by first | (with_reducible assumption) | assumption); have q114 : t113 < (y110.length : Int) := of_decide_eq_true (by first | (with_reducible assumption) | assumption); obtain ⟨ad114, e114, hx114_0, hx114_1⟩ := at_T27 (Kd.R_reads' HO112.out).2.2 t113 p114 q114; cases e114; replace p114 := eq_true p114; replace q114 := eq_true q114; have hcz10_0 : w7.cell? ⟨gb109, 0, none⟩ = some (.string (⟨#[]⟩ : ByteArray)) := (blk_cell BK109.out 0).trans rfl; have hcz10_1 : w7.cell? ⟨gb109, 1, none⟩ = some (.string (⟨#[]⟩ : ByteArray)) := (blk_cell BK109.out 1).trans rfl; have hfz10_0 := blk_frozen BK109.out 0; have hfz10_1 := blk_frozen BK109.out 1))
      refine bodyPost_ret (results_cell_row rfl _ _ gb109 27 #[.string ((rd_T27 y110 t113).f0), .string ((rd_T27 y110 t113).f1)] (0, 0) _ rfl (by (with_reducible repeat (first | refine blk_drewN ?_ _ | refine blk_drew ?_ | refine blk_alloc ?_ _)); refine blk_put (cs := #[.string ((rd_T27 y110 t113).f0), .string (⟨#[]⟩ : ByteArray)]) ?_ 1 _ rfl; (with_reducible repeat (first | refine blk_drewN ?_ _ | refine blk_drew ?_ | refine blk_alloc ?_ _)); refine blk_put (cs := #[.string (⟨#[]⟩ : ByteArray), .string (⟨#[]⟩ : ByteArray)]) ?_ 0 _ rfl; (with_reducible repeat (first | refine blk_drewN ?_ _ | refine blk_drew ?_ | refine blk_alloc ?_ _)); exact BK109.out) Tryd.underlying27 rfl (by kernel_rfl)) rfl ?_
      exact ⟨by first | rfl | (simp [errW_none, errW_some] <;> rfl) | (simp [*, errW_none, errW_some] <;> rfl), by repeat (first | (with_reducible first | exact HB.out | apply below_alloc | apply pw_below_drewN | apply below_drew1 | refine below_set ?_ GE109.out) | exact HB.out)⟩
    · rw [if_neg c5] at H
      exact absurd H (by simp)
  · rw [if_neg c4] at H
    exact absurd H (by simp)

/-! ### postilionplay_Bytes: function 50 -/
def postilionplay_Bytes.l0 : Nat → Int → List Int → Int → Int → Option (List Int)
  | 0, _, _, _, _ => none
  | k + 1, x0, x5, x11, x12 => if x12 < x11 then (if 0 ≤ x12 then (if x12 < (x5.length : Int) then (postilionplay_Bytes.l0 k x0 (x5.set (x12 : Int).toNat ((wrap64 (x0 + (wrap64 (x12 * (Go.bits .or .i64 (wrap64 (Int.tdiv x0 5)) 1))))) % 256)) x11 (wrap64 (x12 + 1))) else (none)) else (none)) else (some x5)
def postilionplay_Bytes.f (k : Nat) (a0 : Int) (a1 : Int) : Option (List Int) := if 0 ≤ (mx a1 0) then (if (mx a1 0 : Int).toNat ≤ 281474976710656 then ((some (List.replicate (mx a1 0 : Int).toNat 0 : List Int)).bind fun y115 => (postilionplay_Bytes.l0 k a0 y115 (y115.length : Int) 0)) else (none)) else (none)
theorem postilionplay_Bytes.mono_l : ∀ k, (∀ y0 y1 y2 y3, LeO (postilionplay_Bytes.l0 k y0 y1 y2 y3) (postilionplay_Bytes.l0 (k + 1) y0 y1 y2 y3))
  | 0 => fun _ _ _ _ r h => by simp [postilionplay_Bytes.l0] at h
  | k + 1 => by
    have ih0 := postilionplay_Bytes.mono_l k
    · intro y0 y1 y2 y3
      unfold postilionplay_Bytes.l0
      repeat' first
      | (with_reducible exact ih0 _ _ _ _)
      | (with_reducible exact LeO.refl _)
      | (with_reducible exact LeO.none _)
      | (with_reducible refine LeO.ite ?_ ?_)
      | (with_reducible refine LeO.bind ?_ (fun _ => ?_))
      | exact ih0 _ _ _ _
      | exact LeO.none _
      | refine LeO.ite ?_ ?_
      | refine LeO.bind ?_ (fun _ => ?_)
theorem postilionplay_Bytes.mono : ∀ a0 a1 k, LeO (postilionplay_Bytes.f k a0 a1) (postilionplay_Bytes.f (k + 1) a0 a1) := by
  intro a0 a1 k
  have ih0 := postilionplay_Bytes.mono_l k
  unfold postilionplay_Bytes.f
  repeat' first
      | (with_reducible exact ih0 _ _ _ _)
      | (with_reducible exact LeO.refl _)
      | (with_reducible exact LeO.none _)
      | (with_reducible refine LeO.ite ?_ ?_)
      | (with_reducible refine LeO.bind ?_ (fun _ => ?_))
      | exact ih0 _ _ _ _
      | exact LeO.none _
      | refine LeO.ite ?_ ?_
      | refine LeO.bind ?_ (fun _ => ?_)
set_option maxHeartbeats 8000000 in
set_option maxRecDepth 100000 in
theorem postilionplay_Bytes.calls (k : Nat) (a0 : Int) (a1 : Int) (r : List Int) (w : World) (h : postilionplay_Bytes.f k a0 a1 = some r) :
    Calls Tryd.prog 50 #[.int .i64 a0, .int .i64 a1] w fun e w' => ∃ v0_ : Value, e = .returned (v0_) ∧ Kd.R (Kd.int .u8) 5 w' w.heap.size (fun _ => True) v0_ r ∧ Below w.heap.size w w' := by
  have HB := Aside0.mk (Below.refl w.heap.size w)
  have H : (if 0 ≤ (mx a1 0) then (if (mx a1 0 : Int).toNat ≤ 281474976710656 then ((some (List.replicate (mx a1 0 : Int).toNat 0 : List Int)).bind fun y115 => (postilionplay_Bytes.l0 k a0 y115 (y115.length : Int) 0)) else (none)) else (none)) = some r := h
  clear h
  obtain ⟨ji3, hji3⟩ : ∃ j_ : Int, (mx a1 0) = j_ := ⟨_, rfl⟩
  replace H : (if 0 ≤ (ji3) then (if (ji3 : Int).toNat ≤ 281474976710656 then ((some (List.replicate (ji3 : Int).toNat 0 : List Int)).bind fun y115 => (postilionplay_Bytes.l0 k a0 y115 (y115.length : Int) 0)) else (none)) else (none)) = some r := by first | (rw [hji3] at H; exact H) | (simp only [hji3] at H ⊢; exact H)
  (try (have hji3l : 0 ≤ ji3 := by (rw [← hji3]; unfold mx; (repeat' split) <;> omega)))
  (try (have hji3m : 0 ≤ ji3 := by omega))
  have hji3_ : (if a1 < 0 then 0 else a1) = ji3 := hji3
  by_cases c4 : 0 ≤ (ji3)
  · rw [if_pos c4] at H
    have c4b0 := eq_true c4
    have c4b1 : decide (0 ≤ (ji3)) = true := decide_eq_true c4
    clear c4
    by_cases c5 : (ji3 : Int).toNat ≤ 281474976710656
    · rw [if_pos c5] at H
      have c5b0 := eq_true c5
      have c5b1 : decide ((ji3 : Int).toNat ≤ 281474976710656) = true := decide_eq_true c5
      clear c5
      obtain ⟨y115, hy115⟩ : ∃ y_ : List Int, y_ = (List.replicate (ji3 : Int).toNat 0) := ⟨_, rfl⟩
      replace H : (postilionplay_Bytes.l0 k a0 y115 (y115.length : Int) 0) = some r := by first | (rw [hy115]; with_reducible exact H) | (have H2_ := (Option.bind_some _ _).symm.trans H; rw [hy115]; with_reducible exact H2_) | (have H2_ := (Option.bind_some _ _).symm.trans H; with_reducible exact H2_) | with_reducible exact H | (rw [hy115]; exact H) | exact H
      have Ny115 := Aside0.mk hy115
      clear hy115
      have H' := Aside0.mk H
      clear H
      go_enter Tryd.func50, Tryd.ntmps50
      go_wp2_with (first | ((with_reducible refine gate_dst (N := 9) rfl ?_); refine Kd.R_make (Kd.int .u8) _ 5 rfl (N := 9) rfl 66 _ _ rfl ji3 rfl rfl Tryd.underlying66 (.int .u8 0) 1 info5 rfl (by decide) (by omega) 0 (ok := fun _ => True) (okp := fun _ => True) rfl (fun _ hk => hk) trivial (of_decide_eq_true (by first | (with_reducible assumption) | assumption)) (Nat.le_trans (Nat.mul_le_mul_right _ (of_decide_eq_true (by first | (with_reducible assumption) | assumption) : ji3.toNat ≤ 281474976710656)) (by omega)) (Below.refl _ _) (Nat.le_refl _) ?_; intro v116 w6 ho7 hb hg_ hnew_; clear hg_ hnew_; (first | rw [← Ny115.out] at ho7 | (simp only [Int.reduceToNat] at ho7; rw [← Ny115.out] at ho7)); have n0_ := Aside0.mk (Kd.R_lower ho7 (below_size (by repeat (first | (with_reducible first | exact HB.out | apply below_alloc | apply pw_below_drewN | apply below_drew1) | exact HB.out)))); have n1_ := Aside0.mk (below_step (by repeat (first | (with_reducible first | exact HB.out | apply below_alloc | apply pw_below_drewN | apply below_drew1) | exact HB.out)) hb); clear HB; have HO117 := n0_; have HB := n1_; clear n0_ n1_; clear hb ho7; obtain ⟨Ao8, co8, eo8⟩ := Kd.R_slice HO117.out; subst eo8))
      go_loopg [12] k (fun kq v12 w' => ∃ (x5_1 : List Int) (x12_1 : Int), v12 = .int .i64 x12_1 ∧ Aside0 (postilionplay_Bytes.l0 kq a0 x5_1 (y115.length : Int) x12_1 = some r) ∧ Aside0 (kq ≤ k) ∧ Aside0 (Kd.R (Kd.int .u8) 5 w' w.heap.size (fun _ => True) (.slice Ao8 y115.length co8) x5_1) ∧ Aside0 (Below w.heap.size w w'))
      case atStart => exact ⟨(y115), (0), (by first | rfl | (simp; done) | (simp [*]; done)), H', ⟨Nat.le_refl _⟩, ⟨by (with_reducible repeat (first | apply Kd.R_alloc | apply Kd.R_drewN | apply Kd.R_drew)); exact HO117.out⟩, ⟨by repeat (first | (with_reducible first | exact HB.out | apply below_alloc | apply pw_below_drewN | apply below_drew1) | exact HB.out)⟩⟩
      case round =>
        clear H'
        try clear p2
        try clear c4
        try clear c4b0
        try clear c4b1
        try clear c5
        try clear c5b0
        try clear c5b1
        obtain ⟨x5_1, x12_1, rfl, HA, HK1, HO_5, HB⟩ := hrel
        have hl5_1 := (Kd.R_reads' HO_5.out).1
        rw [hl5_1] at HO_5
        (try simp only [hl5_1])
        cases gk with
        | zero => exact absurd HA.out (by simp [postilionplay_Bytes.l0])
        | succ k1 =>
          have H := HA.out
          clear HA
          simp only [postilionplay_Bytes.l0] at H
          by_cases c9 : x12_1 < (y115.length : Int)
          · rw [if_pos c9] at H
            have c9b0 : decide (x12_1 < (y115.length : Int)) = true := decide_eq_true c9
            (try simp only [hl5_1] at c9b0)
            clear c9
            by_cases c10 : 0 ≤ x12_1
            · rw [if_pos c10] at H
              have c10b0 : decide (0 ≤ x12_1) = true := decide_eq_true c10
              clear c10
              by_cases c11 : x12_1 < (x5_1.length : Int)
              · rw [if_pos c11] at H
                have c11b0 : decide (x12_1 < (x5_1.length : Int)) = true := decide_eq_true c11
                (try simp only [hl5_1] at c11b0)
                clear c11
                obtain ⟨y118, hy118⟩ : ∃ y_ : List Int, y_ = (x5_1.set (x12_1 : Int).toNat ((wrap64 (a0 + (wrap64 (x12_1 * (Go.bits .or .i64 (wrap64 (Int.tdiv a0 5)) 1))))) % 256)) := ⟨_, rfl⟩
                replace H : (postilionplay_Bytes.l0 k1 a0 y118 (y115.length : Int) (wrap64 (x12_1 + 1))) = some r := by first | (rw [hy118]; with_reducible exact H) | (have H2_ := (Option.bind_some _ _).symm.trans H; rw [hy118]; with_reducible exact H2_) | (have H2_ := (Option.bind_some _ _).symm.trans H; with_reducible exact H2_) | with_reducible exact H | (rw [hy118]; exact H) | exact H
                have Ny118 := Aside0.mk hy118
                clear hy118
                have H' := Aside0.mk H
                clear H
                have p12 : 0 ≤ (x12_1 : Int) := of_decide_eq_true (by first | (with_reducible assumption) | assumption)
                have q12 : (x12_1 : Int) < ((x5_1.length : Int) : Int) := of_decide_eq_true (by first | (with_reducible assumption) | assumption)
                obtain ⟨go12, co12, eo12, gb12, gl12, cl12, HG12⟩ := Kd.R_form HO_5.out (by omega)
                (first | cases eo12 | (injection eo12 with ea_ en_ ec_; (first | subst ea_ | (injection ea_ with ea_; subst ea_)); subst ec_; clear en_))
                have GB12 := Aside0.mk gb12
                have GG12 := Aside0.mk HG12
                clear gb12 gl12 HG12
                obtain ⟨hx12_0, hf12_0⟩ := Kd.R_celln 0 HO_5.out (x12_1 : Int) p12 q12
                replace p12 := eq_true p12
                replace q12 := eq_true q12
                have HP13 := Kd.R_putg HO_5.out (x12_1 : Int) ((wrap64 (a0 + (wrap64 (x12_1 * (Go.bits .or .i64 (wrap64 (Int.tdiv a0 5)) 1))))) % 256)
                go_wp2_with (first | ((with_reducible refine gate_store (t := 5) (p := 25) rfl ?_); refine store_event (t := 5) (p := 25) (v := ?vo_w14) (w1 := (wr.setCell ⟨go12, (x12_1 : Int).toNat, none⟩ (.int .u8 ((wrap64 (a0 + (wrap64 (x12_1 * (Go.bits .or .i64 (wrap64 (Int.tdiv a0 5)) 1))))) % 256)))) ?hg ?ho ?hn ?hr ?_; (case ho => rfl); (case hg => rfl); (case hn => rfl); (case hr => first | (go_simp; done) | (go_simp; rfl)); intro w14 hw; have hg : wr.grownBy w14 (some go12) := (by rw [hw]; exact HP13.2); have hp_ : Kd.R (Kd.int .u8) 5 w14 w.heap.size (fun _ => True) (.slice (some ⟨go12, 0, none⟩) x5_1.length co8) y118 := (by rw [hw, Ny118.out]; exact HP13.1); clear HP13; have n0_ := Aside0.mk (hp_); have n1_ := Aside0.mk ((by rw [hw]; exact below_set (HB.out) GB12.out : Below w.heap.size w w14)); clear HO_5; clear HB; have HO_5 := n0_; have HB := n1_; clear n0_ n1_; clear hg hw hp_))
                (try simp only [← hl5_1])
                go_roundg k1
                case measure => have := HK1.out; omega
                case rel => exact ⟨(y118), (wrap64 (x12_1 + 1)), (by first | rfl | (simp; done) | (simp [*]; done)), H', ⟨by have := HK1.out; omega⟩, ⟨by (try simp only [hl5_1]); (with_reducible repeat (first | apply Kd.R_alloc | apply Kd.R_drewN | apply Kd.R_drew)); exact HO_5.out⟩, ⟨by repeat (first | (with_reducible first | exact HB.out | apply below_alloc | apply pw_below_drewN | apply below_drew1) | exact HB.out)⟩⟩
              · rw [if_neg c11] at H
                exact absurd H (by simp)
            · rw [if_neg c10] at H
              exact absurd H (by simp)
          · rw [if_neg c9] at H
            have c9b0 : decide (x12_1 < (y115.length : Int)) = false := decide_eq_false c9
            (try simp only [hl5_1] at c9b0)
            clear c9
            obtain rfl := Option.some.inj H
            go_wp2
            go_ret
            exact ⟨_, by first | rfl | (simp [errW_none, errW_some] <;> rfl) | (simp only [← hji3]; first | rfl | (simp [errW_none, errW_some] <;> rfl)) | (simp [*, errW_none, errW_some] <;> rfl), by (with_reducible repeat (first | apply Kd.R_alloc | apply Kd.R_drewN | apply Kd.R_drew)); exact HO_5.out, by repeat (first | (with_reducible first | exact HB.out | apply below_alloc | apply pw_below_drewN | apply below_drew1) | exact HB.out)⟩
    · rw [if_neg c5] at H
      exact absurd H (by simp)
  · rw [if_neg c4] at H
    exact absurd H (by simp)

end Go.Proofs.YtllblgjhoeopjaaDoor.GCorsTells
