-- Made by this session's changed copy of the kit's printer (wip/myprint). Not trusted: Lean checks it.
import Derived.Test.YtiabjeeelgkneaaDoorGPartTellsx0
import Derived.Test.YtiabjeeelgkneaaDoorGPartTellsx1
import Derived.Test.YtiabjeeelgkneaaDoorGPartTellsx2
import Derived.Test.YtiabjeeelgkneaaDoorGivP
namespace Go.Proofs.YtiabjeeelgkneaaDoor.GPartTells
open Go.RowKit Go.Proofs.YtiabjeeelgkneaaDoor.GivP Go.Proofs.YtiabjeeelgkneaaDoor.Mw Go.Proofs.YtiabjeeelgkneaaDoorW.PrintWords Go.Proofs.YtiabjeeelgkneaaDoorW.PrintLast Go.Proofs.YtiabjeeelgkneaaDoorW.PrintMore
attribute [local go_sem] max2_int min2_int max_two min_two max_three min_three max_four min_four   -- for this text's walks alone
set_option linter.unusedVariables false
set_option linter.unusedSimpArgs false
set_option hygiene false in
local macro "hb1_" : tactic => `(tactic| (repeat (first | (with_reducible first | exact HB.out | apply below_alloc | apply pw_below_drewN | apply below_drew1) | exact HB.out)))
set_option hygiene false in
local macro "hb2_" : tactic => `(tactic| (repeat (first | (with_reducible first | exact HB.out | apply below_alloc | apply pw_below_drewN | apply below_drew1 | refine below_set ?_ GE145.out) | exact HB.out)))

attribute [local go_sem high] eqA26
/-! ### api_Head: function 13 -/
def api_Head.l0 : Nat → List (S26) → List (S26) → Int → Option (Bool)
  | 0, _, _, _ => none
  | k + 1, x0, x1, x5 => if x5 < (x0.length : Int) then (if 0 ≤ x5 then (if x5 < (x1.length : Int) then (if (!((((rd_T26 x0 x5).f0).toList) == (((rd_T26 x1 x5).f0).toList)) || (!((((rd_T26 x0 x5).f1).toList) == (((rd_T26 x1 x5).f1).toList)))) = true then (some false) else (api_Head.l0 k x0 x1 (wrap64 (x5 + 1)))) else (none)) else (none)) else (some true)
def api_Head.f (k : Nat) (l0 : List (S26)) (l1 : List (S26)) : Option (Bool) := if (l0.length : Int) = (l1.length : Int) then (api_Head.l0 k l0 l1 0) else (some false)
theorem api_Head.mono_l : ∀ k, (∀ y0 y1 y2, LeO (api_Head.l0 k y0 y1 y2) (api_Head.l0 (k + 1) y0 y1 y2))
  | 0 => fun _ _ _ r h => by simp [api_Head.l0] at h
  | k + 1 => by
    have ih0 := api_Head.mono_l k
    · intro y0 y1 y2
      unfold api_Head.l0
      repeat' first
      | (with_reducible exact ih0 _ _ _)
      | (with_reducible exact LeO.refl _)
      | (with_reducible exact LeO.none _)
      | (with_reducible refine LeO.ite ?_ ?_)
      | (with_reducible refine LeO.bind ?_ (fun _ => ?_))
      | exact ih0 _ _ _
      | exact LeO.none _
      | refine LeO.ite ?_ ?_
      | refine LeO.bind ?_ (fun _ => ?_)
theorem api_Head.mono : ∀ a0 a1 k, LeO (api_Head.f k a0 a1) (api_Head.f (k + 1) a0 a1) := by
  intro a0 a1 k
  have ih0 := api_Head.mono_l k
  unfold api_Head.f
  repeat' first
      | (with_reducible exact ih0 _ _ _)
      | (with_reducible exact LeO.refl _)
      | (with_reducible exact LeO.none _)
      | (with_reducible refine LeO.ite ?_ ?_)
      | (with_reducible refine LeO.bind ?_ (fun _ => ?_))
      | exact ih0 _ _ _
      | exact LeO.none _
      | refine LeO.ite ?_ ?_
      | refine LeO.bind ?_ (fun _ => ?_)
set_option maxHeartbeats 8000000 in
set_option maxRecDepth 100000 in
theorem api_Head.calls (k : Nat) (A0 : Option Addr) (c0 : Nat) (l0 : List (S26)) (A1 : Option Addr) (c1 : Nat) (l1 : List (S26)) (r : Bool) (w : World) (hr0 : Kd.C k26 w A0 l0.length l0) (hc0 : l0.length ≤ c0) (hr1 : Kd.C k26 w A1 l1.length l1) (hc1 : l1.length ≤ c1) (h : api_Head.f k l0 l1 = some r) :
    Calls Tryd.prog 13 #[.slice A0 l0.length c0, .slice A1 l1.length c1] w fun e w' => e = .returned (.bool r) ∧ Drawn0 w w' := by
  have hu26 := Tryd.underlying26
  have HR0 := Aside0.mk hr0
  have HC0 := Aside0.mk hc0
  clear hr0 hc0
  have HR1 := Aside0.mk hr1
  have HC1 := Aside0.mk hc1
  clear hr1 hc1
  have H : (if (l0.length : Int) = (l1.length : Int) then (api_Head.l0 k l0 l1 0) else (some false)) = some r := h
  clear h
  by_cases c3 : (l0.length : Int) = (l1.length : Int)
  · rw [if_pos c3] at H
    have c3b0 : ((l0.length : Int) == (l1.length : Int)) = true := beq_iff_eq.mpr c3
    have c3b1 : ((l0.length : Int) != (l1.length : Int)) = false := bne_eq_false_iff_eq.mpr c3
    have c3b2 : (l0.length == l1.length) = true := by first | simpa using c3 | (simp at c3 ⊢; omega)
    clear c3
    have H' := Aside0.mk H
    clear H
    go_enter Tryd.func13, Tryd.ntmps13
    go_wp2
    repeat (go_quiet (fail); try go_wp2)
    go_loopg [5] k (fun kq v5 w' => ∃ (x5_1 : Int), v5 = .int .i64 x5_1 ∧ Aside0 (api_Head.l0 kq l0 l1 x5_1 = some r) ∧ Aside0 (kq ≤ k) ∧ Drawn0 w w')
    case atStart => exact ⟨(0), (by first | rfl | (simp; done) | (simp [*]; done)), H', ⟨Nat.le_refl _⟩, by repeat (first | exact Drawn0.refl _ | apply Drawn0.step)⟩
    case round =>
      clear H'
      try clear c1
      try clear p2
      try clear c3
      try clear c3b0
      try clear c3b1
      try clear c3b2
      obtain ⟨x5_1, rfl, HA, HK1, ⟨m1, rfl⟩⟩ := hrel
      cases gk with
      | zero => exact absurd HA.out (by simp [api_Head.l0])
      | succ k1 =>
        have H := HA.out
        clear HA
        simp only [api_Head.l0] at H
        by_cases c4 : x5_1 < (l0.length : Int)
        · rw [if_pos c4] at H
          have c4b0 : decide (x5_1 < (l0.length : Int)) = true := decide_eq_true c4
          clear c4
          by_cases c5 : 0 ≤ x5_1
          · rw [if_pos c5] at H
            have c5b0 : decide (0 ≤ x5_1) = true := decide_eq_true c5
            clear c5
            by_cases c6 : x5_1 < (l1.length : Int)
            · rw [if_pos c6] at H
              have c6b0 : decide (x5_1 < (l1.length : Int)) = true := decide_eq_true c6
              clear c6
              by_cases c7 : (!((((rd_T26 l0 x5_1).f0).toList) == (((rd_T26 l1 x5_1).f0).toList)) || (!((((rd_T26 l0 x5_1).f1).toList) == (((rd_T26 l1 x5_1).f1).toList)))) = true
              · rw [if_pos c7] at H
                have c7b0 : (!((((rd_T26 l0 x5_1).f0).toList) == (((rd_T26 l1 x5_1).f0).toList)) || (!((((rd_T26 l0 x5_1).f1).toList) == (((rd_T26 l1 x5_1).f1).toList)))) = true := c7
                clear c7
                obtain rfl := Option.some.inj H
                have p129 : 0 ≤ (x5_1 : Int) := of_decide_eq_true (by pw_d)
                have q129 : x5_1 < (l0.length : Int) := of_decide_eq_true (by pw_d)
                obtain ⟨ad129, e129, hx129_0, hx129_1⟩ := at_T26 HR0.out x5_1 p129 q129
                cases e129
                replace p129 := eq_true p129
                replace q129 := eq_true q129
                have p130 : 0 ≤ (x5_1 : Int) := of_decide_eq_true (by pw_d)
                have q130 : x5_1 < (l1.length : Int) := of_decide_eq_true (by pw_d)
                obtain ⟨ad130, e130, hx130_0, hx130_1⟩ := at_T26 HR1.out x5_1 p130 q130
                cases e130
                replace p130 := eq_true p130
                replace q130 := eq_true q130
                go_wp2
                repeat (go_quiet (fail); try go_wp2)
                go_ret
                exact ⟨by first | rfl | (simp; done) | (simp [*]; done), by repeat (first | exact Drawn0.refl _ | apply Drawn0.step)⟩
              · rw [if_neg c7] at H
                have c7b0 : (!((((rd_T26 l0 x5_1).f0).toList) == (((rd_T26 l1 x5_1).f0).toList)) || (!((((rd_T26 l0 x5_1).f1).toList) == (((rd_T26 l1 x5_1).f1).toList)))) = false := by simpa using c7
                clear c7
                have H' := Aside0.mk H
                clear H
                have p129 : 0 ≤ (x5_1 : Int) := of_decide_eq_true (by pw_d)
                have q129 : x5_1 < (l0.length : Int) := of_decide_eq_true (by pw_d)
                obtain ⟨ad129, e129, hx129_0, hx129_1⟩ := at_T26 HR0.out x5_1 p129 q129
                cases e129
                replace p129 := eq_true p129
                replace q129 := eq_true q129
                have p130 : 0 ≤ (x5_1 : Int) := of_decide_eq_true (by pw_d)
                have q130 : x5_1 < (l1.length : Int) := of_decide_eq_true (by pw_d)
                obtain ⟨ad130, e130, hx130_0, hx130_1⟩ := at_T26 HR1.out x5_1 p130 q130
                cases e130
                replace p130 := eq_true p130
                replace q130 := eq_true q130
                go_wp2
                repeat (go_quiet (fail); try go_wp2)
                go_roundg k1
                case measure => have := HK1.out; omega
                case rel => exact ⟨(wrap64 (x5_1 + 1)), (by first | rfl | (simp; done) | (simp [*]; done)), H', ⟨by have := HK1.out; omega⟩, by repeat (first | exact Drawn0.refl _ | apply Drawn0.step)⟩
            · rw [if_neg c6] at H
              exact absurd H (by simp)
          · rw [if_neg c5] at H
            exact absurd H (by simp)
        · rw [if_neg c4] at H
          have c4b0 : decide (x5_1 < (l0.length : Int)) = false := decide_eq_false c4
          clear c4
          obtain rfl := Option.some.inj H
          go_wp2
          repeat (go_quiet (fail); try go_wp2)
          go_ret
          exact ⟨by first | rfl | (simp; done) | (simp [*]; done), by repeat (first | exact Drawn0.refl _ | apply Drawn0.step)⟩
  · rw [if_neg c3] at H
    have c3b0 : ((l0.length : Int) == (l1.length : Int)) = false := beq_eq_false_iff_ne.mpr c3
    have c3b1 : ((l0.length : Int) != (l1.length : Int)) = true := bne_iff_ne.mpr c3
    have c3b2 : (l0.length == l1.length) = false := by first | simpa using c3 | (simp at c3 ⊢; omega)
    obtain rfl := Option.some.inj H
    go_enter Tryd.func13, Tryd.ntmps13
    go_wp2
    repeat (go_quiet (fail); try go_wp2)
    go_ret
    exact ⟨by first | rfl | (simp; done) | (simp [*]; done), by repeat (first | exact Drawn0.refl _ | apply Drawn0.step)⟩

/-! ### postilionlaw15_wakes: function 14 -/
def postilionlaw15_wakes.f (k : Nat)  : Option (Bool) := (part_Heads.f 0 (⟨#[34, 97, 34]⟩ : ByteArray)).bind fun t131 => (if (t131.length : Int) = 0 then ((part_Heads.f 3 (⟨#[34, 97, 34]⟩ : ByteArray)).bind fun t134 => (if (t134.length : Int) = 2 then ((part_Tag.f k (([(⟨(⟨#[69, 84, 97, 103]⟩ : ByteArray), (⟨#[34, 97, 34]⟩ : ByteArray)⟩ : S26)] : List (S26)))).bind fun t140 => (some (t140.toList == ([34, 97, 34] : List UInt8)))) else (some false))) else (some false))
theorem postilionlaw15_wakes.mono : ∀ k, LeO (postilionlaw15_wakes.f k ) (postilionlaw15_wakes.f (k + 1) ) := by
  intro  k
  unfold postilionlaw15_wakes.f
  repeat' first
      | (with_reducible exact part_Tag.mono _ _)
      | (with_reducible exact LeO.refl _)
      | (with_reducible exact LeO.none _)
      | (with_reducible refine LeO.ite ?_ ?_)
      | (with_reducible refine LeO.bind ?_ (fun _ => ?_))
      | exact part_Tag.mono _ _
      | exact LeO.none _
      | refine LeO.ite ?_ ?_
      | refine LeO.bind ?_ (fun _ => ?_)
set_option maxHeartbeats 8000000 in
set_option maxRecDepth 100000 in
theorem postilionlaw15_wakes.calls (k : Nat)  (r : Bool) (w : World) (hG : Gl w) (h : postilionlaw15_wakes.f k  = some r) :
    Calls Tryd.prog 14 #[] w fun e w' => e = .returned (.bool r) ∧ Below w.heap.size w w' := by
  have hu26 := Tryd.underlying26
  have HB := Aside0.mk (Below.refl w.heap.size w)
  have H : ((part_Heads.f 0 (⟨#[34, 97, 34]⟩ : ByteArray)).bind fun t131 => (if (t131.length : Int) = 0 then ((part_Heads.f 3 (⟨#[34, 97, 34]⟩ : ByteArray)).bind fun t134 => (if (t134.length : Int) = 2 then ((part_Tag.f k (([(⟨(⟨#[69, 84, 97, 103]⟩ : ByteArray), (⟨#[34, 97, 34]⟩ : ByteArray)⟩ : S26)] : List (S26)))).bind fun t140 => (some (t140.toList == ([34, 97, 34] : List UInt8)))) else (some false))) else (some false))) = some r := h
  clear h
  replace H := Option.bind_eq_some_iff.mp H
  obtain ⟨t131, A10, H⟩ := H
  replace H : (if (t131.length : Int) = 0 then ((part_Heads.f 3 (⟨#[34, 97, 34]⟩ : ByteArray)).bind fun t134 => (if (t134.length : Int) = 2 then ((part_Tag.f k (([(⟨(⟨#[69, 84, 97, 103]⟩ : ByteArray), (⟨#[34, 97, 34]⟩ : ByteArray)⟩ : S26)] : List (S26)))).bind fun t140 => (some (t140.toList == ([34, 97, 34] : List UInt8)))) else (some false))) else (some false)) = some r := H
  have A1 := Aside0.mk A10
  clear A10
  by_cases c2 : (t131.length : Int) = 0
  · rw [if_pos c2] at H
    have c2b0 : ((t131.length : Int) == 0) = true := beq_iff_eq.mpr c2
    have c2b1 : ((t131.length : Int) != 0) = false := bne_eq_false_iff_eq.mpr c2
    clear c2
    replace H := Option.bind_eq_some_iff.mp H
    obtain ⟨t134, A30, H⟩ := H
    replace H : (if (t134.length : Int) = 2 then ((part_Tag.f k (([(⟨(⟨#[69, 84, 97, 103]⟩ : ByteArray), (⟨#[34, 97, 34]⟩ : ByteArray)⟩ : S26)] : List (S26)))).bind fun t140 => (some (t140.toList == ([34, 97, 34] : List UInt8)))) else (some false)) = some r := H
    have A3 := Aside0.mk A30
    clear A30
    by_cases c4 : (t134.length : Int) = 2
    · rw [if_pos c4] at H
      have c4b0 : ((t134.length : Int) == 2) = true := beq_iff_eq.mpr c4
      have c4b1 : ((t134.length : Int) != 2) = false := bne_eq_false_iff_eq.mpr c4
      clear c4
      obtain ⟨y137, hy137⟩ : ∃ y_ : List (S26), y_ = (([(⟨(⟨#[69, 84, 97, 103]⟩ : ByteArray), (⟨#[34, 97, 34]⟩ : ByteArray)⟩ : S26)] : List (S26))) := ⟨_, rfl⟩
      replace H : ((part_Tag.f k y137).bind fun t140 => (some (t140.toList == ([34, 97, 34] : List UInt8)))) = some r := by first | (rw [hy137]; with_reducible exact H) | (have H2_ := (Option.bind_some _ _).symm.trans H; rw [hy137]; with_reducible exact H2_) | (have H2_ := (Option.bind_some _ _).symm.trans H; with_reducible exact H2_) | with_reducible exact H | (rw [hy137]; exact H) | exact H
      have Ny137 := Aside0.mk hy137
      clear hy137
      replace H := Option.bind_eq_some_iff.mp H
      obtain ⟨t140, A50, H⟩ := H
      replace H : (some (t140.toList == ([34, 97, 34] : List UInt8))) = some r := H
      have A5 := Aside0.mk A50
      clear A50
      obtain rfl := Option.some.inj H
      go_enter Tryd.func14, Tryd.ntmps14
      go_wp2_with (first | ((with_reducible refine gate_callee (f := 12) rfl ?_); refine goesL_ (some 1) rfl rfl Tryd.func12 (by kernel_rfl) rfl #[.int .i64 0, .string (⟨#[34, 97, 34]⟩ : ByteArray)] rfl (by (pw_m); first | done | rfl | (simp only [List.length_drop, List.length_take]; rfl)) ?_; (with_reducible refine (part_Heads.calls 0 (⟨#[34, 97, 34]⟩ : ByteArray) t131 _ ?side1 A1.out).mono ?_); (case side1 => exact Gl.below hG (by hb1_)); rintro e w6 ⟨v132, rfl, ho0, hb⟩; refine ⟨_, rfl, ?_⟩; have n0_ := Aside0.mk (Kd.R_lower ho0 (below_size (by hb1_))); have n1_ := Aside0.mk (below_step (by hb1_) hb); clear HB; have HO133 := n0_; have HB := n1_; clear n0_ n1_; (try clear hb); (try clear hb2); (try clear hk); (try clear hi); (try clear ho0); obtain ⟨Ao7, co7, eo7⟩ := Kd.R_slice HO133.out; subst eo7) | (go_at_call 12; (with_reducible refine (part_Heads.calls 3 (⟨#[34, 97, 34]⟩ : ByteArray) t134 _ ?side1 A3.out).mono ?_); (case side1 => exact Gl.below hG (by hb1_)); rintro e w8 ⟨v135, rfl, ho0, hb⟩; have n0_ := Aside0.mk (Kd.R_elder' (by (pw_r); exact HO133.out) (Kd.R_base ho0) hb); have n1_ := Aside0.mk (Kd.R_lower (Kd.R_new' ho0 (Kd.R_lt (by (pw_r); exact HO133.out))) (below_size (by hb1_))); have n2_ := Aside0.mk (below_step (by hb1_) hb); clear HO133; clear HB; have HO133 := n0_; have HO136 := n1_; have HB := n2_; clear n0_ n1_ n2_; (try clear hb); (try clear hb2); (try clear hk); (try clear hi); (try clear ho0); obtain ⟨Ao9, co9, eo9⟩ := Kd.R_slice HO136.out; subst eo9) | ((with_reducible refine gate_dst (N := 11) rfl ?_); (try (refine gate_guard (by rfl) ?_; dsimp only)); refine Kd.R_lit k26 _ 26 ?hg (N := 11) ?hd (xs := ([(⟨(⟨#[69, 84, 97, 103]⟩ : ByteArray), (⟨#[34, 97, 34]⟩ : ByteArray)⟩ : S26)] : List (S26))) (inner := [.string (⟨#[69, 84, 97, 103]⟩ : ByteArray), .string (⟨#[34, 97, 34]⟩ : ByteArray)]) (ok := fun _ => True) (okp := fun _ => True) ?hr ?hp (fun _ hk => hk) trivial (Below.refl _ _) (Nat.le_refl _) (by simp) ?_; (case hd => rfl); (case hg => rfl); (case hr => first | (go_simp; done) | (go_simp; rfl)); (case hp => exact (Reps.c2 (show Kd.M k26 _ _ _ (⟨(⟨#[69, 84, 97, 103]⟩ : ByteArray), (⟨#[34, 97, 34]⟩ : ByteArray)⟩ : S26) [.string (⟨#[69, 84, 97, 103]⟩ : ByteArray), .string (⟨#[34, 97, 34]⟩ : ByteArray)] from (k26_mkM _ _ _ (⟨(⟨#[69, 84, 97, 103]⟩ : ByteArray), (⟨#[34, 97, 34]⟩ : ByteArray)⟩ : S26) )) (Reps.none _ _))); intro v138 w10 ho11 hb hg_ hnew_; clear hg_ hnew_; (first | rw [← Ny137.out] at ho11 | (simp only [Int.reduceToNat] at ho11; rw [← Ny137.out] at ho11)); have n0_ := Aside0.mk (Kd.R_elder' (by (pw_r); exact HO133.out) (Kd.R_base ho11) hb); have n1_ := Aside0.mk (Kd.R_elder' (by (pw_r); exact HO136.out) (Kd.R_base ho11) hb); have n2_ := Aside0.mk (Kd.R_lower (Kd.R_new' (Kd.R_new' ho11 (Kd.R_lt (by (pw_r); exact HO133.out))) (Kd.R_lt (by (pw_r); exact HO136.out))) (below_size (by hb1_))); have n3_ := Aside0.mk (below_step (by hb1_) hb); clear HO133; clear HO136; clear HB; have HO133 := n0_; have HO136 := n1_; have HO139 := n2_; have HB := n3_; clear n0_ n1_ n2_ n3_; clear hb ho11; obtain ⟨Ao12, co12, eo12⟩ := Kd.R_slice HO139.out; subst eo12) | (go_at_call 9; (with_reducible refine (part_Tag.calls k _ _ y137 t140 _ ?side1 ?side2 A5.out).mono ?_); (case side1 => repeat (first | exact (Kd.R_reads' HO139.out).2.2 | (with_reducible refine Kd.C_alloc ?_ _) | (with_reducible refine Kd.C_drewN ?_ _) | (with_reducible refine Kd.C_drew ?_))); (case side2 => exact (Kd.R_reads' HO139.out).2.1); rintro e w13 ⟨rfl, hb⟩; have n0_ := Aside0.mk (Kd.R_below (by (pw_r); exact HO133.out) hb); have n1_ := Aside0.mk (Kd.R_below (by (pw_r); exact HO136.out) hb); have n2_ := Aside0.mk (Kd.R_below (by (pw_r); exact HO139.out) hb); have n3_ := Aside0.mk (below_step (by hb1_) hb); clear HO133; clear HO136; clear HO139; clear HB; have HO133 := n0_; have HO136 := n1_; have HO139 := n2_; have HB := n3_; clear n0_ n1_ n2_ n3_; (try clear hb); (try clear hb2); (try clear hk); (try clear hi)))
      go_ret
      exact ⟨by first | rfl | (simp [errW_none, errW_some] <;> rfl) | (simp [*, errW_none, errW_some] <;> rfl), by hb1_⟩
    · rw [if_neg c4] at H
      have c4b0 : ((t134.length : Int) == 2) = false := beq_eq_false_iff_ne.mpr c4
      have c4b1 : ((t134.length : Int) != 2) = true := bne_iff_ne.mpr c4
      obtain rfl := Option.some.inj H
      go_enter Tryd.func14, Tryd.ntmps14
      go_wp2_with (first | ((with_reducible refine gate_callee (f := 12) rfl ?_); refine goesL_ (some 1) rfl rfl Tryd.func12 (by kernel_rfl) rfl #[.int .i64 0, .string (⟨#[34, 97, 34]⟩ : ByteArray)] rfl (by (pw_m); first | done | rfl | (simp only [List.length_drop, List.length_take]; rfl)) ?_; (with_reducible refine (part_Heads.calls 0 (⟨#[34, 97, 34]⟩ : ByteArray) t131 _ ?side1 A1.out).mono ?_); (case side1 => exact Gl.below hG (by hb1_)); rintro e w14 ⟨v132, rfl, ho0, hb⟩; refine ⟨_, rfl, ?_⟩; have n0_ := Aside0.mk (Kd.R_lower ho0 (below_size (by hb1_))); have n1_ := Aside0.mk (below_step (by hb1_) hb); clear HB; have HO133 := n0_; have HB := n1_; clear n0_ n1_; (try clear hb); (try clear hb2); (try clear hk); (try clear hi); (try clear ho0); obtain ⟨Ao15, co15, eo15⟩ := Kd.R_slice HO133.out; subst eo15) | (go_at_call 12; (with_reducible refine (part_Heads.calls 3 (⟨#[34, 97, 34]⟩ : ByteArray) t134 _ ?side1 A3.out).mono ?_); (case side1 => exact Gl.below hG (by hb1_)); rintro e w16 ⟨v135, rfl, ho0, hb⟩; have n0_ := Aside0.mk (Kd.R_elder' (by (pw_r); exact HO133.out) (Kd.R_base ho0) hb); have n1_ := Aside0.mk (Kd.R_lower (Kd.R_new' ho0 (Kd.R_lt (by (pw_r); exact HO133.out))) (below_size (by hb1_))); have n2_ := Aside0.mk (below_step (by hb1_) hb); clear HO133; clear HB; have HO133 := n0_; have HO136 := n1_; have HB := n2_; clear n0_ n1_ n2_; (try clear hb); (try clear hb2); (try clear hk); (try clear hi); (try clear ho0); obtain ⟨Ao17, co17, eo17⟩ := Kd.R_slice HO136.out; subst eo17))
      go_ret
      exact ⟨by first | rfl | (simp [errW_none, errW_some] <;> rfl) | (simp [*, errW_none, errW_some] <;> rfl), by hb1_⟩
  · rw [if_neg c2] at H
    have c2b0 : ((t131.length : Int) == 0) = false := beq_eq_false_iff_ne.mpr c2
    have c2b1 : ((t131.length : Int) != 0) = true := bne_iff_ne.mpr c2
    have c2b2 : ¬ (t131 = []) := fun h_ => c2 (by rw [h_]; rfl)
    obtain rfl := Option.some.inj H
    go_enter Tryd.func14, Tryd.ntmps14
    go_wp2_with (first | ((with_reducible refine gate_callee (f := 12) rfl ?_); refine goesL_ (some 1) rfl rfl Tryd.func12 (by kernel_rfl) rfl #[.int .i64 0, .string (⟨#[34, 97, 34]⟩ : ByteArray)] rfl (by (pw_m); first | done | rfl | (simp only [List.length_drop, List.length_take]; rfl)) ?_; (with_reducible refine (part_Heads.calls 0 (⟨#[34, 97, 34]⟩ : ByteArray) t131 _ ?side1 A1.out).mono ?_); (case side1 => exact Gl.below hG (by hb1_)); rintro e w18 ⟨v132, rfl, ho0, hb⟩; refine ⟨_, rfl, ?_⟩; have n0_ := Aside0.mk (Kd.R_lower ho0 (below_size (by hb1_))); have n1_ := Aside0.mk (below_step (by hb1_) hb); clear HB; have HO133 := n0_; have HB := n1_; clear n0_ n1_; (try clear hb); (try clear hb2); (try clear hk); (try clear hi); (try clear ho0); obtain ⟨Ao19, co19, eo19⟩ := Kd.R_slice HO133.out; subst eo19))
    go_ret
    exact ⟨by first | rfl | (simp [errW_none, errW_some] <;> rfl) | (simp [*, errW_none, errW_some] <;> rfl), by hb1_⟩

/-! ### postilionplay_Bytes: function 23 -/
def postilionplay_Bytes.l0 : Nat → Int → List Int → Int → Int → Option (List Int)
  | 0, _, _, _, _ => none
  | k + 1, x0, x5, x11, x12 => if x12 < x11 then (if 0 ≤ x12 then (if x12 < (x5.length : Int) then (postilionplay_Bytes.l0 k x0 (x5.set (x12 : Int).toNat ((wrap64 (x0 + (wrap64 (x12 * (Go.bits .or .i64 (wrap64 (Int.tdiv x0 5)) 1))))) % 256)) x11 (wrap64 (x12 + 1))) else (none)) else (none)) else (some x5)
def postilionplay_Bytes.f (k : Nat) (a0 : Int) (a1 : Int) : Option (List Int) := if 0 ≤ (mx a1 0) then (if (mx a1 0 : Int).toNat ≤ 281474976710656 then ((some (List.replicate (mx a1 0 : Int).toNat 0 : List Int)).bind fun y141 => (postilionplay_Bytes.l0 k a0 y141 (y141.length : Int) 0)) else (none)) else (none)
theorem postilionplay_Bytes.mono_l : ∀ k, (∀ y0 y1 y2 y3, LeO (postilionplay_Bytes.l0 k y0 y1 y2 y3) (postilionplay_Bytes.l0 (k + 1) y0 y1 y2 y3))
  | 0 => fun _ _ _ _ r h => by simp [postilionplay_Bytes.l0] at h
  | k + 1 => by
    have ih0 := postilionplay_Bytes.mono_l k
    · intro y0 y1 y2 y3
      unfold postilionplay_Bytes.l0
      repeat' first
      | (with_reducible exact ih0 _ _ _ _)
      | (with_reducible exact LeO.refl _)
      | (with_reducible exact LeO.none _)
      | (with_reducible refine LeO.ite ?_ ?_)
      | (with_reducible refine LeO.bind ?_ (fun _ => ?_))
      | exact ih0 _ _ _ _
      | exact LeO.none _
      | refine LeO.ite ?_ ?_
      | refine LeO.bind ?_ (fun _ => ?_)
theorem postilionplay_Bytes.mono : ∀ a0 a1 k, LeO (postilionplay_Bytes.f k a0 a1) (postilionplay_Bytes.f (k + 1) a0 a1) := by
  intro a0 a1 k
  have ih0 := postilionplay_Bytes.mono_l k
  unfold postilionplay_Bytes.f
  repeat' first
      | (with_reducible exact ih0 _ _ _ _)
      | (with_reducible exact LeO.refl _)
      | (with_reducible exact LeO.none _)
      | (with_reducible refine LeO.ite ?_ ?_)
      | (with_reducible refine LeO.bind ?_ (fun _ => ?_))
      | exact ih0 _ _ _ _
      | exact LeO.none _
      | refine LeO.ite ?_ ?_
      | refine LeO.bind ?_ (fun _ => ?_)
set_option maxHeartbeats 8000000 in
set_option maxRecDepth 100000 in
theorem postilionplay_Bytes.calls (k : Nat) (a0 : Int) (a1 : Int) (r : List Int) (w : World) (h : postilionplay_Bytes.f k a0 a1 = some r) :
    Calls Tryd.prog 23 #[.int .i64 a0, .int .i64 a1] w fun e w' => ∃ v0_ : Value, e = .returned (v0_) ∧ Kd.R (Kd.int .u8) 5 w' w.heap.size (fun _ => True) v0_ r ∧ Below w.heap.size w w' := by
  have HB := Aside0.mk (Below.refl w.heap.size w)
  have H : (if 0 ≤ (mx a1 0) then (if (mx a1 0 : Int).toNat ≤ 281474976710656 then ((some (List.replicate (mx a1 0 : Int).toNat 0 : List Int)).bind fun y141 => (postilionplay_Bytes.l0 k a0 y141 (y141.length : Int) 0)) else (none)) else (none)) = some r := h
  clear h
  obtain ⟨ji3, hji3⟩ : ∃ j_ : Int, (mx a1 0) = j_ := ⟨_, rfl⟩
  replace H : (if 0 ≤ (ji3) then (if (ji3 : Int).toNat ≤ 281474976710656 then ((some (List.replicate (ji3 : Int).toNat 0 : List Int)).bind fun y141 => (postilionplay_Bytes.l0 k a0 y141 (y141.length : Int) 0)) else (none)) else (none)) = some r := by first | (rw [hji3] at H; exact H) | (simp only [hji3] at H ⊢; exact H)
  (try (have hji3l : 0 ≤ ji3 := by (rw [← hji3]; unfold mx; (repeat' split) <;> omega)))
  (try (have hji3m : 0 ≤ ji3 := by omega))
  have hji3_ : (if a1 < 0 then 0 else a1) = ji3 := hji3
  by_cases c4 : 0 ≤ (ji3)
  · rw [if_pos c4] at H
    have c4b0 := eq_true c4
    have c4b1 : decide (0 ≤ (ji3)) = true := decide_eq_true c4
    clear c4
    by_cases c5 : (ji3 : Int).toNat ≤ 281474976710656
    · rw [if_pos c5] at H
      have c5b0 := eq_true c5
      have c5b1 : decide ((ji3 : Int).toNat ≤ 281474976710656) = true := decide_eq_true c5
      clear c5
      obtain ⟨y141, hy141⟩ : ∃ y_ : List Int, y_ = (List.replicate (ji3 : Int).toNat 0) := ⟨_, rfl⟩
      replace H : (postilionplay_Bytes.l0 k a0 y141 (y141.length : Int) 0) = some r := by first | (rw [hy141]; with_reducible exact H) | (have H2_ := (Option.bind_some _ _).symm.trans H; rw [hy141]; with_reducible exact H2_) | (have H2_ := (Option.bind_some _ _).symm.trans H; with_reducible exact H2_) | with_reducible exact H | (rw [hy141]; exact H) | exact H
      have Ny141 := Aside0.mk hy141
      clear hy141
      have H' := Aside0.mk H
      clear H
      go_enter Tryd.func23, Tryd.ntmps23
      go_wp2_with (first | ((with_reducible refine gate_dst (N := 9) rfl ?_); refine Kd.R_make (Kd.int .u8) _ 5 rfl (N := 9) rfl 49 _ _ rfl ji3 rfl rfl Tryd.underlying49 (.int .u8 0) 1 info5 rfl (by decide) (by omega) 0 (ok := fun _ => True) (okp := fun _ => True) rfl (fun _ hk => hk) trivial (of_decide_eq_true (by pw_d)) (Nat.le_trans (Nat.mul_le_mul_right _ (of_decide_eq_true (by pw_d) : ji3.toNat ≤ 281474976710656)) (by omega)) (Below.refl _ _) (Nat.le_refl _) ?_; intro v142 w6 ho7 hb hg_ hnew_; clear hg_ hnew_; (first | rw [← Ny141.out] at ho7 | (simp only [Int.reduceToNat] at ho7; rw [← Ny141.out] at ho7)); have n0_ := Aside0.mk (Kd.R_lower ho7 (below_size (by hb1_))); have n1_ := Aside0.mk (below_step (by hb1_) hb); clear HB; have HO143 := n0_; have HB := n1_; clear n0_ n1_; clear hb ho7; obtain ⟨Ao8, co8, eo8⟩ := Kd.R_slice HO143.out; subst eo8))
      go_loopg [12] k (fun kq v12 w' => ∃ (x5_1 : List Int) (x12_1 : Int), v12 = .int .i64 x12_1 ∧ Aside0 (postilionplay_Bytes.l0 kq a0 x5_1 (y141.length : Int) x12_1 = some r) ∧ Aside0 (kq ≤ k) ∧ Aside0 (Kd.R (Kd.int .u8) 5 w' w.heap.size (fun _ => True) (.slice Ao8 y141.length co8) x5_1) ∧ Aside0 (Below w.heap.size w w'))
      case atStart => exact ⟨(y141), (0), (by first | rfl | (simp; done) | (simp [*]; done)), H', ⟨Nat.le_refl _⟩, ⟨by (pw_r); exact HO143.out⟩, ⟨by hb1_⟩⟩
      case round =>
        clear H'
        try clear c2
        try clear p2
        try clear c4
        try clear c4b0
        try clear c4b1
        try clear c5
        try clear c5b0
        try clear c5b1
        obtain ⟨x5_1, x12_1, rfl, HA, HK1, HO_5, HB⟩ := hrel
        have hl5_1 := (Kd.R_reads' HO_5.out).1
        rw [hl5_1] at HO_5
        (try simp only [hl5_1])
        cases gk with
        | zero => exact absurd HA.out (by simp [postilionplay_Bytes.l0])
        | succ k1 =>
          have H := HA.out
          clear HA
          simp only [postilionplay_Bytes.l0] at H
          by_cases c9 : x12_1 < (y141.length : Int)
          · rw [if_pos c9] at H
            have c9b0 : decide (x12_1 < (y141.length : Int)) = true := decide_eq_true c9
            (try simp only [hl5_1] at c9b0)
            clear c9
            by_cases c10 : 0 ≤ x12_1
            · rw [if_pos c10] at H
              have c10b0 : decide (0 ≤ x12_1) = true := decide_eq_true c10
              clear c10
              by_cases c11 : x12_1 < (x5_1.length : Int)
              · rw [if_pos c11] at H
                have c11b0 : decide (x12_1 < (x5_1.length : Int)) = true := decide_eq_true c11
                (try simp only [hl5_1] at c11b0)
                clear c11
                obtain ⟨y144, hy144⟩ : ∃ y_ : List Int, y_ = (x5_1.set (x12_1 : Int).toNat ((wrap64 (a0 + (wrap64 (x12_1 * (Go.bits .or .i64 (wrap64 (Int.tdiv a0 5)) 1))))) % 256)) := ⟨_, rfl⟩
                replace H : (postilionplay_Bytes.l0 k1 a0 y144 (y141.length : Int) (wrap64 (x12_1 + 1))) = some r := by first | (rw [hy144]; with_reducible exact H) | (have H2_ := (Option.bind_some _ _).symm.trans H; rw [hy144]; with_reducible exact H2_) | (have H2_ := (Option.bind_some _ _).symm.trans H; with_reducible exact H2_) | with_reducible exact H | (rw [hy144]; exact H) | exact H
                have Ny144 := Aside0.mk hy144
                clear hy144
                have H' := Aside0.mk H
                clear H
                have p12 : 0 ≤ (x12_1 : Int) := of_decide_eq_true (by pw_d)
                have q12 : (x12_1 : Int) < ((x5_1.length : Int) : Int) := of_decide_eq_true (by pw_d)
                obtain ⟨go12, co12, eo12, gb12, gl12, cl12, HG12⟩ := Kd.R_form HO_5.out (by omega)
                (first | cases eo12 | (injection eo12 with ea_ en_ ec_; (first | subst ea_ | (injection ea_ with ea_; subst ea_)); subst ec_; clear en_))
                have GB12 := Aside0.mk gb12
                have GG12 := Aside0.mk HG12
                clear gb12 gl12 HG12
                obtain ⟨hx12_0, hf12_0⟩ := Kd.R_celln 0 HO_5.out (x12_1 : Int) p12 q12
                replace p12 := eq_true p12
                replace q12 := eq_true q12
                have HP13 := Kd.R_putg HO_5.out (x12_1 : Int) ((wrap64 (a0 + (wrap64 (x12_1 * (Go.bits .or .i64 (wrap64 (Int.tdiv a0 5)) 1))))) % 256)
                go_wp2_with (first | ((with_reducible refine gate_store (t := 5) (p := 25) rfl ?_); refine store_event (t := 5) (p := 25) (v := ?vo_w14) (w1 := (wr.setCell ⟨go12, (x12_1 : Int).toNat, none⟩ (.int .u8 ((wrap64 (a0 + (wrap64 (x12_1 * (Go.bits .or .i64 (wrap64 (Int.tdiv a0 5)) 1))))) % 256)))) ?hg ?ho ?hn ?hr ?_; (case ho => rfl); (case hg => rfl); (case hn => rfl); (case hr => first | (go_simp; done) | (go_simp; rfl)); intro w14 hw; have hg : wr.grownBy w14 (some go12) := (by rw [hw]; exact HP13.2); have hp_ : Kd.R (Kd.int .u8) 5 w14 w.heap.size (fun _ => True) (.slice (some ⟨go12, 0, none⟩) x5_1.length co8) y144 := (by rw [hw, Ny144.out]; exact HP13.1); clear HP13; have n0_ := Aside0.mk (hp_); have n1_ := Aside0.mk ((by rw [hw]; exact below_set (HB.out) GB12.out : Below w.heap.size w w14)); clear HO_5; clear HB; have HO_5 := n0_; have HB := n1_; clear n0_ n1_; clear hg hw hp_))
                (try simp only [← hl5_1])
                go_roundg k1
                case measure => have := HK1.out; omega
                case rel => exact ⟨(y144), (wrap64 (x12_1 + 1)), (by first | rfl | (simp; done) | (simp [*]; done)), H', ⟨by have := HK1.out; omega⟩, ⟨by (try simp only [hl5_1]); (pw_r); exact HO_5.out⟩, ⟨by hb1_⟩⟩
              · rw [if_neg c11] at H
                exact absurd H (by simp)
            · rw [if_neg c10] at H
              exact absurd H (by simp)
          · rw [if_neg c9] at H
            have c9b0 : decide (x12_1 < (y141.length : Int)) = false := decide_eq_false c9
            (try simp only [hl5_1] at c9b0)
            clear c9
            obtain rfl := Option.some.inj H
            go_wp2
            go_ret
            exact ⟨_, by first | rfl | (simp [errW_none, errW_some] <;> rfl) | (simp only [← hji3]; first | rfl | (simp [errW_none, errW_some] <;> rfl)) | (simp [*, errW_none, errW_some] <;> rfl), by (pw_r); exact HO_5.out, by hb1_⟩
    · rw [if_neg c5] at H
      exact absurd H (by simp)
  · rw [if_neg c4] at H
    exact absurd H (by simp)

/-! ### postilionplay_head: function 33 -/
def postilionplay_head.f (a0 : Int) (a1 : ByteArray) : Option (ByteArray × ByteArray) := (some (([(⟨(⟨#[97, 108, 108, 111, 119, 45, 111, 114, 105, 103, 105, 110]⟩ : ByteArray), (⟨#[42]⟩ : ByteArray)⟩ : S26), (⟨(⟨#[65, 108, 108, 111, 119, 45, 79, 114, 105, 103, 105, 110]⟩ : ByteArray), (⟨#[104, 116, 116, 112, 115, 58, 47, 47, 97, 46, 98]⟩ : ByteArray)⟩ : S26), (⟨(⟨#[97, 108, 108, 111, 119, 45, 111, 114, 105, 103, 105, 110]⟩ : ByteArray), (⟨#[110, 117, 108, 108]⟩ : ByteArray)⟩ : S26), (⟨(⟨#[97, 108, 108, 111, 119, 45, 99, 114, 101, 100, 115]⟩ : ByteArray), (⟨#[116, 114, 117, 101]⟩ : ByteArray)⟩ : S26), (⟨(⟨#[97, 108, 108, 111, 119, 45, 109, 101, 116, 104, 111, 100, 115]⟩ : ByteArray), (⟨#[112, 117, 116, 44, 32, 68, 69, 76, 69, 84, 69]⟩ : ByteArray)⟩ : S26), (⟨(⟨#[97, 108, 108, 111, 119, 45, 109, 101, 116, 104, 111, 100, 115]⟩ : ByteArray), (⟨#[42]⟩ : ByteArray)⟩ : S26), (⟨(⟨#[97, 108, 108, 111, 119, 45, 104, 101, 97, 100, 115]⟩ : ByteArray), (⟨#[120, 45, 111, 110, 101, 44, 44, 32, 67, 111, 110, 116, 101, 110, 116, 45, 116, 121, 112, 101]⟩ : ByteArray)⟩ : S26), (⟨(⟨#[97, 108, 108, 111, 119, 45, 104, 101, 97, 100, 115]⟩ : ByteArray), (⟨#[42]⟩ : ByteArray)⟩ : S26), (⟨(⟨#[101, 116, 97, 103]⟩ : ByteArray), (⟨#[34, 97, 34]⟩ : ByteArray)⟩ : S26), (⟨(⟨#[69, 84, 97, 103]⟩ : ByteArray), (⟨#[34, 98, 34]⟩ : ByteArray)⟩ : S26), (⟨(⟨#[101, 116, 97, 103]⟩ : ByteArray), (⟨#[87, 47, 34, 97, 34]⟩ : ByteArray)⟩ : S26), (⟨(⟨#[114, 101, 116, 114, 121, 45, 97, 102, 116, 101, 114]⟩ : ByteArray), (⟨#[53]⟩ : ByteArray)⟩ : S26), (⟨(⟨#[114, 101, 116, 114, 121, 45, 97, 102, 116, 101, 114]⟩ : ByteArray), (⟨#[57, 57]⟩ : ByteArray)⟩ : S26), (⟨(⟨#[114, 101, 116, 114, 121, 45, 97, 102, 116, 101, 114]⟩ : ByteArray), (⟨#[120]⟩ : ByteArray)⟩ : S26), (⟨(⟨#[108, 111, 99, 97, 116, 105, 111, 110]⟩ : ByteArray), (⟨#[104, 116, 116, 112, 115, 58, 47, 47, 99, 46, 100, 47, 112, 63, 113]⟩ : ByteArray)⟩ : S26), (⟨(⟨#[108, 111, 99, 97, 116, 105, 111, 110]⟩ : ByteArray), (⟨#[47, 120]⟩ : ByteArray)⟩ : S26), (⟨(⟨#[108, 111, 99, 97, 116, 105, 111, 110]⟩ : ByteArray), (⟨#[47, 47, 115, 46, 99, 46, 100, 47, 121]⟩ : ByteArray)⟩ : S26), (⟨(⟨#[108, 111, 99, 97, 116, 105, 111, 110]⟩ : ByteArray), (⟨#[104, 116, 116, 112, 58, 47, 47, 97, 46, 98, 47]⟩ : ByteArray)⟩ : S26), (⟨(⟨#[108, 111, 99, 97, 116, 105, 111, 110]⟩ : ByteArray), (⟨#[63]⟩ : ByteArray)⟩ : S26), (⟨(⟨#[99, 111, 110, 116, 101, 110, 116, 45, 114, 97, 110, 103, 101]⟩ : ByteArray), (⟨#[98, 121, 116, 101, 115, 32, 51, 45, 55, 47, 56]⟩ : ByteArray)⟩ : S26), (⟨(⟨#[99, 111, 110, 116, 101, 110, 116, 45, 114, 97, 110, 103, 101]⟩ : ByteArray), (⟨#[98, 121, 116, 101, 115, 32, 48, 45, 55, 47, 56]⟩ : ByteArray)⟩ : S26), (⟨(⟨#[99, 111, 110, 116, 101, 110, 116, 45, 108, 101, 110, 103, 116, 104]⟩ : ByteArray), (⟨#[53]⟩ : ByteArray)⟩ : S26), (⟨(⟨#[99, 111, 110, 116, 101, 110, 116, 45, 108, 101, 110, 103, 116, 104]⟩ : ByteArray), (⟨#[56]⟩ : ByteArray)⟩ : S26), (⟨(⟨#[120]⟩ : ByteArray), a1⟩ : S26)] : List (S26)) : List (S26))).bind fun y146 => ((postilionkeep_Within.f a0 (y146.length : Int)).bind fun t149 => (if 0 ≤ t149 then (if t149 < (y146.length : Int) then (some ((rd_T26 y146 t149).f0, (rd_T26 y146 t149).f1)) else (none)) else (none)))
set_option maxHeartbeats 8000000 in
set_option maxRecDepth 100000 in
theorem postilionplay_head.calls (a0 : Int) (a1 : ByteArray) (r1 : ByteArray) (r2 : ByteArray) (w : World) (h : postilionplay_head.f a0 a1 = some (r1, r2)) :
    Calls Tryd.prog 33 #[.int .i64 a0, .string a1] w fun e w' => e = .returned (.agg #[.string r1, .string r2]) ∧ Below w.heap.size w w' := by
  have hu26 := Tryd.underlying26
  have HB := Aside0.mk (Below.refl w.heap.size w)
  have H : ((some (([(⟨(⟨#[97, 108, 108, 111, 119, 45, 111, 114, 105, 103, 105, 110]⟩ : ByteArray), (⟨#[42]⟩ : ByteArray)⟩ : S26), (⟨(⟨#[65, 108, 108, 111, 119, 45, 79, 114, 105, 103, 105, 110]⟩ : ByteArray), (⟨#[104, 116, 116, 112, 115, 58, 47, 47, 97, 46, 98]⟩ : ByteArray)⟩ : S26), (⟨(⟨#[97, 108, 108, 111, 119, 45, 111, 114, 105, 103, 105, 110]⟩ : ByteArray), (⟨#[110, 117, 108, 108]⟩ : ByteArray)⟩ : S26), (⟨(⟨#[97, 108, 108, 111, 119, 45, 99, 114, 101, 100, 115]⟩ : ByteArray), (⟨#[116, 114, 117, 101]⟩ : ByteArray)⟩ : S26), (⟨(⟨#[97, 108, 108, 111, 119, 45, 109, 101, 116, 104, 111, 100, 115]⟩ : ByteArray), (⟨#[112, 117, 116, 44, 32, 68, 69, 76, 69, 84, 69]⟩ : ByteArray)⟩ : S26), (⟨(⟨#[97, 108, 108, 111, 119, 45, 109, 101, 116, 104, 111, 100, 115]⟩ : ByteArray), (⟨#[42]⟩ : ByteArray)⟩ : S26), (⟨(⟨#[97, 108, 108, 111, 119, 45, 104, 101, 97, 100, 115]⟩ : ByteArray), (⟨#[120, 45, 111, 110, 101, 44, 44, 32, 67, 111, 110, 116, 101, 110, 116, 45, 116, 121, 112, 101]⟩ : ByteArray)⟩ : S26), (⟨(⟨#[97, 108, 108, 111, 119, 45, 104, 101, 97, 100, 115]⟩ : ByteArray), (⟨#[42]⟩ : ByteArray)⟩ : S26), (⟨(⟨#[101, 116, 97, 103]⟩ : ByteArray), (⟨#[34, 97, 34]⟩ : ByteArray)⟩ : S26), (⟨(⟨#[69, 84, 97, 103]⟩ : ByteArray), (⟨#[34, 98, 34]⟩ : ByteArray)⟩ : S26), (⟨(⟨#[101, 116, 97, 103]⟩ : ByteArray), (⟨#[87, 47, 34, 97, 34]⟩ : ByteArray)⟩ : S26), (⟨(⟨#[114, 101, 116, 114, 121, 45, 97, 102, 116, 101, 114]⟩ : ByteArray), (⟨#[53]⟩ : ByteArray)⟩ : S26), (⟨(⟨#[114, 101, 116, 114, 121, 45, 97, 102, 116, 101, 114]⟩ : ByteArray), (⟨#[57, 57]⟩ : ByteArray)⟩ : S26), (⟨(⟨#[114, 101, 116, 114, 121, 45, 97, 102, 116, 101, 114]⟩ : ByteArray), (⟨#[120]⟩ : ByteArray)⟩ : S26), (⟨(⟨#[108, 111, 99, 97, 116, 105, 111, 110]⟩ : ByteArray), (⟨#[104, 116, 116, 112, 115, 58, 47, 47, 99, 46, 100, 47, 112, 63, 113]⟩ : ByteArray)⟩ : S26), (⟨(⟨#[108, 111, 99, 97, 116, 105, 111, 110]⟩ : ByteArray), (⟨#[47, 120]⟩ : ByteArray)⟩ : S26), (⟨(⟨#[108, 111, 99, 97, 116, 105, 111, 110]⟩ : ByteArray), (⟨#[47, 47, 115, 46, 99, 46, 100, 47, 121]⟩ : ByteArray)⟩ : S26), (⟨(⟨#[108, 111, 99, 97, 116, 105, 111, 110]⟩ : ByteArray), (⟨#[104, 116, 116, 112, 58, 47, 47, 97, 46, 98, 47]⟩ : ByteArray)⟩ : S26), (⟨(⟨#[108, 111, 99, 97, 116, 105, 111, 110]⟩ : ByteArray), (⟨#[63]⟩ : ByteArray)⟩ : S26), (⟨(⟨#[99, 111, 110, 116, 101, 110, 116, 45, 114, 97, 110, 103, 101]⟩ : ByteArray), (⟨#[98, 121, 116, 101, 115, 32, 51, 45, 55, 47, 56]⟩ : ByteArray)⟩ : S26), (⟨(⟨#[99, 111, 110, 116, 101, 110, 116, 45, 114, 97, 110, 103, 101]⟩ : ByteArray), (⟨#[98, 121, 116, 101, 115, 32, 48, 45, 55, 47, 56]⟩ : ByteArray)⟩ : S26), (⟨(⟨#[99, 111, 110, 116, 101, 110, 116, 45, 108, 101, 110, 103, 116, 104]⟩ : ByteArray), (⟨#[53]⟩ : ByteArray)⟩ : S26), (⟨(⟨#[99, 111, 110, 116, 101, 110, 116, 45, 108, 101, 110, 103, 116, 104]⟩ : ByteArray), (⟨#[56]⟩ : ByteArray)⟩ : S26), (⟨(⟨#[120]⟩ : ByteArray), a1⟩ : S26)] : List (S26)) : List (S26))).bind fun y146 => ((postilionkeep_Within.f a0 (y146.length : Int)).bind fun t149 => (if 0 ≤ t149 then (if t149 < (y146.length : Int) then (some ((rd_T26 y146 t149).f0, (rd_T26 y146 t149).f1)) else (none)) else (none)))) = some (r1, r2) := h
  clear h
  obtain ⟨y146, hy146⟩ : ∃ y_ : List (S26), y_ = (([(⟨(⟨#[97, 108, 108, 111, 119, 45, 111, 114, 105, 103, 105, 110]⟩ : ByteArray), (⟨#[42]⟩ : ByteArray)⟩ : S26), (⟨(⟨#[65, 108, 108, 111, 119, 45, 79, 114, 105, 103, 105, 110]⟩ : ByteArray), (⟨#[104, 116, 116, 112, 115, 58, 47, 47, 97, 46, 98]⟩ : ByteArray)⟩ : S26), (⟨(⟨#[97, 108, 108, 111, 119, 45, 111, 114, 105, 103, 105, 110]⟩ : ByteArray), (⟨#[110, 117, 108, 108]⟩ : ByteArray)⟩ : S26), (⟨(⟨#[97, 108, 108, 111, 119, 45, 99, 114, 101, 100, 115]⟩ : ByteArray), (⟨#[116, 114, 117, 101]⟩ : ByteArray)⟩ : S26), (⟨(⟨#[97, 108, 108, 111, 119, 45, 109, 101, 116, 104, 111, 100, 115]⟩ : ByteArray), (⟨#[112, 117, 116, 44, 32, 68, 69, 76, 69, 84, 69]⟩ : ByteArray)⟩ : S26), (⟨(⟨#[97, 108, 108, 111, 119, 45, 109, 101, 116, 104, 111, 100, 115]⟩ : ByteArray), (⟨#[42]⟩ : ByteArray)⟩ : S26), (⟨(⟨#[97, 108, 108, 111, 119, 45, 104, 101, 97, 100, 115]⟩ : ByteArray), (⟨#[120, 45, 111, 110, 101, 44, 44, 32, 67, 111, 110, 116, 101, 110, 116, 45, 116, 121, 112, 101]⟩ : ByteArray)⟩ : S26), (⟨(⟨#[97, 108, 108, 111, 119, 45, 104, 101, 97, 100, 115]⟩ : ByteArray), (⟨#[42]⟩ : ByteArray)⟩ : S26), (⟨(⟨#[101, 116, 97, 103]⟩ : ByteArray), (⟨#[34, 97, 34]⟩ : ByteArray)⟩ : S26), (⟨(⟨#[69, 84, 97, 103]⟩ : ByteArray), (⟨#[34, 98, 34]⟩ : ByteArray)⟩ : S26), (⟨(⟨#[101, 116, 97, 103]⟩ : ByteArray), (⟨#[87, 47, 34, 97, 34]⟩ : ByteArray)⟩ : S26), (⟨(⟨#[114, 101, 116, 114, 121, 45, 97, 102, 116, 101, 114]⟩ : ByteArray), (⟨#[53]⟩ : ByteArray)⟩ : S26), (⟨(⟨#[114, 101, 116, 114, 121, 45, 97, 102, 116, 101, 114]⟩ : ByteArray), (⟨#[57, 57]⟩ : ByteArray)⟩ : S26), (⟨(⟨#[114, 101, 116, 114, 121, 45, 97, 102, 116, 101, 114]⟩ : ByteArray), (⟨#[120]⟩ : ByteArray)⟩ : S26), (⟨(⟨#[108, 111, 99, 97, 116, 105, 111, 110]⟩ : ByteArray), (⟨#[104, 116, 116, 112, 115, 58, 47, 47, 99, 46, 100, 47, 112, 63, 113]⟩ : ByteArray)⟩ : S26), (⟨(⟨#[108, 111, 99, 97, 116, 105, 111, 110]⟩ : ByteArray), (⟨#[47, 120]⟩ : ByteArray)⟩ : S26), (⟨(⟨#[108, 111, 99, 97, 116, 105, 111, 110]⟩ : ByteArray), (⟨#[47, 47, 115, 46, 99, 46, 100, 47, 121]⟩ : ByteArray)⟩ : S26), (⟨(⟨#[108, 111, 99, 97, 116, 105, 111, 110]⟩ : ByteArray), (⟨#[104, 116, 116, 112, 58, 47, 47, 97, 46, 98, 47]⟩ : ByteArray)⟩ : S26), (⟨(⟨#[108, 111, 99, 97, 116, 105, 111, 110]⟩ : ByteArray), (⟨#[63]⟩ : ByteArray)⟩ : S26), (⟨(⟨#[99, 111, 110, 116, 101, 110, 116, 45, 114, 97, 110, 103, 101]⟩ : ByteArray), (⟨#[98, 121, 116, 101, 115, 32, 51, 45, 55, 47, 56]⟩ : ByteArray)⟩ : S26), (⟨(⟨#[99, 111, 110, 116, 101, 110, 116, 45, 114, 97, 110, 103, 101]⟩ : ByteArray), (⟨#[98, 121, 116, 101, 115, 32, 48, 45, 55, 47, 56]⟩ : ByteArray)⟩ : S26), (⟨(⟨#[99, 111, 110, 116, 101, 110, 116, 45, 108, 101, 110, 103, 116, 104]⟩ : ByteArray), (⟨#[53]⟩ : ByteArray)⟩ : S26), (⟨(⟨#[99, 111, 110, 116, 101, 110, 116, 45, 108, 101, 110, 103, 116, 104]⟩ : ByteArray), (⟨#[56]⟩ : ByteArray)⟩ : S26), (⟨(⟨#[120]⟩ : ByteArray), a1⟩ : S26)] : List (S26))) := ⟨_, rfl⟩
  replace H : ((postilionkeep_Within.f a0 (y146.length : Int)).bind fun t149 => (if 0 ≤ t149 then (if t149 < (y146.length : Int) then (some ((rd_T26 y146 t149).f0, (rd_T26 y146 t149).f1)) else (none)) else (none))) = some (r1, r2) := by first | (rw [hy146]; with_reducible exact H) | (have H2_ := (Option.bind_some _ _).symm.trans H; rw [hy146]; with_reducible exact H2_) | (have H2_ := (Option.bind_some _ _).symm.trans H; with_reducible exact H2_) | with_reducible exact H | (rw [hy146]; exact H) | exact H
  have Ny146 := Aside0.mk hy146
  clear hy146
  replace H := Option.bind_eq_some_iff.mp H
  obtain ⟨t149, A30, H⟩ := H
  replace H : (if 0 ≤ t149 then (if t149 < (y146.length : Int) then (some ((rd_T26 y146 t149).f0, (rd_T26 y146 t149).f1)) else (none)) else (none)) = some (r1, r2) := H
  have A3 := Aside0.mk A30
  clear A30
  by_cases c4 : 0 ≤ t149
  · rw [if_pos c4] at H
    have c4b0 : decide (0 ≤ t149) = true := decide_eq_true c4
    clear c4
    by_cases c5 : t149 < (y146.length : Int)
    · rw [if_pos c5] at H
      have c5b0 : decide (t149 < (y146.length : Int)) = true := decide_eq_true c5
      clear c5
      simp only [Option.some.injEq, Prod.mk.injEq] at H
      obtain ⟨rfl, rfl⟩ := H
      go_enter Tryd.func33, Tryd.ntmps33
      go_wp2_with (first | ((with_reducible refine gate_dst (N := 4) rfl ?_); refine box_event ?hg (N := 4) ?hd (cs := #[.string (⟨#[]⟩ : ByteArray), .string (⟨#[]⟩ : ByteArray)]) (t := 26) ?hr ?_; (case hd => rfl); (case hg => rfl); (case hr => first | (go_simp; done) | (go_simp; rfl)); intro gb145 hg w6 hbox hb; have n0_ := Aside0.mk (below_step (by hb1_) hb); have n1_ := Aside0.mk (hbox); have n2_ := Aside0.mk ((by rw [hg]; exact (below_size (by hb1_)) : w.heap.size ≤ gb145)); have n3_ := Aside0.mk ((by rw [hg]; exact (below_size (by hb1_)) : w.heap.size ≤ gb145)); clear HB; have HB := n0_; have BK145 := n1_; have GW145 := n2_; have GE145 := n3_; clear n0_ n1_ n2_ n3_; clear hb hbox hg) | ((with_reducible refine gate_dst (N := 31) rfl ?_); refine Kd.R_lit k26 _ 26 ?hg (N := 31) ?hd (xs := ([(⟨(⟨#[97, 108, 108, 111, 119, 45, 111, 114, 105, 103, 105, 110]⟩ : ByteArray), (⟨#[42]⟩ : ByteArray)⟩ : S26), (⟨(⟨#[65, 108, 108, 111, 119, 45, 79, 114, 105, 103, 105, 110]⟩ : ByteArray), (⟨#[104, 116, 116, 112, 115, 58, 47, 47, 97, 46, 98]⟩ : ByteArray)⟩ : S26), (⟨(⟨#[97, 108, 108, 111, 119, 45, 111, 114, 105, 103, 105, 110]⟩ : ByteArray), (⟨#[110, 117, 108, 108]⟩ : ByteArray)⟩ : S26), (⟨(⟨#[97, 108, 108, 111, 119, 45, 99, 114, 101, 100, 115]⟩ : ByteArray), (⟨#[116, 114, 117, 101]⟩ : ByteArray)⟩ : S26), (⟨(⟨#[97, 108, 108, 111, 119, 45, 109, 101, 116, 104, 111, 100, 115]⟩ : ByteArray), (⟨#[112, 117, 116, 44, 32, 68, 69, 76, 69, 84, 69]⟩ : ByteArray)⟩ : S26), (⟨(⟨#[97, 108, 108, 111, 119, 45, 109, 101, 116, 104, 111, 100, 115]⟩ : ByteArray), (⟨#[42]⟩ : ByteArray)⟩ : S26), (⟨(⟨#[97, 108, 108, 111, 119, 45, 104, 101, 97, 100, 115]⟩ : ByteArray), (⟨#[120, 45, 111, 110, 101, 44, 44, 32, 67, 111, 110, 116, 101, 110, 116, 45, 116, 121, 112, 101]⟩ : ByteArray)⟩ : S26), (⟨(⟨#[97, 108, 108, 111, 119, 45, 104, 101, 97, 100, 115]⟩ : ByteArray), (⟨#[42]⟩ : ByteArray)⟩ : S26), (⟨(⟨#[101, 116, 97, 103]⟩ : ByteArray), (⟨#[34, 97, 34]⟩ : ByteArray)⟩ : S26), (⟨(⟨#[69, 84, 97, 103]⟩ : ByteArray), (⟨#[34, 98, 34]⟩ : ByteArray)⟩ : S26), (⟨(⟨#[101, 116, 97, 103]⟩ : ByteArray), (⟨#[87, 47, 34, 97, 34]⟩ : ByteArray)⟩ : S26), (⟨(⟨#[114, 101, 116, 114, 121, 45, 97, 102, 116, 101, 114]⟩ : ByteArray), (⟨#[53]⟩ : ByteArray)⟩ : S26), (⟨(⟨#[114, 101, 116, 114, 121, 45, 97, 102, 116, 101, 114]⟩ : ByteArray), (⟨#[57, 57]⟩ : ByteArray)⟩ : S26), (⟨(⟨#[114, 101, 116, 114, 121, 45, 97, 102, 116, 101, 114]⟩ : ByteArray), (⟨#[120]⟩ : ByteArray)⟩ : S26), (⟨(⟨#[108, 111, 99, 97, 116, 105, 111, 110]⟩ : ByteArray), (⟨#[104, 116, 116, 112, 115, 58, 47, 47, 99, 46, 100, 47, 112, 63, 113]⟩ : ByteArray)⟩ : S26), (⟨(⟨#[108, 111, 99, 97, 116, 105, 111, 110]⟩ : ByteArray), (⟨#[47, 120]⟩ : ByteArray)⟩ : S26), (⟨(⟨#[108, 111, 99, 97, 116, 105, 111, 110]⟩ : ByteArray), (⟨#[47, 47, 115, 46, 99, 46, 100, 47, 121]⟩ : ByteArray)⟩ : S26), (⟨(⟨#[108, 111, 99, 97, 116, 105, 111, 110]⟩ : ByteArray), (⟨#[104, 116, 116, 112, 58, 47, 47, 97, 46, 98, 47]⟩ : ByteArray)⟩ : S26), (⟨(⟨#[108, 111, 99, 97, 116, 105, 111, 110]⟩ : ByteArray), (⟨#[63]⟩ : ByteArray)⟩ : S26), (⟨(⟨#[99, 111, 110, 116, 101, 110, 116, 45, 114, 97, 110, 103, 101]⟩ : ByteArray), (⟨#[98, 121, 116, 101, 115, 32, 51, 45, 55, 47, 56]⟩ : ByteArray)⟩ : S26), (⟨(⟨#[99, 111, 110, 116, 101, 110, 116, 45, 114, 97, 110, 103, 101]⟩ : ByteArray), (⟨#[98, 121, 116, 101, 115, 32, 48, 45, 55, 47, 56]⟩ : ByteArray)⟩ : S26), (⟨(⟨#[99, 111, 110, 116, 101, 110, 116, 45, 108, 101, 110, 103, 116, 104]⟩ : ByteArray), (⟨#[53]⟩ : ByteArray)⟩ : S26), (⟨(⟨#[99, 111, 110, 116, 101, 110, 116, 45, 108, 101, 110, 103, 116, 104]⟩ : ByteArray), (⟨#[56]⟩ : ByteArray)⟩ : S26), (⟨(⟨#[120]⟩ : ByteArray), a1⟩ : S26)] : List (S26))) (inner := [.string (⟨#[97, 108, 108, 111, 119, 45, 111, 114, 105, 103, 105, 110]⟩ : ByteArray), .string (⟨#[42]⟩ : ByteArray), .string (⟨#[65, 108, 108, 111, 119, 45, 79, 114, 105, 103, 105, 110]⟩ : ByteArray), .string (⟨#[104, 116, 116, 112, 115, 58, 47, 47, 97, 46, 98]⟩ : ByteArray), .string (⟨#[97, 108, 108, 111, 119, 45, 111, 114, 105, 103, 105, 110]⟩ : ByteArray), .string (⟨#[110, 117, 108, 108]⟩ : ByteArray), .string (⟨#[97, 108, 108, 111, 119, 45, 99, 114, 101, 100, 115]⟩ : ByteArray), .string (⟨#[116, 114, 117, 101]⟩ : ByteArray), .string (⟨#[97, 108, 108, 111, 119, 45, 109, 101, 116, 104, 111, 100, 115]⟩ : ByteArray), .string (⟨#[112, 117, 116, 44, 32, 68, 69, 76, 69, 84, 69]⟩ : ByteArray), .string (⟨#[97, 108, 108, 111, 119, 45, 109, 101, 116, 104, 111, 100, 115]⟩ : ByteArray), .string (⟨#[42]⟩ : ByteArray), .string (⟨#[97, 108, 108, 111, 119, 45, 104, 101, 97, 100, 115]⟩ : ByteArray), .string (⟨#[120, 45, 111, 110, 101, 44, 44, 32, 67, 111, 110, 116, 101, 110, 116, 45, 116, 121, 112, 101]⟩ : ByteArray), .string (⟨#[97, 108, 108, 111, 119, 45, 104, 101, 97, 100, 115]⟩ : ByteArray), .string (⟨#[42]⟩ : ByteArray), .string (⟨#[101, 116, 97, 103]⟩ : ByteArray), .string (⟨#[34, 97, 34]⟩ : ByteArray), .string (⟨#[69, 84, 97, 103]⟩ : ByteArray), .string (⟨#[34, 98, 34]⟩ : ByteArray), .string (⟨#[101, 116, 97, 103]⟩ : ByteArray), .string (⟨#[87, 47, 34, 97, 34]⟩ : ByteArray), .string (⟨#[114, 101, 116, 114, 121, 45, 97, 102, 116, 101, 114]⟩ : ByteArray), .string (⟨#[53]⟩ : ByteArray), .string (⟨#[114, 101, 116, 114, 121, 45, 97, 102, 116, 101, 114]⟩ : ByteArray), .string (⟨#[57, 57]⟩ : ByteArray), .string (⟨#[114, 101, 116, 114, 121, 45, 97, 102, 116, 101, 114]⟩ : ByteArray), .string (⟨#[120]⟩ : ByteArray), .string (⟨#[108, 111, 99, 97, 116, 105, 111, 110]⟩ : ByteArray), .string (⟨#[104, 116, 116, 112, 115, 58, 47, 47, 99, 46, 100, 47, 112, 63, 113]⟩ : ByteArray), .string (⟨#[108, 111, 99, 97, 116, 105, 111, 110]⟩ : ByteArray), .string (⟨#[47, 120]⟩ : ByteArray), .string (⟨#[108, 111, 99, 97, 116, 105, 111, 110]⟩ : ByteArray), .string (⟨#[47, 47, 115, 46, 99, 46, 100, 47, 121]⟩ : ByteArray), .string (⟨#[108, 111, 99, 97, 116, 105, 111, 110]⟩ : ByteArray), .string (⟨#[104, 116, 116, 112, 58, 47, 47, 97, 46, 98, 47]⟩ : ByteArray), .string (⟨#[108, 111, 99, 97, 116, 105, 111, 110]⟩ : ByteArray), .string (⟨#[63]⟩ : ByteArray), .string (⟨#[99, 111, 110, 116, 101, 110, 116, 45, 114, 97, 110, 103, 101]⟩ : ByteArray), .string (⟨#[98, 121, 116, 101, 115, 32, 51, 45, 55, 47, 56]⟩ : ByteArray), .string (⟨#[99, 111, 110, 116, 101, 110, 116, 45, 114, 97, 110, 103, 101]⟩ : ByteArray), .string (⟨#[98, 121, 116, 101, 115, 32, 48, 45, 55, 47, 56]⟩ : ByteArray), .string (⟨#[99, 111, 110, 116, 101, 110, 116, 45, 108, 101, 110, 103, 116, 104]⟩ : ByteArray), .string (⟨#[53]⟩ : ByteArray), .string (⟨#[99, 111, 110, 116, 101, 110, 116, 45, 108, 101, 110, 103, 116, 104]⟩ : ByteArray), .string (⟨#[56]⟩ : ByteArray), .string (⟨#[120]⟩ : ByteArray), .string a1]) (ok := fun _ => True) (okp := fun _ => True) ?hr ?hp (fun _ hk => hk) trivial (Below.refl _ _) (Nat.le_refl _) (by simp) ?_; (case hd => rfl); (case hg => rfl); (case hr => first | (go_simp; done) | (go_simp; rfl)); (case hp => exact (Reps.c2 (show Kd.M k26 _ _ _ (⟨(⟨#[97, 108, 108, 111, 119, 45, 111, 114, 105, 103, 105, 110]⟩ : ByteArray), (⟨#[42]⟩ : ByteArray)⟩ : S26) [.string (⟨#[97, 108, 108, 111, 119, 45, 111, 114, 105, 103, 105, 110]⟩ : ByteArray), .string (⟨#[42]⟩ : ByteArray)] from (k26_mkM _ _ _ (⟨(⟨#[97, 108, 108, 111, 119, 45, 111, 114, 105, 103, 105, 110]⟩ : ByteArray), (⟨#[42]⟩ : ByteArray)⟩ : S26) )) (Reps.c2 (show Kd.M k26 _ _ _ (⟨(⟨#[65, 108, 108, 111, 119, 45, 79, 114, 105, 103, 105, 110]⟩ : ByteArray), (⟨#[104, 116, 116, 112, 115, 58, 47, 47, 97, 46, 98]⟩ : ByteArray)⟩ : S26) [.string (⟨#[65, 108, 108, 111, 119, 45, 79, 114, 105, 103, 105, 110]⟩ : ByteArray), .string (⟨#[104, 116, 116, 112, 115, 58, 47, 47, 97, 46, 98]⟩ : ByteArray)] from (k26_mkM _ _ _ (⟨(⟨#[65, 108, 108, 111, 119, 45, 79, 114, 105, 103, 105, 110]⟩ : ByteArray), (⟨#[104, 116, 116, 112, 115, 58, 47, 47, 97, 46, 98]⟩ : ByteArray)⟩ : S26) )) (Reps.c2 (show Kd.M k26 _ _ _ (⟨(⟨#[97, 108, 108, 111, 119, 45, 111, 114, 105, 103, 105, 110]⟩ : ByteArray), (⟨#[110, 117, 108, 108]⟩ : ByteArray)⟩ : S26) [.string (⟨#[97, 108, 108, 111, 119, 45, 111, 114, 105, 103, 105, 110]⟩ : ByteArray), .string (⟨#[110, 117, 108, 108]⟩ : ByteArray)] from (k26_mkM _ _ _ (⟨(⟨#[97, 108, 108, 111, 119, 45, 111, 114, 105, 103, 105, 110]⟩ : ByteArray), (⟨#[110, 117, 108, 108]⟩ : ByteArray)⟩ : S26) )) (Reps.c2 (show Kd.M k26 _ _ _ (⟨(⟨#[97, 108, 108, 111, 119, 45, 99, 114, 101, 100, 115]⟩ : ByteArray), (⟨#[116, 114, 117, 101]⟩ : ByteArray)⟩ : S26) [.string (⟨#[97, 108, 108, 111, 119, 45, 99, 114, 101, 100, 115]⟩ : ByteArray), .string (⟨#[116, 114, 117, 101]⟩ : ByteArray)] from (k26_mkM _ _ _ (⟨(⟨#[97, 108, 108, 111, 119, 45, 99, 114, 101, 100, 115]⟩ : ByteArray), (⟨#[116, 114, 117, 101]⟩ : ByteArray)⟩ : S26) )) (Reps.c2 (show Kd.M k26 _ _ _ (⟨(⟨#[97, 108, 108, 111, 119, 45, 109, 101, 116, 104, 111, 100, 115]⟩ : ByteArray), (⟨#[112, 117, 116, 44, 32, 68, 69, 76, 69, 84, 69]⟩ : ByteArray)⟩ : S26) [.string (⟨#[97, 108, 108, 111, 119, 45, 109, 101, 116, 104, 111, 100, 115]⟩ : ByteArray), .string (⟨#[112, 117, 116, 44, 32, 68, 69, 76, 69, 84, 69]⟩ : ByteArray)] from (k26_mkM _ _ _ (⟨(⟨#[97, 108, 108, 111, 119, 45, 109, 101, 116, 104, 111, 100, 115]⟩ : ByteArray), (⟨#[112, 117, 116, 44, 32, 68, 69, 76, 69, 84, 69]⟩ : ByteArray)⟩ : S26) )) (Reps.c2 (show Kd.M k26 _ _ _ (⟨(⟨#[97, 108, 108, 111, 119, 45, 109, 101, 116, 104, 111, 100, 115]⟩ : ByteArray), (⟨#[42]⟩ : ByteArray)⟩ : S26) [.string (⟨#[97, 108, 108, 111, 119, 45, 109, 101, 116, 104, 111, 100, 115]⟩ : ByteArray), .string (⟨#[42]⟩ : ByteArray)] from (k26_mkM _ _ _ (⟨(⟨#[97, 108, 108, 111, 119, 45, 109, 101, 116, 104, 111, 100, 115]⟩ : ByteArray), (⟨#[42]⟩ : ByteArray)⟩ : S26) )) (Reps.c2 (show Kd.M k26 _ _ _ (⟨(⟨#[97, 108, 108, 111, 119, 45, 104, 101, 97, 100, 115]⟩ : ByteArray), (⟨#[120, 45, 111, 110, 101, 44, 44, 32, 67, 111, 110, 116, 101, 110, 116, 45, 116, 121, 112, 101]⟩ : ByteArray)⟩ : S26) [.string (⟨#[97, 108, 108, 111, 119, 45, 104, 101, 97, 100, 115]⟩ : ByteArray), .string (⟨#[120, 45, 111, 110, 101, 44, 44, 32, 67, 111, 110, 116, 101, 110, 116, 45, 116, 121, 112, 101]⟩ : ByteArray)] from (k26_mkM _ _ _ (⟨(⟨#[97, 108, 108, 111, 119, 45, 104, 101, 97, 100, 115]⟩ : ByteArray), (⟨#[120, 45, 111, 110, 101, 44, 44, 32, 67, 111, 110, 116, 101, 110, 116, 45, 116, 121, 112, 101]⟩ : ByteArray)⟩ : S26) )) (Reps.c2 (show Kd.M k26 _ _ _ (⟨(⟨#[97, 108, 108, 111, 119, 45, 104, 101, 97, 100, 115]⟩ : ByteArray), (⟨#[42]⟩ : ByteArray)⟩ : S26) [.string (⟨#[97, 108, 108, 111, 119, 45, 104, 101, 97, 100, 115]⟩ : ByteArray), .string (⟨#[42]⟩ : ByteArray)] from (k26_mkM _ _ _ (⟨(⟨#[97, 108, 108, 111, 119, 45, 104, 101, 97, 100, 115]⟩ : ByteArray), (⟨#[42]⟩ : ByteArray)⟩ : S26) )) (Reps.c2 (show Kd.M k26 _ _ _ (⟨(⟨#[101, 116, 97, 103]⟩ : ByteArray), (⟨#[34, 97, 34]⟩ : ByteArray)⟩ : S26) [.string (⟨#[101, 116, 97, 103]⟩ : ByteArray), .string (⟨#[34, 97, 34]⟩ : ByteArray)] from (k26_mkM _ _ _ (⟨(⟨#[101, 116, 97, 103]⟩ : ByteArray), (⟨#[34, 97, 34]⟩ : ByteArray)⟩ : S26) )) (Reps.c2 (show Kd.M k26 _ _ _ (⟨(⟨#[69, 84, 97, 103]⟩ : ByteArray), (⟨#[34, 98, 34]⟩ : ByteArray)⟩ : S26) [.string (⟨#[69, 84, 97, 103]⟩ : ByteArray), .string (⟨#[34, 98, 34]⟩ : ByteArray)] from (k26_mkM _ _ _ (⟨(⟨#[69, 84, 97, 103]⟩ : ByteArray), (⟨#[34, 98, 34]⟩ : ByteArray)⟩ : S26) )) (Reps.c2 (show Kd.M k26 _ _ _ (⟨(⟨#[101, 116, 97, 103]⟩ : ByteArray), (⟨#[87, 47, 34, 97, 34]⟩ : ByteArray)⟩ : S26) [.string (⟨#[101, 116, 97, 103]⟩ : ByteArray), .string (⟨#[87, 47, 34, 97, 34]⟩ : ByteArray)] from (k26_mkM _ _ _ (⟨(⟨#[101, 116, 97, 103]⟩ : ByteArray), (⟨#[87, 47, 34, 97, 34]⟩ : ByteArray)⟩ : S26) )) (Reps.c2 (show Kd.M k26 _ _ _ (⟨(⟨#[114, 101, 116, 114, 121, 45, 97, 102, 116, 101, 114]⟩ : ByteArray), (⟨#[53]⟩ : ByteArray)⟩ : S26) [.string (⟨#[114, 101, 116, 114, 121, 45, 97, 102, 116, 101, 114]⟩ : ByteArray), .string (⟨#[53]⟩ : ByteArray)] from (k26_mkM _ _ _ (⟨(⟨#[114, 101, 116, 114, 121, 45, 97, 102, 116, 101, 114]⟩ : ByteArray), (⟨#[53]⟩ : ByteArray)⟩ : S26) )) (Reps.c2 (show Kd.M k26 _ _ _ (⟨(⟨#[114, 101, 116, 114, 121, 45, 97, 102, 116, 101, 114]⟩ : ByteArray), (⟨#[57, 57]⟩ : ByteArray)⟩ : S26) [.string (⟨#[114, 101, 116, 114, 121, 45, 97, 102, 116, 101, 114]⟩ : ByteArray), .string (⟨#[57, 57]⟩ : ByteArray)] from (k26_mkM _ _ _ (⟨(⟨#[114, 101, 116, 114, 121, 45, 97, 102, 116, 101, 114]⟩ : ByteArray), (⟨#[57, 57]⟩ : ByteArray)⟩ : S26) )) (Reps.c2 (show Kd.M k26 _ _ _ (⟨(⟨#[114, 101, 116, 114, 121, 45, 97, 102, 116, 101, 114]⟩ : ByteArray), (⟨#[120]⟩ : ByteArray)⟩ : S26) [.string (⟨#[114, 101, 116, 114, 121, 45, 97, 102, 116, 101, 114]⟩ : ByteArray), .string (⟨#[120]⟩ : ByteArray)] from (k26_mkM _ _ _ (⟨(⟨#[114, 101, 116, 114, 121, 45, 97, 102, 116, 101, 114]⟩ : ByteArray), (⟨#[120]⟩ : ByteArray)⟩ : S26) )) (Reps.c2 (show Kd.M k26 _ _ _ (⟨(⟨#[108, 111, 99, 97, 116, 105, 111, 110]⟩ : ByteArray), (⟨#[104, 116, 116, 112, 115, 58, 47, 47, 99, 46, 100, 47, 112, 63, 113]⟩ : ByteArray)⟩ : S26) [.string (⟨#[108, 111, 99, 97, 116, 105, 111, 110]⟩ : ByteArray), .string (⟨#[104, 116, 116, 112, 115, 58, 47, 47, 99, 46, 100, 47, 112, 63, 113]⟩ : ByteArray)] from (k26_mkM _ _ _ (⟨(⟨#[108, 111, 99, 97, 116, 105, 111, 110]⟩ : ByteArray), (⟨#[104, 116, 116, 112, 115, 58, 47, 47, 99, 46, 100, 47, 112, 63, 113]⟩ : ByteArray)⟩ : S26) )) (Reps.c2 (show Kd.M k26 _ _ _ (⟨(⟨#[108, 111, 99, 97, 116, 105, 111, 110]⟩ : ByteArray), (⟨#[47, 120]⟩ : ByteArray)⟩ : S26) [.string (⟨#[108, 111, 99, 97, 116, 105, 111, 110]⟩ : ByteArray), .string (⟨#[47, 120]⟩ : ByteArray)] from (k26_mkM _ _ _ (⟨(⟨#[108, 111, 99, 97, 116, 105, 111, 110]⟩ : ByteArray), (⟨#[47, 120]⟩ : ByteArray)⟩ : S26) )) (Reps.c2 (show Kd.M k26 _ _ _ (⟨(⟨#[108, 111, 99, 97, 116, 105, 111, 110]⟩ : ByteArray), (⟨#[47, 47, 115, 46, 99, 46, 100, 47, 121]⟩ : ByteArray)⟩ : S26) [.string (⟨#[108, 111, 99, 97, 116, 105, 111, 110]⟩ : ByteArray), .string (⟨#[47, 47, 115, 46, 99, 46, 100, 47, 121]⟩ : ByteArray)] from (k26_mkM _ _ _ (⟨(⟨#[108, 111, 99, 97, 116, 105, 111, 110]⟩ : ByteArray), (⟨#[47, 47, 115, 46, 99, 46, 100, 47, 121]⟩ : ByteArray)⟩ : S26) )) (Reps.c2 (show Kd.M k26 _ _ _ (⟨(⟨#[108, 111, 99, 97, 116, 105, 111, 110]⟩ : ByteArray), (⟨#[104, 116, 116, 112, 58, 47, 47, 97, 46, 98, 47]⟩ : ByteArray)⟩ : S26) [.string (⟨#[108, 111, 99, 97, 116, 105, 111, 110]⟩ : ByteArray), .string (⟨#[104, 116, 116, 112, 58, 47, 47, 97, 46, 98, 47]⟩ : ByteArray)] from (k26_mkM _ _ _ (⟨(⟨#[108, 111, 99, 97, 116, 105, 111, 110]⟩ : ByteArray), (⟨#[104, 116, 116, 112, 58, 47, 47, 97, 46, 98, 47]⟩ : ByteArray)⟩ : S26) )) (Reps.c2 (show Kd.M k26 _ _ _ (⟨(⟨#[108, 111, 99, 97, 116, 105, 111, 110]⟩ : ByteArray), (⟨#[63]⟩ : ByteArray)⟩ : S26) [.string (⟨#[108, 111, 99, 97, 116, 105, 111, 110]⟩ : ByteArray), .string (⟨#[63]⟩ : ByteArray)] from (k26_mkM _ _ _ (⟨(⟨#[108, 111, 99, 97, 116, 105, 111, 110]⟩ : ByteArray), (⟨#[63]⟩ : ByteArray)⟩ : S26) )) (Reps.c2 (show Kd.M k26 _ _ _ (⟨(⟨#[99, 111, 110, 116, 101, 110, 116, 45, 114, 97, 110, 103, 101]⟩ : ByteArray), (⟨#[98, 121, 116, 101, 115, 32, 51, 45, 55, 47, 56]⟩ : ByteArray)⟩ : S26) [.string (⟨#[99, 111, 110, 116, 101, 110, 116, 45, 114, 97, 110, 103, 101]⟩ : ByteArray), .string (⟨#[98, 121, 116, 101, 115, 32, 51, 45, 55, 47, 56]⟩ : ByteArray)] from (k26_mkM _ _ _ (⟨(⟨#[99, 111, 110, 116, 101, 110, 116, 45, 114, 97, 110, 103, 101]⟩ : ByteArray), (⟨#[98, 121, 116, 101, 115, 32, 51, 45, 55, 47, 56]⟩ : ByteArray)⟩ : S26) )) (Reps.c2 (show Kd.M k26 _ _ _ (⟨(⟨#[99, 111, 110, 116, 101, 110, 116, 45, 114, 97, 110, 103, 101]⟩ : ByteArray), (⟨#[98, 121, 116, 101, 115, 32, 48, 45, 55, 47, 56]⟩ : ByteArray)⟩ : S26) [.string (⟨#[99, 111, 110, 116, 101, 110, 116, 45, 114, 97, 110, 103, 101]⟩ : ByteArray), .string (⟨#[98, 121, 116, 101, 115, 32, 48, 45, 55, 47, 56]⟩ : ByteArray)] from (k26_mkM _ _ _ (⟨(⟨#[99, 111, 110, 116, 101, 110, 116, 45, 114, 97, 110, 103, 101]⟩ : ByteArray), (⟨#[98, 121, 116, 101, 115, 32, 48, 45, 55, 47, 56]⟩ : ByteArray)⟩ : S26) )) (Reps.c2 (show Kd.M k26 _ _ _ (⟨(⟨#[99, 111, 110, 116, 101, 110, 116, 45, 108, 101, 110, 103, 116, 104]⟩ : ByteArray), (⟨#[53]⟩ : ByteArray)⟩ : S26) [.string (⟨#[99, 111, 110, 116, 101, 110, 116, 45, 108, 101, 110, 103, 116, 104]⟩ : ByteArray), .string (⟨#[53]⟩ : ByteArray)] from (k26_mkM _ _ _ (⟨(⟨#[99, 111, 110, 116, 101, 110, 116, 45, 108, 101, 110, 103, 116, 104]⟩ : ByteArray), (⟨#[53]⟩ : ByteArray)⟩ : S26) )) (Reps.c2 (show Kd.M k26 _ _ _ (⟨(⟨#[99, 111, 110, 116, 101, 110, 116, 45, 108, 101, 110, 103, 116, 104]⟩ : ByteArray), (⟨#[56]⟩ : ByteArray)⟩ : S26) [.string (⟨#[99, 111, 110, 116, 101, 110, 116, 45, 108, 101, 110, 103, 116, 104]⟩ : ByteArray), .string (⟨#[56]⟩ : ByteArray)] from (k26_mkM _ _ _ (⟨(⟨#[99, 111, 110, 116, 101, 110, 116, 45, 108, 101, 110, 103, 116, 104]⟩ : ByteArray), (⟨#[56]⟩ : ByteArray)⟩ : S26) )) (Reps.c2 (show Kd.M k26 _ _ _ (⟨(⟨#[120]⟩ : ByteArray), a1⟩ : S26) [.string (⟨#[120]⟩ : ByteArray), .string a1] from (k26_mkM _ _ _ (⟨(⟨#[120]⟩ : ByteArray), a1⟩ : S26) )) (Reps.none _ _)))))))))))))))))))))))))); intro v147 w7 ho8 hb hg_ hnew_; clear hg_ hnew_; (first | rw [← Ny146.out] at ho8 | (simp only [Int.reduceToNat] at ho8; rw [← Ny146.out] at ho8)); have n0_ := Aside0.mk (Kd.R_lower (Kd.R_newB ho8 (g := gb145) (o := .cells #[.string (⟨#[]⟩ : ByteArray), .string (⟨#[]⟩ : ByteArray)] 26 (0, 0)) (by (pw_b); exact BK145.out)) (below_size (by hb2_))); have n1_ := Aside0.mk (blk_below (g := gb145) (o := .cells #[.string (⟨#[]⟩ : ByteArray), .string (⟨#[]⟩ : ByteArray)] 26 (0, 0)) (by (pw_b); exact BK145.out) hb); have n2_ := Aside0.mk (below_step (by hb2_) hb); clear BK145; clear HB; have HO148 := n0_; have BK145 := n1_; have HB := n2_; clear n0_ n1_ n2_; clear hb ho8; obtain ⟨Ao9, co9, eo9⟩ := Kd.R_slice HO148.out; subst eo9) | ((with_reducible refine gate_callee (f := 11) rfl ?_); refine goesL_ (some 36) rfl rfl Tryd.func11 (by kernel_rfl) rfl #[.int .i64 a0, .int .i64 (y146.length : Int)] rfl (by (pw_m); first | done | rfl | (simp only [List.length_drop, List.length_take]; rfl)) ?_; (with_reducible refine (postilionkeep_Within.calls a0 (y146.length : Int) t149 _ A3.out).mono ?_); rintro e w' ⟨rfl, ⟨nd, rfl⟩⟩; refine ⟨_, rfl, ?_⟩; (try (rw [drewN_self w7]; generalize hq_ : World.drewN w7 _ = w7; have n0_ : Aside0 (Kd.R k26 26 w7 w.heap.size (fun k_ => k_ ≠ gb145) (.slice Ao9 y146.length co9) y146) := ⟨by rw [← hq_]; exact (by (pw_r); exact Kd.R_mono HO148.out (fun _ hk => hk.2))⟩; have n1_ : Aside0 (w7.heap[gb145]? = some (.cells #[.string (⟨#[]⟩ : ByteArray), .string (⟨#[]⟩ : ByteArray)] 26 (0, 0))) := ⟨by rw [← hq_]; exact (by (pw_b); exact BK145.out)⟩; have n2_ : Aside0 (Below w.heap.size w w7) := ⟨by rw [← hq_]; exact (by hb2_)⟩; clear HO148 BK145 HB hq_; have HO148 := n0_; have BK145 := n1_; have HB := n2_; clear n0_ n1_ n2_)); have p150 : 0 ≤ (t149 : Int) := of_decide_eq_true (by pw_d); have q150 : t149 < (y146.length : Int) := of_decide_eq_true (by pw_d); obtain ⟨ad150, e150, hx150_0, hx150_1⟩ := at_T26 (Kd.R_reads' HO148.out).2.2 t149 p150 q150; cases e150; replace p150 := eq_true p150; replace q150 := eq_true q150; have hcz10_0 : w7.cell? ⟨gb145, 0, none⟩ = some (.string (⟨#[]⟩ : ByteArray)) := (blk_cell BK145.out 0).trans rfl; have hcz10_1 : w7.cell? ⟨gb145, 1, none⟩ = some (.string (⟨#[]⟩ : ByteArray)) := (blk_cell BK145.out 1).trans rfl; have hfz10_0 := blk_frozen BK145.out 0; have hfz10_1 := blk_frozen BK145.out 1))
      refine bodyPost_ret (results_cell_row rfl _ _ gb145 26 #[.string ((rd_T26 y146 t149).f0), .string ((rd_T26 y146 t149).f1)] (0, 0) _ rfl (by (pw_b); refine blk_put (cs := #[.string ((rd_T26 y146 t149).f0), .string (⟨#[]⟩ : ByteArray)]) ?_ 1 _ rfl; (pw_b); refine blk_put (cs := #[.string (⟨#[]⟩ : ByteArray), .string (⟨#[]⟩ : ByteArray)]) ?_ 0 _ rfl; (pw_b); exact BK145.out) Tryd.underlying26 rfl (by kernel_rfl)) rfl ?_
      exact ⟨by first | rfl | (simp [errW_none, errW_some] <;> rfl) | (simp [*, errW_none, errW_some] <;> rfl), by hb2_⟩
    · rw [if_neg c5] at H
      exact absurd H (by simp)
  · rw [if_neg c4] at H
    exact absurd H (by simp)

end Go.Proofs.YtiabjeeelgkneaaDoor.GPartTells
