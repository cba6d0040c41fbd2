-- Made by this session's changed copy of the kit's printer (wip/myprint). Not trusted: Lean checks it.
import Derived.Test.YtiabjeeelgkneaaDoorGPartFormsx0
import Derived.Test.YtiabjeeelgkneaaDoorGPartFormsx1
import Derived.Test.YtiabjeeelgkneaaDoorGPartFormsx2
import Derived.Test.YtiabjeeelgkneaaDoorGivP
namespace Go.Proofs.YtiabjeeelgkneaaDoor.GPartForms
open Go.RowKit Go.Proofs.YtiabjeeelgkneaaDoor.GivP Go.Proofs.YtiabjeeelgkneaaDoor.Mw Go.Proofs.YtiabjeeelgkneaaDoorW.PrintWords Go.Proofs.YtiabjeeelgkneaaDoorW.PrintLast Go.Proofs.YtiabjeeelgkneaaDoorW.PrintMore
attribute [local go_sem] max2_int min2_int max_two min_two max_three min_three max_four min_four   -- for this text's walks alone
set_option linter.unusedVariables false
set_option linter.unusedSimpArgs false

attribute [local go_sem high] eqA26
/-! ### api_Head: function 13 -/
def api_Head.l0 : Nat → List (S26) → List (S26) → Int → Option (Bool)
  | 0, _, _, _ => none
  | k + 1, x0, x1, x5 => if x5 < (x0.length : Int) then (if 0 ≤ x5 then (if x5 < (x1.length : Int) then (if (!((((rd_T26 x0 x5).f0).toList) == (((rd_T26 x1 x5).f0).toList)) || (!((((rd_T26 x0 x5).f1).toList) == (((rd_T26 x1 x5).f1).toList)))) = true then (some false) else (api_Head.l0 k x0 x1 (wrap64 (x5 + 1)))) else (none)) else (none)) else (some true)
def api_Head.f (k : Nat) (l0 : List (S26)) (l1 : List (S26)) : Option (Bool) := if (l0.length : Int) = (l1.length : Int) then (api_Head.l0 k l0 l1 0) else (some false)
theorem api_Head.mono_l : ∀ k, (∀ y0 y1 y2, LeO (api_Head.l0 k y0 y1 y2) (api_Head.l0 (k + 1) y0 y1 y2))
  | 0 => fun _ _ _ r h => by simp [api_Head.l0] at h
  | k + 1 => by
    have ih0 := api_Head.mono_l k
    · intro y0 y1 y2
      unfold api_Head.l0
      repeat' first
      | (with_reducible exact ih0 _ _ _)
      | (with_reducible exact LeO.refl _)
      | (with_reducible exact LeO.none _)
      | (with_reducible refine LeO.ite ?_ ?_)
      | (with_reducible refine LeO.bind ?_ (fun _ => ?_))
      | exact ih0 _ _ _
      | exact LeO.none _
      | refine LeO.ite ?_ ?_
      | refine LeO.bind ?_ (fun _ => ?_)
theorem api_Head.mono : ∀ a0 a1 k, LeO (api_Head.f k a0 a1) (api_Head.f (k + 1) a0 a1) := by
  intro a0 a1 k
  have ih0 := api_Head.mono_l k
  unfold api_Head.f
  repeat' first
      | (with_reducible exact ih0 _ _ _)
      | (with_reducible exact LeO.refl _)
      | (with_reducible exact LeO.none _)
      | (with_reducible refine LeO.ite ?_ ?_)
      | (with_reducible refine LeO.bind ?_ (fun _ => ?_))
      | exact ih0 _ _ _
      | exact LeO.none _
      | refine LeO.ite ?_ ?_
      | refine LeO.bind ?_ (fun _ => ?_)
set_option maxHeartbeats 8000000 in
set_option maxRecDepth 100000 in
theorem api_Head.calls (k : Nat) (A0 : Option Addr) (c0 : Nat) (l0 : List (S26)) (A1 : Option Addr) (c1 : Nat) (l1 : List (S26)) (r : Bool) (w : World) (hr0 : Kd.C k26 w A0 l0.length l0) (hc0 : l0.length ≤ c0) (hr1 : Kd.C k26 w A1 l1.length l1) (hc1 : l1.length ≤ c1) (h : api_Head.f k l0 l1 = some r) :
    Calls Tryd.prog 13 #[.slice A0 l0.length c0, .slice A1 l1.length c1] w fun e w' => e = .returned (.bool r) ∧ Drawn0 w w' := by
  have hu26 := Tryd.underlying26
  have HR0 := Aside0.mk hr0
  have HC0 := Aside0.mk hc0
  clear hr0 hc0
  have HR1 := Aside0.mk hr1
  have HC1 := Aside0.mk hc1
  clear hr1 hc1
  have H : (if (l0.length : Int) = (l1.length : Int) then (api_Head.l0 k l0 l1 0) else (some false)) = some r := h
  clear h
  by_cases c3 : (l0.length : Int) = (l1.length : Int)
  · rw [if_pos c3] at H
    have c3b0 : ((l0.length : Int) == (l1.length : Int)) = true := beq_iff_eq.mpr c3
    have c3b1 : ((l0.length : Int) != (l1.length : Int)) = false := bne_eq_false_iff_eq.mpr c3
    have c3b2 : (l0.length == l1.length) = true := by first | simpa using c3 | (simp at c3 ⊢; omega)
    clear c3
    have H' := Aside0.mk H
    clear H
    go_enter Tryd.func13, Tryd.ntmps13
    go_wp2
    repeat (go_quiet (fail); try go_wp2)
    go_loopg [5] k (fun kq v5 w' => ∃ (x5_1 : Int), v5 = .int .i64 x5_1 ∧ Aside0 (api_Head.l0 kq l0 l1 x5_1 = some r) ∧ Aside0 (kq ≤ k) ∧ Drawn0 w w')
    case atStart => exact ⟨(0), (by first | rfl | (simp; done) | (simp [*]; done)), H', ⟨Nat.le_refl _⟩, by repeat (first | exact Drawn0.refl _ | apply Drawn0.step)⟩
    case round =>
      clear H'
      try clear c1
      try clear p2
      try clear c3
      try clear c3b0
      try clear c3b1
      try clear c3b2
      obtain ⟨x5_1, rfl, HA, HK1, ⟨m1, rfl⟩⟩ := hrel
      cases gk with
      | zero => exact absurd HA.out (by simp [api_Head.l0])
      | succ k1 =>
        have H := HA.out
        clear HA
        simp only [api_Head.l0] at H
        by_cases c4 : x5_1 < (l0.length : Int)
        · rw [if_pos c4] at H
          have c4b0 : decide (x5_1 < (l0.length : Int)) = true := decide_eq_true c4
          clear c4
          by_cases c5 : 0 ≤ x5_1
          · rw [if_pos c5] at H
            have c5b0 : decide (0 ≤ x5_1) = true := decide_eq_true c5
            clear c5
            by_cases c6 : x5_1 < (l1.length : Int)
            · rw [if_pos c6] at H
              have c6b0 : decide (x5_1 < (l1.length : Int)) = true := decide_eq_true c6
              clear c6
              by_cases c7 : (!((((rd_T26 l0 x5_1).f0).toList) == (((rd_T26 l1 x5_1).f0).toList)) || (!((((rd_T26 l0 x5_1).f1).toList) == (((rd_T26 l1 x5_1).f1).toList)))) = true
              · rw [if_pos c7] at H
                have c7b0 : (!((((rd_T26 l0 x5_1).f0).toList) == (((rd_T26 l1 x5_1).f0).toList)) || (!((((rd_T26 l0 x5_1).f1).toList) == (((rd_T26 l1 x5_1).f1).toList)))) = true := c7
                clear c7
                obtain rfl := Option.some.inj H
                have p129 : 0 ≤ (x5_1 : Int) := of_decide_eq_true (by first | (with_reducible assumption) | assumption)
                have q129 : x5_1 < (l0.length : Int) := of_decide_eq_true (by first | (with_reducible assumption) | assumption)
                obtain ⟨ad129, e129, hx129_0, hx129_1⟩ := at_T26 HR0.out x5_1 p129 q129
                cases e129
                replace p129 := eq_true p129
                replace q129 := eq_true q129
                have p130 : 0 ≤ (x5_1 : Int) := of_decide_eq_true (by first | (with_reducible assumption) | assumption)
                have q130 : x5_1 < (l1.length : Int) := of_decide_eq_true (by first | (with_reducible assumption) | assumption)
                obtain ⟨ad130, e130, hx130_0, hx130_1⟩ := at_T26 HR1.out x5_1 p130 q130
                cases e130
                replace p130 := eq_true p130
                replace q130 := eq_true q130
                go_wp2
                repeat (go_quiet (fail); try go_wp2)
                go_ret
                exact ⟨by first | rfl | (simp; done) | (simp [*]; done), by repeat (first | exact Drawn0.refl _ | apply Drawn0.step)⟩
              · rw [if_neg c7] at H
                have c7b0 : (!((((rd_T26 l0 x5_1).f0).toList) == (((rd_T26 l1 x5_1).f0).toList)) || (!((((rd_T26 l0 x5_1).f1).toList) == (((rd_T26 l1 x5_1).f1).toList)))) = false := by simpa using c7
                clear c7
                have H' := Aside0.mk H
                clear H
                have p129 : 0 ≤ (x5_1 : Int) := of_decide_eq_true (by first | (with_reducible assumption) | assumption)
                have q129 : x5_1 < (l0.length : Int) := of_decide_eq_true (by first | (with_reducible assumption) | assumption)
                obtain ⟨ad129, e129, hx129_0, hx129_1⟩ := at_T26 HR0.out x5_1 p129 q129
                cases e129
                replace p129 := eq_true p129
                replace q129 := eq_true q129
                have p130 : 0 ≤ (x5_1 : Int) := of_decide_eq_true (by first | (with_reducible assumption) | assumption)
                have q130 : x5_1 < (l1.length : Int) := of_decide_eq_true (by first | (with_reducible assumption) | assumption)
                obtain ⟨ad130, e130, hx130_0, hx130_1⟩ := at_T26 HR1.out x5_1 p130 q130
                cases e130
                replace p130 := eq_true p130
                replace q130 := eq_true q130
                go_wp2
                repeat (go_quiet (fail); try go_wp2)
                go_roundg k1
                case measure => have := HK1.out; omega
                case rel => exact ⟨(wrap64 (x5_1 + 1)), (by first | rfl | (simp; done) | (simp [*]; done)), H', ⟨by have := HK1.out; omega⟩, by repeat (first | exact Drawn0.refl _ | apply Drawn0.step)⟩
            · rw [if_neg c6] at H
              exact absurd H (by simp)
          · rw [if_neg c5] at H
            exact absurd H (by simp)
        · rw [if_neg c4] at H
          have c4b0 : decide (x5_1 < (l0.length : Int)) = false := decide_eq_false c4
          clear c4
          obtain rfl := Option.some.inj H
          go_wp2
          repeat (go_quiet (fail); try go_wp2)
          go_ret
          exact ⟨by first | rfl | (simp; done) | (simp [*]; done), by repeat (first | exact Drawn0.refl _ | apply Drawn0.step)⟩
  · rw [if_neg c3] at H
    have c3b0 : ((l0.length : Int) == (l1.length : Int)) = false := beq_eq_false_iff_ne.mpr c3
    have c3b1 : ((l0.length : Int) != (l1.length : Int)) = true := bne_iff_ne.mpr c3
    have c3b2 : (l0.length == l1.length) = false := by first | simpa using c3 | (simp at c3 ⊢; omega)
    obtain rfl := Option.some.inj H
    go_enter Tryd.func13, Tryd.ntmps13
    go_wp2
    repeat (go_quiet (fail); try go_wp2)
    go_ret
    exact ⟨by first | rfl | (simp; done) | (simp [*]; done), by repeat (first | exact Drawn0.refl _ | apply Drawn0.step)⟩

/-! ### postilionlaw15_wakes: function 14 -/
def postilionlaw15_wakes.f (k : Nat)  : Option (Bool) := (part_Heads.f 0 (⟨#[34, 97, 34]⟩ : ByteArray)).bind fun t131 => (if (t131.length : Int) = 0 then ((part_Heads.f 3 (⟨#[34, 97, 34]⟩ : ByteArray)).bind fun t134 => (if (t134.length : Int) = 2 then ((part_Tag.f k (([(⟨(⟨#[69, 84, 97, 103]⟩ : ByteArray), (⟨#[34, 97, 34]⟩ : ByteArray)⟩ : S26)] : List (S26)))).bind fun t140 => (some (t140.toList == ([34, 97, 34] : List UInt8)))) else (some false))) else (some false))
theorem postilionlaw15_wakes.mono : ∀ k, LeO (postilionlaw15_wakes.f k ) (postilionlaw15_wakes.f (k + 1) ) := by
  intro  k
  unfold postilionlaw15_wakes.f
  repeat' first
      | (with_reducible exact part_Tag.mono _ _)
      | (with_reducible exact LeO.refl _)
      | (with_reducible exact LeO.none _)
      | (with_reducible refine LeO.ite ?_ ?_)
      | (with_reducible refine LeO.bind ?_ (fun _ => ?_))
      | exact part_Tag.mono _ _
      | exact LeO.none _
      | refine LeO.ite ?_ ?_
      | refine LeO.bind ?_ (fun _ => ?_)
set_option maxHeartbeats 8000000 in
set_option maxRecDepth 100000 in
theorem postilionlaw15_wakes.calls (k : Nat)  (r : Bool) (w : World) (hG : Gl w) (h : postilionlaw15_wakes.f k  = some r) :
    Calls Tryd.prog 14 #[] w fun e w' => e = .returned (.bool r) ∧ Below w.heap.size w w' := by
  have hu26 := Tryd.underlying26
  have HB := Aside0.mk (Below.refl w.heap.size w)
  have H : ((part_Heads.f 0 (⟨#[34, 97, 34]⟩ : ByteArray)).bind fun t131 => (if (t131.length : Int) = 0 then ((part_Heads.f 3 (⟨#[34, 97, 34]⟩ : ByteArray)).bind fun t134 => (if (t134.length : Int) = 2 then ((part_Tag.f k (([(⟨(⟨#[69, 84, 97, 103]⟩ : ByteArray), (⟨#[34, 97, 34]⟩ : ByteArray)⟩ : S26)] : List (S26)))).bind fun t140 => (some (t140.toList == ([34, 97, 34] : List UInt8)))) else (some false))) else (some false))) = some r := h
  clear h
  replace H := Option.bind_eq_some_iff.mp H
  obtain ⟨t131, A10, H⟩ := H
  replace H : (if (t131.length : Int) = 0 then ((part_Heads.f 3 (⟨#[34, 97, 34]⟩ : ByteArray)).bind fun t134 => (if (t134.length : Int) = 2 then ((part_Tag.f k (([(⟨(⟨#[69, 84, 97, 103]⟩ : ByteArray), (⟨#[34, 97, 34]⟩ : ByteArray)⟩ : S26)] : List (S26)))).bind fun t140 => (some (t140.toList == ([34, 97, 34] : List UInt8)))) else (some false))) else (some false)) = some r := H
  have A1 := Aside0.mk A10
  clear A10
  by_cases c2 : (t131.length : Int) = 0
  · rw [if_pos c2] at H
    have c2b0 : ((t131.length : Int) == 0) = true := beq_iff_eq.mpr c2
    have c2b1 : ((t131.length : Int) != 0) = false := bne_eq_false_iff_eq.mpr c2
    clear c2
    replace H := Option.bind_eq_some_iff.mp H
    obtain ⟨t134, A30, H⟩ := H
    replace H : (if (t134.length : Int) = 2 then ((part_Tag.f k (([(⟨(⟨#[69, 84, 97, 103]⟩ : ByteArray), (⟨#[34, 97, 34]⟩ : ByteArray)⟩ : S26)] : List (S26)))).bind fun t140 => (some (t140.toList == ([34, 97, 34] : List UInt8)))) else (some false)) = some r := H
    have A3 := Aside0.mk A30
    clear A30
    by_cases c4 : (t134.length : Int) = 2
    · rw [if_pos c4] at H
      have c4b0 : ((t134.length : Int) == 2) = true := beq_iff_eq.mpr c4
      have c4b1 : ((t134.length : Int) != 2) = false := bne_eq_false_iff_eq.mpr c4
      clear c4
      obtain ⟨y137, hy137⟩ : ∃ y_ : List (S26), y_ = (([(⟨(⟨#[69, 84, 97, 103]⟩ : ByteArray), (⟨#[34, 97, 34]⟩ : ByteArray)⟩ : S26)] : List (S26))) := ⟨_, rfl⟩
      replace H : ((part_Tag.f k y137).bind fun t140 => (some (t140.toList == ([34, 97, 34] : List UInt8)))) = some r := by first | (rw [hy137]; with_reducible exact H) | (have H2_ := (Option.bind_some _ _).symm.trans H; rw [hy137]; with_reducible exact H2_) | (have H2_ := (Option.bind_some _ _).symm.trans H; with_reducible exact H2_) | with_reducible exact H | (rw [hy137]; exact H) | exact H
      have Ny137 := Aside0.mk hy137
      clear hy137
      replace H := Option.bind_eq_some_iff.mp H
      obtain ⟨t140, A50, H⟩ := H
      replace H : (some (t140.toList == ([34, 97, 34] : List UInt8))) = some r := H
      have A5 := Aside0.mk A50
      clear A50
      obtain rfl := Option.some.inj H
      go_enter Tryd.func14, Tryd.ntmps14
      go_wp2_with (first | ((with_reducible refine gate_callee (f := 12) rfl ?_); refine goesL_ (some 1) rfl rfl Tryd.func12 (by kernel_rfl) rfl #[.int .i64 0, .string (⟨#[34, 97, 34]⟩ : ByteArray)] rfl (by (try simp only [List.map_toArray, List.map_cons, List.map_nil]); first | done | rfl | (simp only [List.length_drop, List.length_take]; rfl)) ?_; (with_reducible refine (part_Heads.calls 0 (⟨#[34, 97, 34]⟩ : ByteArray) t131 _ ?side1 A1.out).mono ?_); (case side1 => exact Gl.below hG (by repeat (first | (with_reducible first | exact HB.out | apply below_alloc | apply pw_below_drewN | apply below_drew1) | exact HB.out))); rintro e w6 ⟨v132, rfl, ho0, hb⟩; refine ⟨_, rfl, ?_⟩; have n0_ := Aside0.mk (Kd.R_lower ho0 (below_size (by repeat (first | (with_reducible first | exact HB.out | apply below_alloc | apply pw_below_drewN | apply below_drew1) | exact HB.out)))); have n1_ := Aside0.mk (below_step (by repeat (first | (with_reducible first | exact HB.out | apply below_alloc | apply pw_below_drewN | apply below_drew1) | exact HB.out)) hb); clear HB; have HO133 := n0_; have HB := n1_; clear n0_ n1_; (try clear hb); (try clear hb2); (try clear hk); (try clear hi); (try clear ho0); obtain ⟨Ao7, co7, eo7⟩ := Kd.R_slice HO133.out; subst eo7) | (go_at_call 12; (with_reducible refine (part_Heads.calls 3 (⟨#[34, 97, 34]⟩ : ByteArray) t134 _ ?side1 A3.out).mono ?_); (case side1 => exact Gl.below hG (by repeat (first | (with_reducible first | exact HB.out | apply below_alloc | apply pw_below_drewN | apply below_drew1) | exact HB.out))); rintro e w8 ⟨v135, rfl, ho0, hb⟩; have n0_ := Aside0.mk (Kd.R_elder' (by (with_reducible repeat (first | apply Kd.R_alloc | apply Kd.R_drewN | apply Kd.R_drew)); exact HO133.out) (Kd.R_base ho0) hb); have n1_ := Aside0.mk (Kd.R_lower (Kd.R_new' ho0 (Kd.R_lt (by (with_reducible repeat (first | apply Kd.R_alloc | apply Kd.R_drewN | apply Kd.R_drew)); exact HO133.out))) (below_size (by repeat (first | (with_reducible first | exact HB.out | apply below_alloc | apply pw_below_drewN | apply below_drew1) | exact HB.out)))); have n2_ := Aside0.mk (below_step (by repeat (first | (with_reducible first | exact HB.out | apply below_alloc | apply pw_below_drewN | apply below_drew1) | exact HB.out)) hb); clear HO133; clear HB; have HO133 := n0_; have HO136 := n1_; have HB := n2_; clear n0_ n1_ n2_; (try clear hb); (try clear hb2); (try clear hk); (try clear hi); (try clear ho0); obtain ⟨Ao9, co9, eo9⟩ := Kd.R_slice HO136.out; subst eo9) | ((with_reducible refine gate_dst (N := 11) rfl ?_); (try (refine gate_guard (by rfl) ?_; dsimp only)); refine Kd.R_lit k26 _ 26 ?hg (N := 11) ?hd (xs := ([(⟨(⟨#[69, 84, 97, 103]⟩ : ByteArray), (⟨#[34, 97, 34]⟩ : ByteArray)⟩ : S26)] : List (S26))) (inner := [.string (⟨#[69, 84, 97, 103]⟩ : ByteArray), .string (⟨#[34, 97, 34]⟩ : ByteArray)]) (ok := fun _ => True) (okp := fun _ => True) ?hr ?hp (fun _ hk => hk) trivial (Below.refl _ _) (Nat.le_refl _) (by simp) ?_; (case hd => rfl); (case hg => rfl); (case hr => first | (go_simp; done) | (go_simp; rfl)); (case hp => exact (Reps.c2 (show Kd.M k26 _ _ _ (⟨(⟨#[69, 84, 97, 103]⟩ : ByteArray), (⟨#[34, 97, 34]⟩ : ByteArray)⟩ : S26) [.string (⟨#[69, 84, 97, 103]⟩ : ByteArray), .string (⟨#[34, 97, 34]⟩ : ByteArray)] from (k26_mkM _ _ _ (⟨(⟨#[69, 84, 97, 103]⟩ : ByteArray), (⟨#[34, 97, 34]⟩ : ByteArray)⟩ : S26) )) (Reps.none _ _))); intro v138 w10 ho11 hb hg_ hnew_; clear hg_ hnew_; (first | rw [← Ny137.out] at ho11 | (simp only [Int.reduceToNat] at ho11; rw [← Ny137.out] at ho11)); have n0_ := Aside0.mk (Kd.R_elder' (by (with_reducible repeat (first | apply Kd.R_alloc | apply Kd.R_drewN | apply Kd.R_drew)); exact HO133.out) (Kd.R_base ho11) hb); have n1_ := Aside0.mk (Kd.R_elder' (by (with_reducible repeat (first | apply Kd.R_alloc | apply Kd.R_drewN | apply Kd.R_drew)); exact HO136.out) (Kd.R_base ho11) hb); have n2_ := Aside0.mk (Kd.R_lower (Kd.R_new' (Kd.R_new' ho11 (Kd.R_lt (by (with_reducible repeat (first | apply Kd.R_alloc | apply Kd.R_drewN | apply Kd.R_drew)); exact HO133.out))) (Kd.R_lt (by (with_reducible repeat (first | apply Kd.R_alloc | apply Kd.R_drewN | apply Kd.R_drew)); exact HO136.out))) (below_size (by repeat (first | (with_reducible first | exact HB.out | apply below_alloc | apply pw_below_drewN | apply below_drew1) | exact HB.out)))); have n3_ := Aside0.mk (below_step (by repeat (first | (with_reducible first | exact HB.out | apply below_alloc | apply pw_below_drewN | apply below_drew1) | exact HB.out)) hb); clear HO133; clear HO136; clear HB; have HO133 := n0_; have HO136 := n1_; have HO139 := n2_; have HB := n3_; clear n0_ n1_ n2_ n3_; clear hb ho11; obtain ⟨Ao12, co12, eo12⟩ := Kd.R_slice HO139.out; subst eo12) | (go_at_call 9; (with_reducible refine (part_Tag.calls k _ _ y137 t140 _ ?side1 ?side2 A5.out).mono ?_); (case side1 => repeat (first | exact (Kd.R_reads' HO139.out).2.2 | (with_reducible refine Kd.C_alloc ?_ _) | (with_reducible refine Kd.C_drewN ?_ _) | (with_reducible refine Kd.C_drew ?_))); (case side2 => exact (Kd.R_reads' HO139.out).2.1); rintro e w13 ⟨rfl, hb⟩; have n0_ := Aside0.mk (Kd.R_below (by (with_reducible repeat (first | apply Kd.R_alloc | apply Kd.R_drewN | apply Kd.R_drew)); exact HO133.out) hb); have n1_ := Aside0.mk (Kd.R_below (by (with_reducible repeat (first | apply Kd.R_alloc | apply Kd.R_drewN | apply Kd.R_drew)); exact HO136.out) hb); have n2_ := Aside0.mk (Kd.R_below (by (with_reducible repeat (first | apply Kd.R_alloc | apply Kd.R_drewN | apply Kd.R_drew)); exact HO139.out) hb); have n3_ := Aside0.mk (below_step (by repeat (first | (with_reducible first | exact HB.out | apply below_alloc | apply pw_below_drewN | apply below_drew1) | exact HB.out)) hb); clear HO133; clear HO136; clear HO139; clear HB; have HO133 := n0_; have HO136 := n1_; have HO139 := n2_; have HB := n3_; clear n0_ n1_ n2_ n3_; (try clear hb); (try clear hb2); (try clear hk); (try clear hi)))
      go_ret
      exact ⟨by first | rfl | (simp [errW_none, errW_some] <;> rfl) | (simp [*, errW_none, errW_some] <;> rfl), by repeat (first | (with_reducible first | exact HB.out | apply below_alloc | apply pw_below_drewN | apply below_drew1) | exact HB.out)⟩
    · rw [if_neg c4] at H
      have c4b0 : ((t134.length : Int) == 2) = false := beq_eq_false_iff_ne.mpr c4
      have c4b1 : ((t134.length : Int) != 2) = true := bne_iff_ne.mpr c4
      obtain rfl := Option.some.inj H
      go_enter Tryd.func14, Tryd.ntmps14
      go_wp2_with (first | ((with_reducible refine gate_callee (f := 12) rfl ?_); refine goesL_ (some 1) rfl rfl Tryd.func12 (by kernel_rfl) rfl #[.int .i64 0, .string (⟨#[34, 97, 34]⟩ : ByteArray)] rfl (by (try simp only [List.map_toArray, List.map_cons, List.map_nil]); first | done | rfl | (simp only [List.length_drop, List.length_take]; rfl)) ?_; (with_reducible refine (part_Heads.calls 0 (⟨#[34, 97, 34]⟩ : ByteArray) t131 _ ?side1 A1.out).mono ?_); (case side1 => exact Gl.below hG (by repeat (first | (with_reducible first | exact HB.out | apply below_alloc | apply pw_below_drewN | apply below_drew1) | exact HB.out))); rintro e w14 ⟨v132, rfl, ho0, hb⟩; refine ⟨_, rfl, ?_⟩; have n0_ := Aside0.mk (Kd.R_lower ho0 (below_size (by repeat (first | (with_reducible first | exact HB.out | apply below_alloc | apply pw_below_drewN | apply below_drew1) | exact HB.out)))); have n1_ := Aside0.mk (below_step (by repeat (first | (with_reducible first | exact HB.out | apply below_alloc | apply pw_below_drewN | apply below_drew1) | exact HB.out)) hb); clear HB; have HO133 := n0_; have HB := n1_; clear n0_ n1_; (try clear hb); (try clear hb2); (try clear hk); (try clear hi); (try clear ho0); obtain ⟨Ao15, co15, eo15⟩ := Kd.R_slice HO133.out; subst eo15) | (go_at_call 12; (with_reducible refine (part_Heads.calls 3 (⟨#[34, 97, 34]⟩ : ByteArray) t134 _ ?side1 A3.out).mono ?_); (case side1 => exact Gl.below hG (by repeat (first | (with_reducible first | exact HB.out | apply below_alloc | apply pw_below_drewN | apply below_drew1) | exact HB.out))); rintro e w16 ⟨v135, rfl, ho0, hb⟩; have n0_ := Aside0.mk (Kd.R_elder' (by (with_reducible repeat (first | apply Kd.R_alloc | apply Kd.R_drewN | apply Kd.R_drew)); exact HO133.out) (Kd.R_base ho0) hb); have n1_ := Aside0.mk (Kd.R_lower (Kd.R_new' ho0 (Kd.R_lt (by (with_reducible repeat (first | apply Kd.R_alloc | apply Kd.R_drewN | apply Kd.R_drew)); exact HO133.out))) (below_size (by repeat (first | (with_reducible first | exact HB.out | apply below_alloc | apply pw_below_drewN | apply below_drew1) | exact HB.out)))); have n2_ := Aside0.mk (below_step (by repeat (first | (with_reducible first | exact HB.out | apply below_alloc | apply pw_below_drewN | apply below_drew1) | exact HB.out)) hb); clear HO133; clear HB; have HO133 := n0_; have HO136 := n1_; have HB := n2_; clear n0_ n1_ n2_; (try clear hb); (try clear hb2); (try clear hk); (try clear hi); (try clear ho0); obtain ⟨Ao17, co17, eo17⟩ := Kd.R_slice HO136.out; subst eo17))
      go_ret
      exact ⟨by first | rfl | (simp [errW_none, errW_some] <;> rfl) | (simp [*, errW_none, errW_some] <;> rfl), by repeat (first | (with_reducible first | exact HB.out | apply below_alloc | apply pw_below_drewN | apply below_drew1) | exact HB.out)⟩
  · rw [if_neg c2] at H
    have c2b0 : ((t131.length : Int) == 0) = false := beq_eq_false_iff_ne.mpr c2
    have c2b1 : ((t131.length : Int) != 0) = true := bne_iff_ne.mpr c2
    have c2b2 : ¬ (t131 = []) := fun h_ => c2 (by rw [h_]; rfl)
    obtain rfl := Option.some.inj H
    go_enter Tryd.func14, Tryd.ntmps14
    go_wp2_with (first | ((with_reducible refine gate_callee (f := 12) rfl ?_); refine goesL_ (some 1) rfl rfl Tryd.func12 (by kernel_rfl) rfl #[.int .i64 0, .string (⟨#[34, 97, 34]⟩ : ByteArray)] rfl (by (try simp only [List.map_toArray, List.map_cons, List.map_nil]); first | done | rfl | (simp only [List.length_drop, List.length_take]; rfl)) ?_; (with_reducible refine (part_Heads.calls 0 (⟨#[34, 97, 34]⟩ : ByteArray) t131 _ ?side1 A1.out).mono ?_); (case side1 => exact Gl.below hG (by repeat (first | (with_reducible first | exact HB.out | apply below_alloc | apply pw_below_drewN | apply below_drew1) | exact HB.out))); rintro e w18 ⟨v132, rfl, ho0, hb⟩; refine ⟨_, rfl, ?_⟩; have n0_ := Aside0.mk (Kd.R_lower ho0 (below_size (by repeat (first | (with_reducible first | exact HB.out | apply below_alloc | apply pw_below_drewN | apply below_drew1) | exact HB.out)))); have n1_ := Aside0.mk (below_step (by repeat (first | (with_reducible first | exact HB.out | apply below_alloc | apply pw_below_drewN | apply below_drew1) | exact HB.out)) hb); clear HB; have HO133 := n0_; have HB := n1_; clear n0_ n1_; (try clear hb); (try clear hb2); (try clear hk); (try clear hi); (try clear ho0); obtain ⟨Ao19, co19, eo19⟩ := Kd.R_slice HO133.out; subst eo19))
    go_ret
    exact ⟨by first | rfl | (simp [errW_none, errW_some] <;> rfl) | (simp [*, errW_none, errW_some] <;> rfl), by repeat (first | (with_reducible first | exact HB.out | apply below_alloc | apply pw_below_drewN | apply below_drew1) | exact HB.out)⟩

/-! ### postilionlaw15_PartForms: function 3 -/
mutual
def postilionlaw15_PartForms.l0 : Nat → Int → List (S22) → Int → Int → Option (Bool)
  | 0, _, _, _, _ => none
  | k + 1, x0, x26, x27, x28 => if x28 < x27 then (if 0 ≤ x28 then (if x28 < (x26.length : Int) then ((part_Tag.f k (([(⟨(⟨#[120]⟩ : ByteArray), (⟨#[]⟩ : ByteArray)⟩ : S26), (⟨(⟨#[69, 116, 97, 103]⟩ : ByteArray), (rd_T22 x26 x28).f0⟩ : S26), (⟨(⟨#[101, 116, 97, 103]⟩ : ByteArray), (⟨#[34, 122, 34]⟩ : ByteArray)⟩ : S26)] : List (S26)))).bind fun t149 => (if t149.toList = ((rd_T22 x26 x28).f1).toList then (postilionlaw15_PartForms.l0 k x0 x26 x27 (wrap64 (x28 + 1))) else (some false))) else (none)) else (none)) else ((part_Span.f k (⟨#[98, 121, 116, 101, 115, 32, 51, 45, 55, 47, 56]⟩ : ByteArray)).bind fun bt150 => (if bt150.2.2.2 = true then (if bt150.1 = 3 then (if bt150.2.1 = 7 then (postilionlaw15_PartForms.j1 k x0 (bt150.2.2.1 != 8)) else (postilionlaw15_PartForms.j1 k x0 true)) else (postilionlaw15_PartForms.j1 k x0 true)) else (postilionlaw15_PartForms.j1 k x0 true)))
def postilionlaw15_PartForms.j1 : Nat → Int → Bool → Option (Bool)
  | 0, _, _ => none
  | k + 1, x0, x62 => if x62 = true then (some false) else ((some (([(⟨#[]⟩ : ByteArray), (⟨#[98, 121, 116, 101, 115]⟩ : ByteArray), (⟨#[98, 121, 116, 101, 115, 32, 51, 45, 55]⟩ : ByteArray), (⟨#[98, 121, 116, 101, 115, 32, 51, 45, 47, 56]⟩ : ByteArray), (⟨#[98, 121, 116, 101, 115, 32, 45, 55, 47, 56]⟩ : ByteArray), (⟨#[98, 121, 116, 101, 115, 32, 51, 45, 55, 47]⟩ : ByteArray), (⟨#[98, 121, 116, 101, 115, 32, 56, 45, 55, 47, 57]⟩ : ByteArray), (⟨#[98, 121, 116, 101, 115, 32, 51, 45, 56, 47, 56]⟩ : ByteArray), (⟨#[66, 121, 116, 101, 115, 32, 51, 45, 55, 47, 56]⟩ : ByteArray), (⟨#[98, 121, 116, 101, 115, 32, 32, 51, 45, 55, 47, 56]⟩ : ByteArray), (⟨#[98, 121, 116, 101, 115, 32, 51, 45, 55, 47, 56, 32]⟩ : ByteArray), (⟨#[98, 121, 116, 101, 115, 32, 120, 45, 55, 47, 56]⟩ : ByteArray), (⟨#[98, 121, 116, 101, 115, 32, 51, 45, 55, 47, 49, 50, 51, 52, 53, 54, 55]⟩ : ByteArray), (⟨#[98, 121, 116, 101, 115, 32, 42, 47, 56]⟩ : ByteArray), (⟨#[98, 121, 116, 101, 115, 32, 51, 45, 55, 45, 56, 47, 57]⟩ : ByteArray)] : List ByteArray) : List ByteArray)).bind fun y154 => ((postilionkeep_Within.f x0 (y154.length : Int)).bind fun t157 => (if 0 ≤ t157 then (if t157 < (y154.length : Int) then ((part_Span.f k (rdOf ByteArray.empty y154 t157)).bind fun bt159 => ((part_Heads.f 12 (⟨#[34, 116, 34]⟩ : ByteArray)).bind fun t163 => (if bt159.2.2.2 = true then (some false) else ((api_Head.f k t163 (([(⟨(⟨#[82, 97, 110, 103, 101]⟩ : ByteArray), (⟨#[98, 121, 116, 101, 115, 61, 49, 50, 45]⟩ : ByteArray)⟩ : S26), (⟨(⟨#[73, 102, 45, 82, 97, 110, 103, 101]⟩ : ByteArray), (⟨#[34, 116, 34]⟩ : ByteArray)⟩ : S26)] : List (S26)))).bind fun t169 => (if t169 = true then ((part_Heads.f 12 (⟨#[]⟩ : ByteArray)).bind fun t170 => (if (t170.length : Int) = 0 then ((part_Heads.f (-1) (⟨#[34, 116, 34]⟩ : ByteArray)).bind fun t173 => (if (t173.length : Int) = 0 then ((part_Tag.f k ([] : List (S26))).bind fun t176 => (if t176.toList = ([] : List UInt8) then ((postilionlaw15_wakes.f k).bind fun t177 => (some t177)) else (some false))) else (some false))) else (some false))) else (some false)))))) else (none)) else (none))))
end
def postilionlaw15_PartForms.f (k : Nat) (a0 : Int) : Option (Bool) := (some (([(⟨(⟨#[34, 97, 34]⟩ : ByteArray), (⟨#[34, 97, 34]⟩ : ByteArray)⟩ : S22), (⟨(⟨#[34, 49, 50, 51, 52, 53, 54, 55, 56, 57, 48, 34]⟩ : ByteArray), (⟨#[34, 49, 50, 51, 52, 53, 54, 55, 56, 57, 48, 34]⟩ : ByteArray)⟩ : S22), (⟨(⟨#[34, 49, 50, 51, 52, 53, 54, 55, 56, 57, 48, 49, 34]⟩ : ByteArray), (⟨#[]⟩ : ByteArray)⟩ : S22), (⟨(⟨#[34, 34]⟩ : ByteArray), (⟨#[]⟩ : ByteArray)⟩ : S22), (⟨(⟨#[97]⟩ : ByteArray), (⟨#[]⟩ : ByteArray)⟩ : S22), (⟨(⟨#[34, 97]⟩ : ByteArray), (⟨#[]⟩ : ByteArray)⟩ : S22), (⟨(⟨#[87, 47, 34, 97, 34]⟩ : ByteArray), (⟨#[]⟩ : ByteArray)⟩ : S22), (⟨(⟨#[34, 97, 32, 98, 34]⟩ : ByteArray), (⟨#[]⟩ : ByteArray)⟩ : S22), (⟨(⟨#[34, 97, 34, 98, 34]⟩ : ByteArray), (⟨#[]⟩ : ByteArray)⟩ : S22), (⟨(⟨#[34]⟩ : ByteArray), (⟨#[]⟩ : ByteArray)⟩ : S22), (⟨(⟨#[]⟩ : ByteArray), (⟨#[]⟩ : ByteArray)⟩ : S22)] : List (S22)) : List (S22))).bind fun y141 => (postilionlaw15_PartForms.l0 k a0 y141 (y141.length : Int) 0)
theorem postilionlaw15_PartForms.mono_l : ∀ k, (∀ y0 y1 y2 y3, LeO (postilionlaw15_PartForms.l0 k y0 y1 y2 y3) (postilionlaw15_PartForms.l0 (k + 1) y0 y1 y2 y3)) ∧ (∀ y0 y1, LeO (postilionlaw15_PartForms.j1 k y0 y1) (postilionlaw15_PartForms.j1 (k + 1) y0 y1))
  | 0 => ⟨fun _ _ _ _ r h => by simp [postilionlaw15_PartForms.l0] at h, fun _ _ r h => by simp [postilionlaw15_PartForms.j1] at h⟩
  | k + 1 => by
    obtain ⟨ih0, ih1⟩ := postilionlaw15_PartForms.mono_l k
    refine ⟨?_, ?_⟩
    · intro y0 y1 y2 y3
      unfold postilionlaw15_PartForms.l0
      repeat' first
      | (with_reducible exact ih0 _ _ _ _)
      | (with_reducible exact ih1 _ _)
      | (with_reducible exact api_Head.mono _ _ _)
      | (with_reducible exact part_Span.mono _ _)
      | (with_reducible exact part_Tag.mono _ _)
      | (with_reducible exact postilionlaw15_wakes.mono _)
      | (with_reducible exact LeO.refl _)
      | (with_reducible exact LeO.none _)
      | (with_reducible refine LeO.ite ?_ ?_)
      | (with_reducible refine LeO.bind ?_ (fun _ => ?_))
      | exact ih0 _ _ _ _
      | exact ih1 _ _
      | exact api_Head.mono _ _ _
      | exact part_Span.mono _ _
      | exact part_Tag.mono _ _
      | exact postilionlaw15_wakes.mono _
      | exact LeO.none _
      | refine LeO.ite ?_ ?_
      | refine LeO.bind ?_ (fun _ => ?_)
    · intro y0 y1
      unfold postilionlaw15_PartForms.j1
      repeat' first
      | (with_reducible exact ih0 _ _ _ _)
      | (with_reducible exact ih1 _ _)
      | (with_reducible exact api_Head.mono _ _ _)
      | (with_reducible exact part_Span.mono _ _)
      | (with_reducible exact part_Tag.mono _ _)
      | (with_reducible exact postilionlaw15_wakes.mono _)
      | (with_reducible exact LeO.refl _)
      | (with_reducible exact LeO.none _)
      | (with_reducible refine LeO.ite ?_ ?_)
      | (with_reducible refine LeO.bind ?_ (fun _ => ?_))
      | exact ih0 _ _ _ _
      | exact ih1 _ _
      | exact api_Head.mono _ _ _
      | exact part_Span.mono _ _
      | exact part_Tag.mono _ _
      | exact postilionlaw15_wakes.mono _
      | exact LeO.none _
      | refine LeO.ite ?_ ?_
      | refine LeO.bind ?_ (fun _ => ?_)
theorem postilionlaw15_PartForms.mono : ∀ a0 k, LeO (postilionlaw15_PartForms.f k a0) (postilionlaw15_PartForms.f (k + 1) a0) := by
  intro a0 k
  obtain ⟨ih0, ih1⟩ := postilionlaw15_PartForms.mono_l k
  unfold postilionlaw15_PartForms.f
  repeat' first
      | (with_reducible exact ih0 _ _ _ _)
      | (with_reducible exact ih1 _ _)
      | (with_reducible exact api_Head.mono _ _ _)
      | (with_reducible exact part_Span.mono _ _)
      | (with_reducible exact part_Tag.mono _ _)
      | (with_reducible exact postilionlaw15_wakes.mono _)
      | (with_reducible exact LeO.refl _)
      | (with_reducible exact LeO.none _)
      | (with_reducible refine LeO.ite ?_ ?_)
      | (with_reducible refine LeO.bind ?_ (fun _ => ?_))
      | exact ih0 _ _ _ _
      | exact ih1 _ _
      | exact api_Head.mono _ _ _
      | exact part_Span.mono _ _
      | exact part_Tag.mono _ _
      | exact postilionlaw15_wakes.mono _
      | exact LeO.none _
      | refine LeO.ite ?_ ?_
      | refine LeO.bind ?_ (fun _ => ?_)
def postilionlaw15_PartForms.T4 : Bool × List (List Nat × List Nat) := (true, [([], []), ([], []), ([1], [1]), ([2], [2]), ([], []), ([0, 3, 4], [0, 3, 4]), ([5], [5]), ([], []), ([7], [7]), ([6, 8], [6, 8])])
def postilionlaw15_PartForms.B4 : List Nat := [0, 0, 2, 6, 0, 31, 63, 0, 128, 511]
theorem postilionlaw15_PartForms.tab4 : rtab .any (opsOf Tryd.f3 4) = postilionlaw15_PartForms.T4 := by kernel_rfl
theorem postilionlaw15_PartForms.bits4 : waitsOk postilionlaw15_PartForms.T4.2 postilionlaw15_PartForms.B4 = true := by kernel_rfl
set_option maxHeartbeats 8000000 in
set_option maxRecDepth 100000 in
theorem postilionlaw15_PartForms.calls (k : Nat) (a0 : Int) (r : Bool) (w : World) (hG : Gl w) (hT : r = true) (h : postilionlaw15_PartForms.f k a0 = some r) :
    Calls Tryd.prog 3 #[.int .i64 a0] w fun e w' => e = .returned (.bool r) ∧ Below w.heap.size w w' := by
  have hu22 := Tryd.underlying22
  have hu26 := Tryd.underlying26
  have HB := Aside0.mk (Below.refl w.heap.size w)
  have H : ((some (([(⟨(⟨#[34, 97, 34]⟩ : ByteArray), (⟨#[34, 97, 34]⟩ : ByteArray)⟩ : S22), (⟨(⟨#[34, 49, 50, 51, 52, 53, 54, 55, 56, 57, 48, 34]⟩ : ByteArray), (⟨#[34, 49, 50, 51, 52, 53, 54, 55, 56, 57, 48, 34]⟩ : ByteArray)⟩ : S22), (⟨(⟨#[34, 49, 50, 51, 52, 53, 54, 55, 56, 57, 48, 49, 34]⟩ : ByteArray), (⟨#[]⟩ : ByteArray)⟩ : S22), (⟨(⟨#[34, 34]⟩ : ByteArray), (⟨#[]⟩ : ByteArray)⟩ : S22), (⟨(⟨#[97]⟩ : ByteArray), (⟨#[]⟩ : ByteArray)⟩ : S22), (⟨(⟨#[34, 97]⟩ : ByteArray), (⟨#[]⟩ : ByteArray)⟩ : S22), (⟨(⟨#[87, 47, 34, 97, 34]⟩ : ByteArray), (⟨#[]⟩ : ByteArray)⟩ : S22), (⟨(⟨#[34, 97, 32, 98, 34]⟩ : ByteArray), (⟨#[]⟩ : ByteArray)⟩ : S22), (⟨(⟨#[34, 97, 34, 98, 34]⟩ : ByteArray), (⟨#[]⟩ : ByteArray)⟩ : S22), (⟨(⟨#[34]⟩ : ByteArray), (⟨#[]⟩ : ByteArray)⟩ : S22), (⟨(⟨#[]⟩ : ByteArray), (⟨#[]⟩ : ByteArray)⟩ : S22)] : List (S22)) : List (S22))).bind fun y141 => (postilionlaw15_PartForms.l0 k a0 y141 (y141.length : Int) 0)) = some r := h
  clear h
  obtain ⟨y141, hy141⟩ : ∃ y_ : List (S22), y_ = (([(⟨(⟨#[34, 97, 34]⟩ : ByteArray), (⟨#[34, 97, 34]⟩ : ByteArray)⟩ : S22), (⟨(⟨#[34, 49, 50, 51, 52, 53, 54, 55, 56, 57, 48, 34]⟩ : ByteArray), (⟨#[34, 49, 50, 51, 52, 53, 54, 55, 56, 57, 48, 34]⟩ : ByteArray)⟩ : S22), (⟨(⟨#[34, 49, 50, 51, 52, 53, 54, 55, 56, 57, 48, 49, 34]⟩ : ByteArray), (⟨#[]⟩ : ByteArray)⟩ : S22), (⟨(⟨#[34, 34]⟩ : ByteArray), (⟨#[]⟩ : ByteArray)⟩ : S22), (⟨(⟨#[97]⟩ : ByteArray), (⟨#[]⟩ : ByteArray)⟩ : S22), (⟨(⟨#[34, 97]⟩ : ByteArray), (⟨#[]⟩ : ByteArray)⟩ : S22), (⟨(⟨#[87, 47, 34, 97, 34]⟩ : ByteArray), (⟨#[]⟩ : ByteArray)⟩ : S22), (⟨(⟨#[34, 97, 32, 98, 34]⟩ : ByteArray), (⟨#[]⟩ : ByteArray)⟩ : S22), (⟨(⟨#[34, 97, 34, 98, 34]⟩ : ByteArray), (⟨#[]⟩ : ByteArray)⟩ : S22), (⟨(⟨#[34]⟩ : ByteArray), (⟨#[]⟩ : ByteArray)⟩ : S22), (⟨(⟨#[]⟩ : ByteArray), (⟨#[]⟩ : ByteArray)⟩ : S22)] : List (S22))) := ⟨_, rfl⟩
  replace H : (postilionlaw15_PartForms.l0 k a0 y141 (y141.length : Int) 0) = some r := by first | (rw [hy141]; with_reducible exact H) | (have H2_ := (Option.bind_some _ _).symm.trans H; rw [hy141]; with_reducible exact H2_) | (have H2_ := (Option.bind_some _ _).symm.trans H; with_reducible exact H2_) | with_reducible exact H | (rw [hy141]; exact H) | exact H
  have Ny141 := Aside0.mk hy141
  clear hy141
  have H' := Aside0.mk H
  clear H
  go_enter Tryd.func3, Tryd.ntmps3
  go_wp2_with (first | ((with_reducible refine gate_dst (N := 26) rfl ?_); (try (refine gate_guard (by rfl) ?_; dsimp only)); refine Kd.R_lit k22 _ 22 ?hg (N := 26) ?hd (xs := ([(⟨(⟨#[34, 97, 34]⟩ : ByteArray), (⟨#[34, 97, 34]⟩ : ByteArray)⟩ : S22), (⟨(⟨#[34, 49, 50, 51, 52, 53, 54, 55, 56, 57, 48, 34]⟩ : ByteArray), (⟨#[34, 49, 50, 51, 52, 53, 54, 55, 56, 57, 48, 34]⟩ : ByteArray)⟩ : S22), (⟨(⟨#[34, 49, 50, 51, 52, 53, 54, 55, 56, 57, 48, 49, 34]⟩ : ByteArray), (⟨#[]⟩ : ByteArray)⟩ : S22), (⟨(⟨#[34, 34]⟩ : ByteArray), (⟨#[]⟩ : ByteArray)⟩ : S22), (⟨(⟨#[97]⟩ : ByteArray), (⟨#[]⟩ : ByteArray)⟩ : S22), (⟨(⟨#[34, 97]⟩ : ByteArray), (⟨#[]⟩ : ByteArray)⟩ : S22), (⟨(⟨#[87, 47, 34, 97, 34]⟩ : ByteArray), (⟨#[]⟩ : ByteArray)⟩ : S22), (⟨(⟨#[34, 97, 32, 98, 34]⟩ : ByteArray), (⟨#[]⟩ : ByteArray)⟩ : S22), (⟨(⟨#[34, 97, 34, 98, 34]⟩ : ByteArray), (⟨#[]⟩ : ByteArray)⟩ : S22), (⟨(⟨#[34]⟩ : ByteArray), (⟨#[]⟩ : ByteArray)⟩ : S22), (⟨(⟨#[]⟩ : ByteArray), (⟨#[]⟩ : ByteArray)⟩ : S22)] : List (S22))) (inner := [.string (⟨#[34, 97, 34]⟩ : ByteArray), .string (⟨#[34, 97, 34]⟩ : ByteArray), .string (⟨#[34, 49, 50, 51, 52, 53, 54, 55, 56, 57, 48, 34]⟩ : ByteArray), .string (⟨#[34, 49, 50, 51, 52, 53, 54, 55, 56, 57, 48, 34]⟩ : ByteArray), .string (⟨#[34, 49, 50, 51, 52, 53, 54, 55, 56, 57, 48, 49, 34]⟩ : ByteArray), .string (⟨#[]⟩ : ByteArray), .string (⟨#[34, 34]⟩ : ByteArray), .string (⟨#[]⟩ : ByteArray), .string (⟨#[97]⟩ : ByteArray), .string (⟨#[]⟩ : ByteArray), .string (⟨#[34, 97]⟩ : ByteArray), .string (⟨#[]⟩ : ByteArray), .string (⟨#[87, 47, 34, 97, 34]⟩ : ByteArray), .string (⟨#[]⟩ : ByteArray), .string (⟨#[34, 97, 32, 98, 34]⟩ : ByteArray), .string (⟨#[]⟩ : ByteArray), .string (⟨#[34, 97, 34, 98, 34]⟩ : ByteArray), .string (⟨#[]⟩ : ByteArray), .string (⟨#[34]⟩ : ByteArray), .string (⟨#[]⟩ : ByteArray), .string (⟨#[]⟩ : ByteArray), .string (⟨#[]⟩ : ByteArray)]) (ok := fun _ => True) (okp := fun _ => True) ?hr ?hp (fun _ hk => hk) trivial (Below.refl _ _) (Nat.le_refl _) (by simp) ?_; (case hd => rfl); (case hg => rfl); (case hr => first | (go_simp; done) | (go_simp; rfl)); (case hp => exact (Reps.c2 (show Kd.M k22 _ _ _ (⟨(⟨#[34, 97, 34]⟩ : ByteArray), (⟨#[34, 97, 34]⟩ : ByteArray)⟩ : S22) [.string (⟨#[34, 97, 34]⟩ : ByteArray), .string (⟨#[34, 97, 34]⟩ : ByteArray)] from (k22_mkM _ _ _ (⟨(⟨#[34, 97, 34]⟩ : ByteArray), (⟨#[34, 97, 34]⟩ : ByteArray)⟩ : S22) )) (Reps.c2 (show Kd.M k22 _ _ _ (⟨(⟨#[34, 49, 50, 51, 52, 53, 54, 55, 56, 57, 48, 34]⟩ : ByteArray), (⟨#[34, 49, 50, 51, 52, 53, 54, 55, 56, 57, 48, 34]⟩ : ByteArray)⟩ : S22) [.string (⟨#[34, 49, 50, 51, 52, 53, 54, 55, 56, 57, 48, 34]⟩ : ByteArray), .string (⟨#[34, 49, 50, 51, 52, 53, 54, 55, 56, 57, 48, 34]⟩ : ByteArray)] from (k22_mkM _ _ _ (⟨(⟨#[34, 49, 50, 51, 52, 53, 54, 55, 56, 57, 48, 34]⟩ : ByteArray), (⟨#[34, 49, 50, 51, 52, 53, 54, 55, 56, 57, 48, 34]⟩ : ByteArray)⟩ : S22) )) (Reps.c2 (show Kd.M k22 _ _ _ (⟨(⟨#[34, 49, 50, 51, 52, 53, 54, 55, 56, 57, 48, 49, 34]⟩ : ByteArray), (⟨#[]⟩ : ByteArray)⟩ : S22) [.string (⟨#[34, 49, 50, 51, 52, 53, 54, 55, 56, 57, 48, 49, 34]⟩ : ByteArray), .string (⟨#[]⟩ : ByteArray)] from (k22_mkM _ _ _ (⟨(⟨#[34, 49, 50, 51, 52, 53, 54, 55, 56, 57, 48, 49, 34]⟩ : ByteArray), (⟨#[]⟩ : ByteArray)⟩ : S22) )) (Reps.c2 (show Kd.M k22 _ _ _ (⟨(⟨#[34, 34]⟩ : ByteArray), (⟨#[]⟩ : ByteArray)⟩ : S22) [.string (⟨#[34, 34]⟩ : ByteArray), .string (⟨#[]⟩ : ByteArray)] from (k22_mkM _ _ _ (⟨(⟨#[34, 34]⟩ : ByteArray), (⟨#[]⟩ : ByteArray)⟩ : S22) )) (Reps.c2 (show Kd.M k22 _ _ _ (⟨(⟨#[97]⟩ : ByteArray), (⟨#[]⟩ : ByteArray)⟩ : S22) [.string (⟨#[97]⟩ : ByteArray), .string (⟨#[]⟩ : ByteArray)] from (k22_mkM _ _ _ (⟨(⟨#[97]⟩ : ByteArray), (⟨#[]⟩ : ByteArray)⟩ : S22) )) (Reps.c2 (show Kd.M k22 _ _ _ (⟨(⟨#[34, 97]⟩ : ByteArray), (⟨#[]⟩ : ByteArray)⟩ : S22) [.string (⟨#[34, 97]⟩ : ByteArray), .string (⟨#[]⟩ : ByteArray)] from (k22_mkM _ _ _ (⟨(⟨#[34, 97]⟩ : ByteArray), (⟨#[]⟩ : ByteArray)⟩ : S22) )) (Reps.c2 (show Kd.M k22 _ _ _ (⟨(⟨#[87, 47, 34, 97, 34]⟩ : ByteArray), (⟨#[]⟩ : ByteArray)⟩ : S22) [.string (⟨#[87, 47, 34, 97, 34]⟩ : ByteArray), .string (⟨#[]⟩ : ByteArray)] from (k22_mkM _ _ _ (⟨(⟨#[87, 47, 34, 97, 34]⟩ : ByteArray), (⟨#[]⟩ : ByteArray)⟩ : S22) )) (Reps.c2 (show Kd.M k22 _ _ _ (⟨(⟨#[34, 97, 32, 98, 34]⟩ : ByteArray), (⟨#[]⟩ : ByteArray)⟩ : S22) [.string (⟨#[34, 97, 32, 98, 34]⟩ : ByteArray), .string (⟨#[]⟩ : ByteArray)] from (k22_mkM _ _ _ (⟨(⟨#[34, 97, 32, 98, 34]⟩ : ByteArray), (⟨#[]⟩ : ByteArray)⟩ : S22) )) (Reps.c2 (show Kd.M k22 _ _ _ (⟨(⟨#[34, 97, 34, 98, 34]⟩ : ByteArray), (⟨#[]⟩ : ByteArray)⟩ : S22) [.string (⟨#[34, 97, 34, 98, 34]⟩ : ByteArray), .string (⟨#[]⟩ : ByteArray)] from (k22_mkM _ _ _ (⟨(⟨#[34, 97, 34, 98, 34]⟩ : ByteArray), (⟨#[]⟩ : ByteArray)⟩ : S22) )) (Reps.c2 (show Kd.M k22 _ _ _ (⟨(⟨#[34]⟩ : ByteArray), (⟨#[]⟩ : ByteArray)⟩ : S22) [.string (⟨#[34]⟩ : ByteArray), .string (⟨#[]⟩ : ByteArray)] from (k22_mkM _ _ _ (⟨(⟨#[34]⟩ : ByteArray), (⟨#[]⟩ : ByteArray)⟩ : S22) )) (Reps.c2 (show Kd.M k22 _ _ _ (⟨(⟨#[]⟩ : ByteArray), (⟨#[]⟩ : ByteArray)⟩ : S22) [.string (⟨#[]⟩ : ByteArray), .string (⟨#[]⟩ : ByteArray)] from (k22_mkM _ _ _ (⟨(⟨#[]⟩ : ByteArray), (⟨#[]⟩ : ByteArray)⟩ : S22) )) (Reps.none _ _))))))))))))); intro v142 w2 ho3 hb hg_ hnew_; clear hg_ hnew_; (first | rw [← Ny141.out] at ho3 | (simp only [Int.reduceToNat] at ho3; rw [← Ny141.out] at ho3)); have n0_ := Aside0.mk (Kd.R_lower ho3 (below_size (by repeat (first | (with_reducible first | exact HB.out | apply below_alloc | apply pw_below_drewN | apply below_drew1) | exact HB.out)))); have n1_ := Aside0.mk (below_step (by repeat (first | (with_reducible first | exact HB.out | apply below_alloc | apply pw_below_drewN | apply below_drew1) | exact HB.out)) hb); clear HB; have HO143 := n0_; have HB := n1_; clear n0_ n1_; clear hb ho3; obtain ⟨Ao4, co4, eo4⟩ := Kd.R_slice HO143.out; subst eo4))
  go_loopg [28] k (fun kq v28 w' => ∃ (x28_1 : Int), v28 = .int .i64 x28_1 ∧ Aside0 (postilionlaw15_PartForms.l0 kq a0 y141 (y141.length : Int) x28_1 = some r) ∧ Aside0 (kq ≤ k) ∧ Aside0 (Kd.R k22 22 w' w.heap.size (fun _ => True) (.slice Ao4 y141.length co4) y141) ∧ Aside0 (Below w.heap.size w w'))
  case atStart => exact ⟨(0), (by first | rfl | (simp; done) | (simp [*]; done)), H', ⟨Nat.le_refl _⟩, ⟨by (with_reducible repeat (first | apply Kd.R_alloc | apply Kd.R_drewN | apply Kd.R_drew)); exact HO143.out⟩, ⟨by repeat (first | (with_reducible first | exact HB.out | apply below_alloc | apply pw_below_drewN | apply below_drew1) | exact HB.out)⟩⟩
  case round =>
    clear H'
    try clear c2
    try clear p2
    try clear c3
    obtain ⟨x28_1, rfl, HA, HK1, HO_26, HB⟩ := hrel
    cases gk with
    | zero => exact absurd HA.out (by simp [postilionlaw15_PartForms.l0])
    | succ k1 =>
      have H := HA.out
      clear HA
      simp only [postilionlaw15_PartForms.l0] at H
      by_cases c5 : x28_1 < (y141.length : Int)
      · rw [if_pos c5] at H
        have c5b0 : decide (x28_1 < (y141.length : Int)) = true := decide_eq_true c5
        clear c5
        by_cases c6 : 0 ≤ x28_1
        · rw [if_pos c6] at H
          have c6b0 : decide (0 ≤ x28_1) = true := decide_eq_true c6
          clear c6
          by_cases c7 : x28_1 < (y141.length : Int)
          · rw [if_pos c7] at H
            have c7b0 : decide (x28_1 < (y141.length : Int)) = true := decide_eq_true c7
            clear c7
            obtain ⟨y146, hy146⟩ : ∃ y_ : List (S26), y_ = (([(⟨(⟨#[120]⟩ : ByteArray), (⟨#[]⟩ : ByteArray)⟩ : S26), (⟨(⟨#[69, 116, 97, 103]⟩ : ByteArray), (rd_T22 y141 x28_1).f0⟩ : S26), (⟨(⟨#[101, 116, 97, 103]⟩ : ByteArray), (⟨#[34, 122, 34]⟩ : ByteArray)⟩ : S26)] : List (S26))) := ⟨_, rfl⟩
            replace H : ((part_Tag.f k1 y146).bind fun t149 => (if t149.toList = ((rd_T22 y141 x28_1).f1).toList then (postilionlaw15_PartForms.l0 k1 a0 y141 (y141.length : Int) (wrap64 (x28_1 + 1))) else (some false))) = some r := by first | (rw [hy146]; with_reducible exact H) | (have H2_ := (Option.bind_some _ _).symm.trans H; rw [hy146]; with_reducible exact H2_) | (have H2_ := (Option.bind_some _ _).symm.trans H; with_reducible exact H2_) | with_reducible exact H | (rw [hy146]; exact H) | exact H
            have Ny146 := Aside0.mk hy146
            clear hy146
            replace H := Option.bind_eq_some_iff.mp H
            obtain ⟨t149, A80, H⟩ := H
            replace H : (if t149.toList = ((rd_T22 y141 x28_1).f1).toList then (postilionlaw15_PartForms.l0 k1 a0 y141 (y141.length : Int) (wrap64 (x28_1 + 1))) else (some false)) = some r := H
            have A8 := Aside0.mk A80
            clear A80
            by_cases c9 : t149.toList = ((rd_T22 y141 x28_1).f1).toList
            · rw [if_pos c9] at H
              have c9b0 : (t149.toList == ((rd_T22 y141 x28_1).f1).toList) = true := beq_iff_eq.mpr c9
              have c9b1 : (t149.toList != ((rd_T22 y141 x28_1).f1).toList) = false := bne_eq_false_iff_eq.mpr c9
              clear c9
              have H' := Aside0.mk H
              clear H
              have p144 : 0 ≤ (x28_1 : Int) := of_decide_eq_true (by first | (with_reducible assumption) | assumption)
              have q144 : x28_1 < (y141.length : Int) := of_decide_eq_true (by first | (with_reducible assumption) | assumption)
              obtain ⟨ad144, e144, hx144_0, hx144_1⟩ := at_T22 (Kd.R_reads' HO_26.out).2.2 x28_1 p144 q144
              cases e144
              replace p144 := eq_true p144
              replace q144 := eq_true q144
              try go_wp2_with (first | ((with_reducible refine gate_dst (N := 4) rfl ?_); (try (refine gate_guard (by rfl) ?_; dsimp only)); refine box_event ?hg (N := 4) ?hd (cs := #[.string (⟨#[]⟩ : ByteArray), .string (⟨#[]⟩ : ByteArray)]) (t := 22) ?hr ?_; (case hd => rfl); (case hg => rfl); (case hr => first | (go_simp; done) | (go_simp; rfl)); intro gb145 hg w10 hbox hb; have n0_ := Aside0.mk (Kd.R_below (Kd.R_elderB (by (with_reducible repeat (first | apply Kd.R_alloc | apply Kd.R_drewN | apply Kd.R_drew)); exact HO_26.out) gb145 (Nat.le_of_eq hg.symm)) hb); have n1_ := Aside0.mk (below_step (by repeat (first | (with_reducible first | exact HB.out | apply below_alloc | apply pw_below_drewN | apply below_drew1) | exact HB.out)) hb); have n2_ := Aside0.mk (hbox); have n3_ := Aside0.mk ((by rw [hg]; exact (below_size (by repeat (first | (with_reducible first | exact HB.out | apply below_alloc | apply pw_below_drewN | apply below_drew1) | exact HB.out))) : w.heap.size ≤ gb145)); have n4_ := Aside0.mk ((by rw [hg]; exact (below_size (by repeat (first | (with_reducible first | exact HB.out | apply below_alloc | apply pw_below_drewN | apply below_drew1) | exact HB.out))) : w.heap.size ≤ gb145)); clear HO_26; clear HB; have HO_26 := n0_; have HB := n1_; have BK145 := n2_; have GW145 := n3_; have GE145 := n4_; clear n0_ n1_ n2_ n3_ n4_; clear hb hbox hg; have hcz11_0 : w10.cell? ⟨gb145, 0, none⟩ = some (.string (⟨#[]⟩ : ByteArray)) := (blk_cell BK145.out 0).trans rfl; have hcz11_1 : w10.cell? ⟨gb145, 1, none⟩ = some (.string (⟨#[]⟩ : ByteArray)) := (blk_cell BK145.out 1).trans rfl; have hfz11_0 := blk_frozen BK145.out 0; have hfz11_1 := blk_frozen BK145.out 1))
              have n0_ : Aside0 (Kd.R k22 22 ((w10.setCell ⟨gb145, 0, none⟩ (.string ((rd_T22 y141 x28_1).f0))).setCell ⟨gb145, 1, none⟩ (.string ((rd_T22 y141 x28_1).f1))) w.heap.size (fun k_ => k_ ≠ gb145) (.slice (some ad144) y141.length co4) y141) := ⟨by (with_reducible repeat (first | apply Kd.R_alloc | apply Kd.R_drewN | apply Kd.R_drew)); exact Kd.R_mono (Kd.R_far (p := ⟨gb145, 1, none⟩) (Kd.R_far (p := ⟨gb145, 0, none⟩) (Kd.R_mono HO_26.out (fun k_ hk => (⟨hk, hk.2⟩ : _ ∧ k_ ≠ gb145))) (fun _ hk => hk.2) (.string ((rd_T22 y141 x28_1).f0))) (fun _ hk => hk.2) (.string ((rd_T22 y141 x28_1).f1))) (fun _ hk => hk.1.2)⟩
              have n1_ : Aside0 (((w10.setCell ⟨gb145, 0, none⟩ (.string ((rd_T22 y141 x28_1).f0))).setCell ⟨gb145, 1, none⟩ (.string ((rd_T22 y141 x28_1).f1))).heap[gb145]? = some (.cells #[.string ((rd_T22 y141 x28_1).f0), .string ((rd_T22 y141 x28_1).f1)] 22 (0, 0))) := ⟨by (with_reducible repeat (first | refine blk_drewN ?_ _ | refine blk_drew ?_ | refine blk_alloc ?_ _)); refine blk_put (cs := #[.string ((rd_T22 y141 x28_1).f0), .string (⟨#[]⟩ : ByteArray)]) ?_ 1 _ rfl; (with_reducible repeat (first | refine blk_drewN ?_ _ | refine blk_drew ?_ | refine blk_alloc ?_ _)); refine blk_put (cs := #[.string (⟨#[]⟩ : ByteArray), .string (⟨#[]⟩ : ByteArray)]) ?_ 0 _ rfl; (with_reducible repeat (first | refine blk_drewN ?_ _ | refine blk_drew ?_ | refine blk_alloc ?_ _)); exact BK145.out⟩
              have n2_ : Aside0 (Below w.heap.size w ((w10.setCell ⟨gb145, 0, none⟩ (.string ((rd_T22 y141 x28_1).f0))).setCell ⟨gb145, 1, none⟩ (.string ((rd_T22 y141 x28_1).f1)))) := ⟨by repeat (first | (with_reducible first | exact HB.out | apply below_alloc | apply pw_below_drewN | apply below_drew1 | refine below_set ?_ GE145.out) | exact HB.out)⟩
              (try clear HO_26)
              (try clear BK145)
              (try clear HB)
              generalize ((w10.setCell ⟨gb145, 0, none⟩ (.string ((rd_T22 y141 x28_1).f0))).setCell ⟨gb145, 1, none⟩ (.string ((rd_T22 y141 x28_1).f1))) = w12 at n0_ n1_ n2_ ⊢
              have HO_26 := n0_
              have BK145 := n1_
              have HB := n2_
              clear n0_ n1_ n2_
              have n0_ := Aside0.mk (Kd.R_drew HO_26.out)
              have n1_ := Aside0.mk (blk_drew BK145.out)
              have n2_ := Aside0.mk (below_drew1 HB.out)
              clear HO_26
              clear BK145
              clear HB
              have HO_26 := n0_
              have BK145 := n1_
              have HB := n2_
              clear n0_ n1_ n2_
              refine start_ (n := 10) (S := fun w' => w'.cell? ⟨gb145, 0, none⟩ = some (.string ((rd_T22 y141 x28_1).f0)) ∧ w'.cell? ⟨gb145, 1, none⟩ = some (.string ((rd_T22 y141 x28_1).f1))) (ds := []) #[false, false, false, false, false, false, false, false, false, false] (by kernel_rfl) rfl rfl ⟨(blk_cell BK145.out 0).trans rfl, (blk_cell BK145.out 1).trans rfl⟩ (fun hHeld => ?_); refine with_tabW postilionlaw15_PartForms.tab4 postilionlaw15_PartForms.bits4 (fun HT_ HW_ => ?_)
              generalize w12.drew = w13 at HO_26 BK145 HB hHeld ⊢
              refine pure_ (i := 0) (N := some 32) (v := ?_) (a' := ?_) #[true, false, false, false, false, false, false, false, false, false] rfl rfl (any_of HT_.out (by kernel_rfl)) (fun _ _ _ h => h) (Or.inl ⟨by rfl, ?_⟩) ?_ ?_
              rotate_left
              · intro w'
                go_simp
                with_reducible rfl
              rotate_left
              · simp only [Act.put, List.setIfInBounds_toArray, List.set_cons_zero, List.set_cons_succ, i64_w, i32_w]
                rfl
              refine pure_ (i := 1) (N := some 33) (v := ?_) (a' := ?_) #[true, true, false, false, false, false, false, false, false, false] rfl rfl (any_of HT_.out (by kernel_rfl)) (fun _ _ _ h => h) (Or.inl ⟨by rfl, ?_⟩) ?_ ?_
              rotate_left
              · intro w'
                go_simp
                with_reducible rfl
              rotate_left
              · simp only [Act.put, List.setIfInBounds_toArray, List.set_cons_zero, List.set_cons_succ, i64_w, i32_w]
                rfl
              refine pure_ (i := 4) (N := some 36) (v := ?_) (a' := ?_) #[true, true, false, false, true, false, false, false, false, false] rfl rfl (any_of HT_.out (by kernel_rfl)) (fun _ _ _ h => h) (Or.inl ⟨by rfl, ?_⟩) ?_ ?_
              rotate_left
              · intro w'
                go_simp
                with_reducible rfl
              rotate_left
              · simp only [Act.put, List.setIfInBounds_toArray, List.set_cons_zero, List.set_cons_succ, i64_w, i32_w]
                rfl
              refine pure_ (i := 7) (N := some 39) (v := ?_) (a' := ?_) #[true, true, false, false, true, false, false, true, false, false] rfl rfl (any_of HT_.out (by kernel_rfl)) (fun _ _ _ h => h) (Or.inl ⟨by rfl, ?_⟩) ?_ ?_
              rotate_left
              · intro w'
                go_simp
                with_reducible rfl
              rotate_left
              · simp only [Act.put, List.setIfInBounds_toArray, List.set_cons_zero, List.set_cons_succ, i64_w, i32_w]
                rfl
              refine take_ (i := 2) (N := some 34) (v := ?_) (a' := ?_) #[true, true, true, false, true, false, false, true, false, false] rfl rfl (take_ofW HT_.out HW_.out (by kernel_rfl)) (fun _ _ _ h => h) (Or.inl ⟨by rfl, ?_⟩) hHeld ?_ ?_
              rotate_left
              · rintro w' ⟨s0, s1⟩
                go_simp
                with_reducible rfl
              rotate_left
              · simp only [Act.put, List.setIfInBounds_toArray, List.set_cons_zero, List.set_cons_succ, i64_w, i32_w]
                rfl
              refine pure_ (i := 3) (N := some 35) (v := ?_) (a' := ?_) #[true, true, true, true, true, false, false, true, false, false] rfl rfl (any_of HT_.out (by kernel_rfl)) (fun _ _ _ h => h) (Or.inl ⟨by rfl, ?_⟩) ?_ ?_
              rotate_left
              · intro w'
                go_simp
                with_reducible rfl
              rotate_left
              · simp only [Act.put, List.setIfInBounds_toArray, List.set_cons_zero, List.set_cons_succ, i64_w, i32_w]
                rfl
              refine take_ (i := 8) (N := some 40) (v := ?_) (a' := ?_) #[true, true, true, true, true, false, false, true, true, false] rfl rfl (take_ofW HT_.out HW_.out (by kernel_rfl)) (fun _ _ _ h => h) (Or.inl ⟨by rfl, ?_⟩) hHeld ?_ ?_
              rotate_left
              · rintro w' ⟨s0, s1⟩
                go_simp
                with_reducible rfl
              rotate_left
              · simp only [Act.put, List.setIfInBounds_toArray, List.set_cons_zero, List.set_cons_succ, i64_w, i32_w]
                rfl
              refine one_ (i := 5) (N := some 37) #[true, true, true, true, true, true, false, true, true, false] rfl rfl (one_of HT_.out (by kernel_rfl)) (by decide) (fun K hK => ?_)
              refine Kd.R_lit_step k26 _ 26 ?hg (N := 37) ?hd (xs := ([(⟨(⟨#[120]⟩ : ByteArray), (⟨#[]⟩ : ByteArray)⟩ : S26), (⟨(⟨#[69, 116, 97, 103]⟩ : ByteArray), (rd_T22 y141 x28_1).f0⟩ : S26), (⟨(⟨#[101, 116, 97, 103]⟩ : ByteArray), (⟨#[34, 122, 34]⟩ : ByteArray)⟩ : S26)] : List (S26))) (inner := [.string (⟨#[120]⟩ : ByteArray), .string (⟨#[]⟩ : ByteArray), .string (⟨#[69, 116, 97, 103]⟩ : ByteArray), .string ((rd_T22 y141 x28_1).f0), .string (⟨#[101, 116, 97, 103]⟩ : ByteArray), .string (⟨#[34, 122, 34]⟩ : ByteArray)]) (ok := fun _ => True) (okp := fun _ => True) ?hr ?hp (fun _ hk => hk) trivial (Below.refl _ _) (Nat.le_refl _) (by simp) ?_; (case hd => rfl); (case hg => rfl); (case hr => first | (go_simp; done) | (go_simp; rfl)); (case hp => exact (Reps.c2 (show Kd.M k26 _ _ _ (⟨(⟨#[120]⟩ : ByteArray), (⟨#[]⟩ : ByteArray)⟩ : S26) [.string (⟨#[120]⟩ : ByteArray), .string (⟨#[]⟩ : ByteArray)] from (k26_mkM _ _ _ (⟨(⟨#[120]⟩ : ByteArray), (⟨#[]⟩ : ByteArray)⟩ : S26) )) (Reps.c2 (show Kd.M k26 _ _ _ (⟨(⟨#[69, 116, 97, 103]⟩ : ByteArray), (rd_T22 y141 x28_1).f0⟩ : S26) [.string (⟨#[69, 116, 97, 103]⟩ : ByteArray), .string ((rd_T22 y141 x28_1).f0)] from (k26_mkM _ _ _ (⟨(⟨#[69, 116, 97, 103]⟩ : ByteArray), (rd_T22 y141 x28_1).f0⟩ : S26) )) (Reps.c2 (show Kd.M k26 _ _ _ (⟨(⟨#[101, 116, 97, 103]⟩ : ByteArray), (⟨#[34, 122, 34]⟩ : ByteArray)⟩ : S26) [.string (⟨#[101, 116, 97, 103]⟩ : ByteArray), .string (⟨#[34, 122, 34]⟩ : ByteArray)] from (k26_mkM _ _ _ (⟨(⟨#[101, 116, 97, 103]⟩ : ByteArray), (⟨#[34, 122, 34]⟩ : ByteArray)⟩ : S26) )) (Reps.none _ _)))))
              intro v147 w14 ho15 hb hg_ hnew_
              clear hg_ hnew_
              (first | rw [← Ny146.out] at ho15 | (simp only [Int.reduceToNat] at ho15; rw [← Ny146.out] at ho15))
              have n0_ := Aside0.mk (Kd.R_below (by (with_reducible repeat (first | apply Kd.R_alloc | apply Kd.R_drewN | apply Kd.R_drew)); exact HO_26.out) hb)
              have n1_ := Aside0.mk (Kd.R_lower ho15 (below_size (by repeat (first | (with_reducible first | exact HB.out | apply below_alloc | apply pw_below_drewN | apply below_drew1 | refine below_set ?_ GE145.out) | exact HB.out))))
              have n2_ := Aside0.mk (blk_below (g := gb145) (o := .cells #[.string ((rd_T22 y141 x28_1).f0), .string ((rd_T22 y141 x28_1).f1)] 22 (0, 0)) (by (with_reducible repeat (first | refine blk_drewN ?_ _ | refine blk_drew ?_ | refine blk_alloc ?_ _)); exact BK145.out) hb)
              have n3_ := Aside0.mk (below_step (by repeat (first | (with_reducible first | exact HB.out | apply below_alloc | apply pw_below_drewN | apply below_drew1 | refine below_set ?_ GE145.out) | exact HB.out)) hb)
              clear HO_26
              clear BK145
              clear HB
              have HO_26 := n0_
              have HO148 := n1_
              have BK145 := n2_
              have HB := n3_
              clear n0_ n1_ n2_ n3_
              clear hb ho15
              obtain ⟨Ao16, co16, eo16⟩ := Kd.R_slice HO148.out
              (first | subst eo16 | (injection eo16 with f1_ f2_ f3_; have f4_ := f1_.symm; have f5_ := f3_.symm; clear f1_ f2_ f3_; subst f4_; subst f5_))
              refine hK.out _ _ ⟨(blk_cell BK145.out 0).trans rfl, (blk_cell BK145.out 1).trans rfl⟩ (fun hHeld => ?_)
              clear hK K
              refine norm_ (a' := ?_) ?_ ?_
              rotate_left
              · show Act.put _ (some 37) _ = _
                simp only [Act.put, List.setIfInBounds_toArray, List.set_cons_zero, List.set_cons_succ, i64_w, i32_w]
                rfl
              refine one_ (i := 6) (N := some 38) #[true, true, true, true, true, true, true, true, true, false] rfl rfl (one_of HT_.out (by kernel_rfl)) (by decide) (fun K hK => ?_)
              refine goes_ Tryd.func9 (by kernel_rfl) rfl #[.slice Ao16 y146.length co16] (by rfl) rfl rfl (by (try simp only [List.map_toArray, List.map_cons, List.map_nil]); first | done | rfl | (simp only [List.length_drop, List.length_take]; rfl)) ?_
              with_reducible refine (part_Tag.calls k1 _ _ y146 t149 _ ?side1 ?side2 A8.out).mono ?_
              (case side1 => repeat (first | exact (Kd.R_reads' HO148.out).2.2 | (with_reducible refine Kd.C_alloc ?_ _) | (with_reducible refine Kd.C_drewN ?_ _) | (with_reducible refine Kd.C_drew ?_)))
              (case side2 => exact (Kd.R_reads' HO148.out).2.1)
              rintro e w17 ⟨rfl, hb⟩
              refine ⟨_, rfl, ?_⟩
              have n0_ := Aside0.mk (Kd.R_below (by (with_reducible repeat (first | apply Kd.R_alloc | apply Kd.R_drewN | apply Kd.R_drew)); exact HO_26.out) hb)
              have n1_ := Aside0.mk (Kd.R_below (by (with_reducible repeat (first | apply Kd.R_alloc | apply Kd.R_drewN | apply Kd.R_drew)); exact HO148.out) hb)
              have n2_ := Aside0.mk (blk_below (g := gb145) (o := .cells #[.string ((rd_T22 y141 x28_1).f0), .string ((rd_T22 y141 x28_1).f1)] 22 (0, 0)) (by (with_reducible repeat (first | refine blk_drewN ?_ _ | refine blk_drew ?_ | refine blk_alloc ?_ _)); exact BK145.out) hb)
              have n3_ := Aside0.mk (below_step (by repeat (first | (with_reducible first | exact HB.out | apply below_alloc | apply pw_below_drewN | apply below_drew1 | refine below_set ?_ GE145.out) | exact HB.out)) hb)
              clear HO_26
              clear HO148
              clear BK145
              clear HB
              have HO_26 := n0_
              have HO148 := n1_
              have BK145 := n2_
              have HB := n3_
              clear n0_ n1_ n2_ n3_
              (try clear hb)
              (try clear hb2)
              (try clear hk)
              (try clear hi)
              refine hK.out _ _ ⟨(blk_cell BK145.out 0).trans rfl, (blk_cell BK145.out 1).trans rfl⟩ (fun hHeld => ?_)
              clear hK K
              refine norm_ (a' := ?_) ?_ ?_
              rotate_left
              · show Act.put _ (some 38) _ = _
                simp only [Act.put, List.setIfInBounds_toArray, List.set_cons_zero, List.set_cons_succ, i64_w, i32_w]
                rfl
              refine pure_ (i := 9) (N := some 41) (v := ?_) (a' := ?_) #[true, true, true, true, true, true, true, true, true, true] rfl rfl (any_of HT_.out (by kernel_rfl)) (fun _ _ _ h => h) (Or.inl ⟨by rfl, ?_⟩) ?_ ?_
              rotate_left
              · intro w'
                go_simp
                with_reducible rfl
              rotate_left
              · simp only [Act.put, List.setIfInBounds_toArray, List.set_cons_zero, List.set_cons_succ, i64_w, i32_w]
                rfl
              refine done_ (done_of HT_.out (by kernel_rfl)) ?_
              try go_wp2
              go_roundg k1
              case measure => have := HK1.out; omega
              case rel => exact ⟨(wrap64 (x28_1 + 1)), (by first | rfl | (simp; done) | (simp [*]; done)), H', ⟨by have := HK1.out; omega⟩, ⟨by (with_reducible repeat (first | apply Kd.R_alloc | apply Kd.R_drewN | apply Kd.R_drew)); exact Kd.R_mono HO_26.out (fun _ hk => trivial)⟩, ⟨by repeat (first | (with_reducible first | exact HB.out | apply below_alloc | apply pw_below_drewN | apply below_drew1 | refine below_set ?_ GE145.out) | exact HB.out)⟩⟩
            · rw [if_neg c9] at H
              have c9b0 : (t149.toList == ((rd_T22 y141 x28_1).f1).toList) = false := beq_eq_false_iff_ne.mpr c9
              have c9b1 : (t149.toList != ((rd_T22 y141 x28_1).f1).toList) = true := bne_iff_ne.mpr c9
              obtain rfl := Option.some.inj H
              cases hT
          · rw [if_neg c7] at H
            exact absurd H (by simp)
        · rw [if_neg c6] at H
          exact absurd H (by simp)
      · rw [if_neg c5] at H
        have c5b0 : decide (x28_1 < (y141.length : Int)) = false := decide_eq_false c5
        clear c5
        replace H := Option.bind_eq_some_iff.mp H
        obtain ⟨⟨t150, t151, t152, t153⟩, A180, H⟩ := H
        replace H : (if t153 = true then (if t150 = 3 then (if t151 = 7 then (postilionlaw15_PartForms.j1 k1 a0 (t152 != 8)) else (postilionlaw15_PartForms.j1 k1 a0 true)) else (postilionlaw15_PartForms.j1 k1 a0 true)) else (postilionlaw15_PartForms.j1 k1 a0 true)) = some r := H
        have A18 := Aside0.mk A180
        clear A180
        have HC19 := Aside0.mk H
        clear H
        go_upto_region 8 with (first | ((with_reducible refine gate_callee (f := 10) rfl ?_); refine goesL_ (some 44) rfl rfl Tryd.func10 (by kernel_rfl) rfl #[.string (⟨#[98, 121, 116, 101, 115, 32, 51, 45, 55, 47, 56]⟩ : ByteArray)] rfl (by (try simp only [List.map_toArray, List.map_cons, List.map_nil]); first | done | rfl | (simp only [List.length_drop, List.length_take]; rfl)) ?_; (with_reducible refine (part_Span.calls k1 (⟨#[98, 121, 116, 101, 115, 32, 51, 45, 55, 47, 56]⟩ : ByteArray) t150 t151 t152 t153 _ ?side1 A18.out).mono ?_); (case side1 => exact Gl.below hG (by repeat (first | (with_reducible first | exact HB.out | apply below_alloc | apply pw_below_drewN | apply below_drew1) | exact HB.out))); rintro e w' ⟨rfl, ⟨nd, rfl⟩⟩; refine ⟨_, rfl, ?_⟩))
        (try simp only [Act.put, List.setIfInBounds_toArray, List.set_cons_zero, List.set_cons_succ])
        go_cut [62] (fun v62 wc => ∃ (kq : Nat) (x62_18 : Bool), v62 = .bool x62_18 ∧ Aside0 (postilionlaw15_PartForms.j1 kq a0 x62_18 = some r) ∧ Aside0 (kq ≤ k1) ∧ Aside0 (Below w.heap.size w wc))
        case first =>
          have H := HC19.out
          clear HC19
          by_cases c20 : t153 = true
          · subst c20
            have H1 : (if t150 = 3 then (if t151 = 7 then (postilionlaw15_PartForms.j1 k1 a0 (t152 != 8)) else (postilionlaw15_PartForms.j1 k1 a0 true)) else (postilionlaw15_PartForms.j1 k1 a0 true)) = some r := by rw [if_pos rfl] at H; exact H
            clear H
            have H := H1
            clear H1
            by_cases c21 : t150 = 3
            · rw [if_pos c21] at H
              have c21b0 : (t150 == 3) = true := beq_iff_eq.mpr c21
              have c21b1 : (t150 != 3) = false := bne_eq_false_iff_eq.mpr c21
              clear c21
              (first | rw [c21b0] | (simp only [i64_w, i32_w]; rw [c21b0]) | skip)
              by_cases c22 : t151 = 7
              · rw [if_pos c22] at H
                have c22b0 : (t151 == 7) = true := beq_iff_eq.mpr c22
                have c22b1 : (t151 != 7) = false := bne_eq_false_iff_eq.mpr c22
                clear c22
                have H' := Aside0.mk H
                clear H
                go_wp2
                go_meet
                case rel => exact ⟨_, ((t152 != 8)), (by first | rfl | (simp; done) | (simp [*]; done)), H', ⟨by have := HK1.out; first | omega | exact Nat.le_refl _⟩, ⟨by repeat (first | (with_reducible first | exact HB.out | apply below_alloc | apply pw_below_drewN | apply below_drew1) | exact HB.out)⟩⟩
              · rw [if_neg c22] at H
                have c22b0 : (t151 == 7) = false := beq_eq_false_iff_ne.mpr c22
                have c22b1 : (t151 != 7) = true := bne_iff_ne.mpr c22
                have H' := Aside0.mk H
                clear H
                go_wp2
                go_meet
                case rel => exact ⟨_, (true), (by first | rfl | (simp; done) | (simp [*]; done)), H', ⟨by have := HK1.out; first | omega | exact Nat.le_refl _⟩, ⟨by repeat (first | (with_reducible first | exact HB.out | apply below_alloc | apply pw_below_drewN | apply below_drew1) | exact HB.out)⟩⟩
            · rw [if_neg c21] at H
              have c21b0 : (t150 == 3) = false := beq_eq_false_iff_ne.mpr c21
              have c21b1 : (t150 != 3) = true := bne_iff_ne.mpr c21
              (first | rw [c21b0] | (simp only [i64_w, i32_w]; rw [c21b0]) | skip)
              have H' := Aside0.mk H
              clear H
              go_wp2
              go_meet
              case rel => exact ⟨_, (true), (by first | rfl | (simp; done) | (simp [*]; done)), H', ⟨by have := HK1.out; first | omega | exact Nat.le_refl _⟩, ⟨by repeat (first | (with_reducible first | exact HB.out | apply below_alloc | apply pw_below_drewN | apply below_drew1) | exact HB.out)⟩⟩
          · replace c20 := Bool.eq_false_iff.mpr c20
            subst c20
            have H1 : (postilionlaw15_PartForms.j1 k1 a0 true) = some r := by rw [if_neg (show ¬ (false = true) by decide)] at H; exact H
            clear H
            have H := H1
            clear H1
            have H' := Aside0.mk H
            clear H
            go_wp2
            go_meet
            case rel => exact ⟨_, (true), (by first | rfl | (simp; done) | (simp [*]; done)), H', ⟨by have := HK1.out; first | omega | exact Nat.le_refl _⟩, ⟨by repeat (first | (with_reducible first | exact HB.out | apply below_alloc | apply pw_below_drewN | apply below_drew1) | exact HB.out)⟩⟩
        case rest =>
          clear HC19
          try clear c1
          try clear p1
          try clear q1
          try clear hx1
          try clear c2
          try clear p2
          try clear c3
          try clear c5
          try clear c5b0
          try clear c6
          try clear c6b0
          try clear p6
          try clear c7
          try clear c7b0
          try clear c9
          try clear c9b0
          try clear c9b1
          try clear c10
          try clear p14
          try clear q14
          try clear hx14
          try clear c20
          try clear c21
          try clear c21b0
          try clear c21b1
          try clear c22
          try clear c22b0
          try clear c22b1
          try clear hcz11_0
          try clear hcz11_1
          try clear hfz11_0
          try clear hfz11_1
          try clear hx144_0
          try clear hx144_1
          try clear p144
          try clear p2
          try clear q144
          obtain ⟨kq, x62_18, rfl, HA, HJ18, HB⟩ := hcut
          cases kq with
          | zero => exact absurd HA.out (by simp [postilionlaw15_PartForms.j1])
          | succ kj18 =>
            have H := HA.out
            clear HA
            simp only [postilionlaw15_PartForms.j1] at H
            by_cases c23 : x62_18 = true
            · subst c23
              have H1 : (some false) = some r := by rw [if_pos rfl] at H; exact H
              clear H
              have H := H1
              clear H1
              obtain rfl := Option.some.inj H
              cases hT
            · replace c23 := Bool.eq_false_iff.mpr c23
              subst c23
              have H1 : ((some (([(⟨#[]⟩ : ByteArray), (⟨#[98, 121, 116, 101, 115]⟩ : ByteArray), (⟨#[98, 121, 116, 101, 115, 32, 51, 45, 55]⟩ : ByteArray), (⟨#[98, 121, 116, 101, 115, 32, 51, 45, 47, 56]⟩ : ByteArray), (⟨#[98, 121, 116, 101, 115, 32, 45, 55, 47, 56]⟩ : ByteArray), (⟨#[98, 121, 116, 101, 115, 32, 51, 45, 55, 47]⟩ : ByteArray), (⟨#[98, 121, 116, 101, 115, 32, 56, 45, 55, 47, 57]⟩ : ByteArray), (⟨#[98, 121, 116, 101, 115, 32, 51, 45, 56, 47, 56]⟩ : ByteArray), (⟨#[66, 121, 116, 101, 115, 32, 51, 45, 55, 47, 56]⟩ : ByteArray), (⟨#[98, 121, 116, 101, 115, 32, 32, 51, 45, 55, 47, 56]⟩ : ByteArray), (⟨#[98, 121, 116, 101, 115, 32, 51, 45, 55, 47, 56, 32]⟩ : ByteArray), (⟨#[98, 121, 116, 101, 115, 32, 120, 45, 55, 47, 56]⟩ : ByteArray), (⟨#[98, 121, 116, 101, 115, 32, 51, 45, 55, 47, 49, 50, 51, 52, 53, 54, 55]⟩ : ByteArray), (⟨#[98, 121, 116, 101, 115, 32, 42, 47, 56]⟩ : ByteArray), (⟨#[98, 121, 116, 101, 115, 32, 51, 45, 55, 45, 56, 47, 57]⟩ : ByteArray)] : List ByteArray) : List ByteArray)).bind fun y154 => ((postilionkeep_Within.f a0 (y154.length : Int)).bind fun t157 => (if 0 ≤ t157 then (if t157 < (y154.length : Int) then ((part_Span.f kj18 (rdOf ByteArray.empty y154 t157)).bind fun bt159 => ((part_Heads.f 12 (⟨#[34, 116, 34]⟩ : ByteArray)).bind fun t163 => (if bt159.2.2.2 = true then (some false) else ((api_Head.f kj18 t163 (([(⟨(⟨#[82, 97, 110, 103, 101]⟩ : ByteArray), (⟨#[98, 121, 116, 101, 115, 61, 49, 50, 45]⟩ : ByteArray)⟩ : S26), (⟨(⟨#[73, 102, 45, 82, 97, 110, 103, 101]⟩ : ByteArray), (⟨#[34, 116, 34]⟩ : ByteArray)⟩ : S26)] : List (S26)))).bind fun t169 => (if t169 = true then ((part_Heads.f 12 (⟨#[]⟩ : ByteArray)).bind fun t170 => (if (t170.length : Int) = 0 then ((part_Heads.f (-1) (⟨#[34, 116, 34]⟩ : ByteArray)).bind fun t173 => (if (t173.length : Int) = 0 then ((part_Tag.f kj18 ([] : List (S26))).bind fun t176 => (if t176.toList = ([] : List UInt8) then ((postilionlaw15_wakes.f kj18).bind fun t177 => (some t177)) else (some false))) else (some false))) else (some false))) else (some false)))))) else (none)) else (none)))) = some r := by rw [if_neg (show ¬ (false = true) by decide)] at H; exact H
              clear H
              have H := H1
              clear H1
              obtain ⟨y154, hy154⟩ : ∃ y_ : List ByteArray, y_ = (([(⟨#[]⟩ : ByteArray), (⟨#[98, 121, 116, 101, 115]⟩ : ByteArray), (⟨#[98, 121, 116, 101, 115, 32, 51, 45, 55]⟩ : ByteArray), (⟨#[98, 121, 116, 101, 115, 32, 51, 45, 47, 56]⟩ : ByteArray), (⟨#[98, 121, 116, 101, 115, 32, 45, 55, 47, 56]⟩ : ByteArray), (⟨#[98, 121, 116, 101, 115, 32, 51, 45, 55, 47]⟩ : ByteArray), (⟨#[98, 121, 116, 101, 115, 32, 56, 45, 55, 47, 57]⟩ : ByteArray), (⟨#[98, 121, 116, 101, 115, 32, 51, 45, 56, 47, 56]⟩ : ByteArray), (⟨#[66, 121, 116, 101, 115, 32, 51, 45, 55, 47, 56]⟩ : ByteArray), (⟨#[98, 121, 116, 101, 115, 32, 32, 51, 45, 55, 47, 56]⟩ : ByteArray), (⟨#[98, 121, 116, 101, 115, 32, 51, 45, 55, 47, 56, 32]⟩ : ByteArray), (⟨#[98, 121, 116, 101, 115, 32, 120, 45, 55, 47, 56]⟩ : ByteArray), (⟨#[98, 121, 116, 101, 115, 32, 51, 45, 55, 47, 49, 50, 51, 52, 53, 54, 55]⟩ : ByteArray), (⟨#[98, 121, 116, 101, 115, 32, 42, 47, 56]⟩ : ByteArray), (⟨#[98, 121, 116, 101, 115, 32, 51, 45, 55, 45, 56, 47, 57]⟩ : ByteArray)] : List ByteArray)) := ⟨_, rfl⟩
              replace H : ((postilionkeep_Within.f a0 (y154.length : Int)).bind fun t157 => (if 0 ≤ t157 then (if t157 < (y154.length : Int) then ((part_Span.f kj18 (rdOf ByteArray.empty y154 t157)).bind fun bt159 => ((part_Heads.f 12 (⟨#[34, 116, 34]⟩ : ByteArray)).bind fun t163 => (if bt159.2.2.2 = true then (some false) else ((api_Head.f kj18 t163 (([(⟨(⟨#[82, 97, 110, 103, 101]⟩ : ByteArray), (⟨#[98, 121, 116, 101, 115, 61, 49, 50, 45]⟩ : ByteArray)⟩ : S26), (⟨(⟨#[73, 102, 45, 82, 97, 110, 103, 101]⟩ : ByteArray), (⟨#[34, 116, 34]⟩ : ByteArray)⟩ : S26)] : List (S26)))).bind fun t169 => (if t169 = true then ((part_Heads.f 12 (⟨#[]⟩ : ByteArray)).bind fun t170 => (if (t170.length : Int) = 0 then ((part_Heads.f (-1) (⟨#[34, 116, 34]⟩ : ByteArray)).bind fun t173 => (if (t173.length : Int) = 0 then ((part_Tag.f kj18 ([] : List (S26))).bind fun t176 => (if t176.toList = ([] : List UInt8) then ((postilionlaw15_wakes.f kj18).bind fun t177 => (some t177)) else (some false))) else (some false))) else (some false))) else (some false)))))) else (none)) else (none))) = some r := by first | (rw [hy154]; with_reducible exact H) | (have H2_ := (Option.bind_some _ _).symm.trans H; rw [hy154]; with_reducible exact H2_) | (have H2_ := (Option.bind_some _ _).symm.trans H; with_reducible exact H2_) | with_reducible exact H | (rw [hy154]; exact H) | exact H
              have Ny154 := Aside0.mk hy154
              clear hy154
              replace H := Option.bind_eq_some_iff.mp H
              obtain ⟨t157, A240, H⟩ := H
              replace H : (if 0 ≤ t157 then (if t157 < (y154.length : Int) then ((part_Span.f kj18 (rdOf ByteArray.empty y154 t157)).bind fun bt159 => ((part_Heads.f 12 (⟨#[34, 116, 34]⟩ : ByteArray)).bind fun t163 => (if bt159.2.2.2 = true then (some false) else ((api_Head.f kj18 t163 (([(⟨(⟨#[82, 97, 110, 103, 101]⟩ : ByteArray), (⟨#[98, 121, 116, 101, 115, 61, 49, 50, 45]⟩ : ByteArray)⟩ : S26), (⟨(⟨#[73, 102, 45, 82, 97, 110, 103, 101]⟩ : ByteArray), (⟨#[34, 116, 34]⟩ : ByteArray)⟩ : S26)] : List (S26)))).bind fun t169 => (if t169 = true then ((part_Heads.f 12 (⟨#[]⟩ : ByteArray)).bind fun t170 => (if (t170.length : Int) = 0 then ((part_Heads.f (-1) (⟨#[34, 116, 34]⟩ : ByteArray)).bind fun t173 => (if (t173.length : Int) = 0 then ((part_Tag.f kj18 ([] : List (S26))).bind fun t176 => (if t176.toList = ([] : List UInt8) then ((postilionlaw15_wakes.f kj18).bind fun t177 => (some t177)) else (some false))) else (some false))) else (some false))) else (some false)))))) else (none)) else (none)) = some r := H
              have A24 := Aside0.mk A240
              clear A240
              by_cases c25 : 0 ≤ t157
              · rw [if_pos c25] at H
                have c25b0 : decide (0 ≤ t157) = true := decide_eq_true c25
                clear c25
                by_cases c26 : t157 < (y154.length : Int)
                · rw [if_pos c26] at H
                  have c26b0 : decide (t157 < (y154.length : Int)) = true := decide_eq_true c26
                  clear c26
                  replace H := Option.bind_eq_some_iff.mp H
                  obtain ⟨⟨t159, t160, t161, t162⟩, A270, H⟩ := H
                  replace H : ((part_Heads.f 12 (⟨#[34, 116, 34]⟩ : ByteArray)).bind fun t163 => (if t162 = true then (some false) else ((api_Head.f kj18 t163 (([(⟨(⟨#[82, 97, 110, 103, 101]⟩ : ByteArray), (⟨#[98, 121, 116, 101, 115, 61, 49, 50, 45]⟩ : ByteArray)⟩ : S26), (⟨(⟨#[73, 102, 45, 82, 97, 110, 103, 101]⟩ : ByteArray), (⟨#[34, 116, 34]⟩ : ByteArray)⟩ : S26)] : List (S26)))).bind fun t169 => (if t169 = true then ((part_Heads.f 12 (⟨#[]⟩ : ByteArray)).bind fun t170 => (if (t170.length : Int) = 0 then ((part_Heads.f (-1) (⟨#[34, 116, 34]⟩ : ByteArray)).bind fun t173 => (if (t173.length : Int) = 0 then ((part_Tag.f kj18 ([] : List (S26))).bind fun t176 => (if t176.toList = ([] : List UInt8) then ((postilionlaw15_wakes.f kj18).bind fun t177 => (some t177)) else (some false))) else (some false))) else (some false))) else (some false))))) = some r := H
                  have A27 := Aside0.mk A270
                  clear A270
                  replace H := Option.bind_eq_some_iff.mp H
                  obtain ⟨t163, A280, H⟩ := H
                  replace H : (if t162 = true then (some false) else ((api_Head.f kj18 t163 (([(⟨(⟨#[82, 97, 110, 103, 101]⟩ : ByteArray), (⟨#[98, 121, 116, 101, 115, 61, 49, 50, 45]⟩ : ByteArray)⟩ : S26), (⟨(⟨#[73, 102, 45, 82, 97, 110, 103, 101]⟩ : ByteArray), (⟨#[34, 116, 34]⟩ : ByteArray)⟩ : S26)] : List (S26)))).bind fun t169 => (if t169 = true then ((part_Heads.f 12 (⟨#[]⟩ : ByteArray)).bind fun t170 => (if (t170.length : Int) = 0 then ((part_Heads.f (-1) (⟨#[34, 116, 34]⟩ : ByteArray)).bind fun t173 => (if (t173.length : Int) = 0 then ((part_Tag.f kj18 ([] : List (S26))).bind fun t176 => (if t176.toList = ([] : List UInt8) then ((postilionlaw15_wakes.f kj18).bind fun t177 => (some t177)) else (some false))) else (some false))) else (some false))) else (some false)))) = some r := H
                  have A28 := Aside0.mk A280
                  clear A280
                  by_cases c29 : t162 = true
                  · subst c29
                    have H1 : (some false) = some r := by rw [if_pos rfl] at H; exact H
                    clear H
                    have H := H1
                    clear H1
                    obtain rfl := Option.some.inj H
                    cases hT
                  · replace c29 := Bool.eq_false_iff.mpr c29
                    subst c29
                    have H1 : ((api_Head.f kj18 t163 (([(⟨(⟨#[82, 97, 110, 103, 101]⟩ : ByteArray), (⟨#[98, 121, 116, 101, 115, 61, 49, 50, 45]⟩ : ByteArray)⟩ : S26), (⟨(⟨#[73, 102, 45, 82, 97, 110, 103, 101]⟩ : ByteArray), (⟨#[34, 116, 34]⟩ : ByteArray)⟩ : S26)] : List (S26)))).bind fun t169 => (if t169 = true then ((part_Heads.f 12 (⟨#[]⟩ : ByteArray)).bind fun t170 => (if (t170.length : Int) = 0 then ((part_Heads.f (-1) (⟨#[34, 116, 34]⟩ : ByteArray)).bind fun t173 => (if (t173.length : Int) = 0 then ((part_Tag.f kj18 ([] : List (S26))).bind fun t176 => (if t176.toList = ([] : List UInt8) then ((postilionlaw15_wakes.f kj18).bind fun t177 => (some t177)) else (some false))) else (some false))) else (some false))) else (some false))) = some r := by rw [if_neg (show ¬ (false = true) by decide)] at H; exact H
                    clear H
                    have H := H1
                    clear H1
                    obtain ⟨y166, hy166⟩ : ∃ y_ : List (S26), y_ = (([(⟨(⟨#[82, 97, 110, 103, 101]⟩ : ByteArray), (⟨#[98, 121, 116, 101, 115, 61, 49, 50, 45]⟩ : ByteArray)⟩ : S26), (⟨(⟨#[73, 102, 45, 82, 97, 110, 103, 101]⟩ : ByteArray), (⟨#[34, 116, 34]⟩ : ByteArray)⟩ : S26)] : List (S26))) := ⟨_, rfl⟩
                    replace H : ((api_Head.f kj18 t163 y166).bind fun t169 => (if t169 = true then ((part_Heads.f 12 (⟨#[]⟩ : ByteArray)).bind fun t170 => (if (t170.length : Int) = 0 then ((part_Heads.f (-1) (⟨#[34, 116, 34]⟩ : ByteArray)).bind fun t173 => (if (t173.length : Int) = 0 then ((part_Tag.f kj18 ([] : List (S26))).bind fun t176 => (if t176.toList = ([] : List UInt8) then ((postilionlaw15_wakes.f kj18).bind fun t177 => (some t177)) else (some false))) else (some false))) else (some false))) else (some false))) = some r := by first | (rw [hy166]; with_reducible exact H) | (have H2_ := (Option.bind_some _ _).symm.trans H; rw [hy166]; with_reducible exact H2_) | (have H2_ := (Option.bind_some _ _).symm.trans H; with_reducible exact H2_) | with_reducible exact H | (rw [hy166]; exact H) | exact H
                    have Ny166 := Aside0.mk hy166
                    clear hy166
                    replace H := Option.bind_eq_some_iff.mp H
                    obtain ⟨t169, A300, H⟩ := H
                    replace H : (if t169 = true then ((part_Heads.f 12 (⟨#[]⟩ : ByteArray)).bind fun t170 => (if (t170.length : Int) = 0 then ((part_Heads.f (-1) (⟨#[34, 116, 34]⟩ : ByteArray)).bind fun t173 => (if (t173.length : Int) = 0 then ((part_Tag.f kj18 ([] : List (S26))).bind fun t176 => (if t176.toList = ([] : List UInt8) then ((postilionlaw15_wakes.f kj18).bind fun t177 => (some t177)) else (some false))) else (some false))) else (some false))) else (some false)) = some r := H
                    have A30 := Aside0.mk A300
                    clear A300
                    by_cases c31 : t169 = true
                    · subst c31
                      have H1 : ((part_Heads.f 12 (⟨#[]⟩ : ByteArray)).bind fun t170 => (if (t170.length : Int) = 0 then ((part_Heads.f (-1) (⟨#[34, 116, 34]⟩ : ByteArray)).bind fun t173 => (if (t173.length : Int) = 0 then ((part_Tag.f kj18 ([] : List (S26))).bind fun t176 => (if t176.toList = ([] : List UInt8) then ((postilionlaw15_wakes.f kj18).bind fun t177 => (some t177)) else (some false))) else (some false))) else (some false))) = some r := by rw [if_pos rfl] at H; exact H
                      clear H
                      have H := H1
                      clear H1
                      replace H := Option.bind_eq_some_iff.mp H
                      obtain ⟨t170, A320, H⟩ := H
                      replace H : (if (t170.length : Int) = 0 then ((part_Heads.f (-1) (⟨#[34, 116, 34]⟩ : ByteArray)).bind fun t173 => (if (t173.length : Int) = 0 then ((part_Tag.f kj18 ([] : List (S26))).bind fun t176 => (if t176.toList = ([] : List UInt8) then ((postilionlaw15_wakes.f kj18).bind fun t177 => (some t177)) else (some false))) else (some false))) else (some false)) = some r := H
                      have A32 := Aside0.mk A320
                      clear A320
                      by_cases c33 : (t170.length : Int) = 0
                      · rw [if_pos c33] at H
                        have c33b0 : ((t170.length : Int) == 0) = true := beq_iff_eq.mpr c33
                        have c33b1 : ((t170.length : Int) != 0) = false := bne_eq_false_iff_eq.mpr c33
                        clear c33
                        replace H := Option.bind_eq_some_iff.mp H
                        obtain ⟨t173, A340, H⟩ := H
                        replace H : (if (t173.length : Int) = 0 then ((part_Tag.f kj18 ([] : List (S26))).bind fun t176 => (if t176.toList = ([] : List UInt8) then ((postilionlaw15_wakes.f kj18).bind fun t177 => (some t177)) else (some false))) else (some false)) = some r := H
                        have A34 := Aside0.mk A340
                        clear A340
                        by_cases c35 : (t173.length : Int) = 0
                        · rw [if_pos c35] at H
                          have c35b0 : ((t173.length : Int) == 0) = true := beq_iff_eq.mpr c35
                          have c35b1 : ((t173.length : Int) != 0) = false := bne_eq_false_iff_eq.mpr c35
                          clear c35
                          replace H := Option.bind_eq_some_iff.mp H
                          obtain ⟨t176, A360, H⟩ := H
                          replace H : (if t176.toList = ([] : List UInt8) then ((postilionlaw15_wakes.f kj18).bind fun t177 => (some t177)) else (some false)) = some r := H
                          have A36 := Aside0.mk A360
                          clear A360
                          by_cases c37 : t176.toList = ([] : List UInt8)
                          · rw [if_pos c37] at H
                            have c37b0 : (t176.toList == ([] : List UInt8)) = true := beq_iff_eq.mpr c37
                            have c37b1 : (t176.toList != ([] : List UInt8)) = false := bne_eq_false_iff_eq.mpr c37
                            clear c37
                            replace H := Option.bind_eq_some_iff.mp H
                            obtain ⟨t177, A380, H⟩ := H
                            replace H : (some t177) = some r := H
                            have A38 := Aside0.mk A380
                            clear A380
                            obtain rfl := Option.some.inj H
                            go_wp2_with (first | ((with_reducible refine gate_dst (N := 63) rfl ?_); (try (refine gate_guard (by rfl) ?_; dsimp only)); refine Kd.R_lit Kd.string _ 9 ?hg (N := 63) ?hd (xs := ([(⟨#[]⟩ : ByteArray), (⟨#[98, 121, 116, 101, 115]⟩ : ByteArray), (⟨#[98, 121, 116, 101, 115, 32, 51, 45, 55]⟩ : ByteArray), (⟨#[98, 121, 116, 101, 115, 32, 51, 45, 47, 56]⟩ : ByteArray), (⟨#[98, 121, 116, 101, 115, 32, 45, 55, 47, 56]⟩ : ByteArray), (⟨#[98, 121, 116, 101, 115, 32, 51, 45, 55, 47]⟩ : ByteArray), (⟨#[98, 121, 116, 101, 115, 32, 56, 45, 55, 47, 57]⟩ : ByteArray), (⟨#[98, 121, 116, 101, 115, 32, 51, 45, 56, 47, 56]⟩ : ByteArray), (⟨#[66, 121, 116, 101, 115, 32, 51, 45, 55, 47, 56]⟩ : ByteArray), (⟨#[98, 121, 116, 101, 115, 32, 32, 51, 45, 55, 47, 56]⟩ : ByteArray), (⟨#[98, 121, 116, 101, 115, 32, 51, 45, 55, 47, 56, 32]⟩ : ByteArray), (⟨#[98, 121, 116, 101, 115, 32, 120, 45, 55, 47, 56]⟩ : ByteArray), (⟨#[98, 121, 116, 101, 115, 32, 51, 45, 55, 47, 49, 50, 51, 52, 53, 54, 55]⟩ : ByteArray), (⟨#[98, 121, 116, 101, 115, 32, 42, 47, 56]⟩ : ByteArray), (⟨#[98, 121, 116, 101, 115, 32, 51, 45, 55, 45, 56, 47, 57]⟩ : ByteArray)] : List ByteArray)) (inner := [.string (⟨#[]⟩ : ByteArray), .string (⟨#[98, 121, 116, 101, 115]⟩ : ByteArray), .string (⟨#[98, 121, 116, 101, 115, 32, 51, 45, 55]⟩ : ByteArray), .string (⟨#[98, 121, 116, 101, 115, 32, 51, 45, 47, 56]⟩ : ByteArray), .string (⟨#[98, 121, 116, 101, 115, 32, 45, 55, 47, 56]⟩ : ByteArray), .string (⟨#[98, 121, 116, 101, 115, 32, 51, 45, 55, 47]⟩ : ByteArray), .string (⟨#[98, 121, 116, 101, 115, 32, 56, 45, 55, 47, 57]⟩ : ByteArray), .string (⟨#[98, 121, 116, 101, 115, 32, 51, 45, 56, 47, 56]⟩ : ByteArray), .string (⟨#[66, 121, 116, 101, 115, 32, 51, 45, 55, 47, 56]⟩ : ByteArray), .string (⟨#[98, 121, 116, 101, 115, 32, 32, 51, 45, 55, 47, 56]⟩ : ByteArray), .string (⟨#[98, 121, 116, 101, 115, 32, 51, 45, 55, 47, 56, 32]⟩ : ByteArray), .string (⟨#[98, 121, 116, 101, 115, 32, 120, 45, 55, 47, 56]⟩ : ByteArray), .string (⟨#[98, 121, 116, 101, 115, 32, 51, 45, 55, 47, 49, 50, 51, 52, 53, 54, 55]⟩ : ByteArray), .string (⟨#[98, 121, 116, 101, 115, 32, 42, 47, 56]⟩ : ByteArray), .string (⟨#[98, 121, 116, 101, 115, 32, 51, 45, 55, 45, 56, 47, 57]⟩ : ByteArray)]) (ok := fun _ => True) (okp := fun _ => True) ?hr ?hp (fun _ hk => hk) trivial (Below.refl _ _) (Nat.le_refl _) (by simp) ?_; (case hd => rfl); (case hg => rfl); (case hr => first | (go_simp; done) | (go_simp; rfl)); (case hp => exact (Reps.one (show Kd.M Kd.string _ _ _ (⟨#[]⟩ : ByteArray) [.string (⟨#[]⟩ : ByteArray)] from rfl) (Reps.one (show Kd.M Kd.string _ _ _ (⟨#[98, 121, 116, 101, 115]⟩ : ByteArray) [.string (⟨#[98, 121, 116, 101, 115]⟩ : ByteArray)] from rfl) (Reps.one (show Kd.M Kd.string _ _ _ (⟨#[98, 121, 116, 101, 115, 32, 51, 45, 55]⟩ : ByteArray) [.string (⟨#[98, 121, 116, 101, 115, 32, 51, 45, 55]⟩ : ByteArray)] from rfl) (Reps.one (show Kd.M Kd.string _ _ _ (⟨#[98, 121, 116, 101, 115, 32, 51, 45, 47, 56]⟩ : ByteArray) [.string (⟨#[98, 121, 116, 101, 115, 32, 51, 45, 47, 56]⟩ : ByteArray)] from rfl) (Reps.one (show Kd.M Kd.string _ _ _ (⟨#[98, 121, 116, 101, 115, 32, 45, 55, 47, 56]⟩ : ByteArray) [.string (⟨#[98, 121, 116, 101, 115, 32, 45, 55, 47, 56]⟩ : ByteArray)] from rfl) (Reps.one (show Kd.M Kd.string _ _ _ (⟨#[98, 121, 116, 101, 115, 32, 51, 45, 55, 47]⟩ : ByteArray) [.string (⟨#[98, 121, 116, 101, 115, 32, 51, 45, 55, 47]⟩ : ByteArray)] from rfl) (Reps.one (show Kd.M Kd.string _ _ _ (⟨#[98, 121, 116, 101, 115, 32, 56, 45, 55, 47, 57]⟩ : ByteArray) [.string (⟨#[98, 121, 116, 101, 115, 32, 56, 45, 55, 47, 57]⟩ : ByteArray)] from rfl) (Reps.one (show Kd.M Kd.string _ _ _ (⟨#[98, 121, 116, 101, 115, 32, 51, 45, 56, 47, 56]⟩ : ByteArray) [.string (⟨#[98, 121, 116, 101, 115, 32, 51, 45, 56, 47, 56]⟩ : ByteArray)] from rfl) (Reps.one (show Kd.M Kd.string _ _ _ (⟨#[66, 121, 116, 101, 115, 32, 51, 45, 55, 47, 56]⟩ : ByteArray) [.string (⟨#[66, 121, 116, 101, 115, 32, 51, 45, 55, 47, 56]⟩ : ByteArray)] from rfl) (Reps.one (show Kd.M Kd.string _ _ _ (⟨#[98, 121, 116, 101, 115, 32, 32, 51, 45, 55, 47, 56]⟩ : ByteArray) [.string (⟨#[98, 121, 116, 101, 115, 32, 32, 51, 45, 55, 47, 56]⟩ : ByteArray)] from rfl) (Reps.one (show Kd.M Kd.string _ _ _ (⟨#[98, 121, 116, 101, 115, 32, 51, 45, 55, 47, 56, 32]⟩ : ByteArray) [.string (⟨#[98, 121, 116, 101, 115, 32, 51, 45, 55, 47, 56, 32]⟩ : ByteArray)] from rfl) (Reps.one (show Kd.M Kd.string _ _ _ (⟨#[98, 121, 116, 101, 115, 32, 120, 45, 55, 47, 56]⟩ : ByteArray) [.string (⟨#[98, 121, 116, 101, 115, 32, 120, 45, 55, 47, 56]⟩ : ByteArray)] from rfl) (Reps.one (show Kd.M Kd.string _ _ _ (⟨#[98, 121, 116, 101, 115, 32, 51, 45, 55, 47, 49, 50, 51, 52, 53, 54, 55]⟩ : ByteArray) [.string (⟨#[98, 121, 116, 101, 115, 32, 51, 45, 55, 47, 49, 50, 51, 52, 53, 54, 55]⟩ : ByteArray)] from rfl) (Reps.one (show Kd.M Kd.string _ _ _ (⟨#[98, 121, 116, 101, 115, 32, 42, 47, 56]⟩ : ByteArray) [.string (⟨#[98, 121, 116, 101, 115, 32, 42, 47, 56]⟩ : ByteArray)] from rfl) (Reps.one (show Kd.M Kd.string _ _ _ (⟨#[98, 121, 116, 101, 115, 32, 51, 45, 55, 45, 56, 47, 57]⟩ : ByteArray) [.string (⟨#[98, 121, 116, 101, 115, 32, 51, 45, 55, 45, 56, 47, 57]⟩ : ByteArray)] from rfl) (Reps.none _ _))))))))))))))))); intro v155 w39 ho40 hb hg_ hnew_; clear hg_ hnew_; (first | rw [← Ny154.out] at ho40 | (simp only [Int.reduceToNat] at ho40; rw [← Ny154.out] at ho40)); have n0_ := Aside0.mk (Kd.R_lower ho40 (below_size (by repeat (first | (with_reducible first | exact HB.out | apply below_alloc | apply pw_below_drewN | apply below_drew1) | exact HB.out)))); have n1_ := Aside0.mk (below_step (by repeat (first | (with_reducible first | exact HB.out | apply below_alloc | apply pw_below_drewN | apply below_drew1) | exact HB.out)) hb); clear HB; have HO156 := n0_; have HB := n1_; clear n0_ n1_; clear hb ho40; obtain ⟨Ao41, co41, eo41⟩ := Kd.R_slice HO156.out; subst eo41) | ((with_reducible refine gate_callee (f := 11) rfl ?_); refine goesL_ (some 69) rfl rfl Tryd.func11 (by kernel_rfl) rfl #[.int .i64 a0, .int .i64 (y154.length : Int)] rfl (by (try simp only [List.map_toArray, List.map_cons, List.map_nil]); first | done | rfl | (simp only [List.length_drop, List.length_take]; rfl)) ?_; (with_reducible refine (postilionkeep_Within.calls a0 (y154.length : Int) t157 _ A24.out).mono ?_); rintro e w' ⟨rfl, ⟨nd, rfl⟩⟩; refine ⟨_, rfl, ?_⟩; have p158 : 0 ≤ (t157 : Int) := of_decide_eq_true (by first | (with_reducible assumption) | assumption); have q158 : t157 < (y154.length : Int) := of_decide_eq_true (by first | (with_reducible assumption) | assumption); obtain ⟨ad158, e158, hx158_0⟩ := Kd.at_string (Kd.R_reads' HO156.out).2.2 t157 p158 q158; cases e158; replace p158 := eq_true p158; replace q158 := eq_true q158) | ((with_reducible refine gate_callee (f := 10) rfl ?_); refine goesL_ (some 72) rfl rfl Tryd.func10 (by kernel_rfl) rfl #[.string (rdOf ByteArray.empty y154 t157)] rfl (by (try simp only [List.map_toArray, List.map_cons, List.map_nil]); first | done | rfl | (simp only [List.length_drop, List.length_take]; rfl)) ?_; (with_reducible refine (part_Span.calls kj18 (rdOf ByteArray.empty y154 t157) t159 t160 t161 false _ ?side1 A27.out).mono ?_); (case side1 => exact Gl.below hG (by repeat (first | (with_reducible first | exact HB.out | apply below_alloc | apply pw_below_drewN | apply below_drew1) | exact HB.out))); rintro e w' ⟨rfl, ⟨nd, rfl⟩⟩; refine ⟨_, rfl, ?_⟩) | ((with_reducible refine gate_callee (f := 12) rfl ?_); refine goesL_ (some 77) rfl rfl Tryd.func12 (by kernel_rfl) rfl #[.int .i64 12, .string (⟨#[34, 116, 34]⟩ : ByteArray)] rfl (by (try simp only [List.map_toArray, List.map_cons, List.map_nil]); first | done | rfl | (simp only [List.length_drop, List.length_take]; rfl)) ?_; (with_reducible refine (part_Heads.calls 12 (⟨#[34, 116, 34]⟩ : ByteArray) t163 _ ?side1 A28.out).mono ?_); (case side1 => exact Gl.below hG (by repeat (first | (with_reducible first | exact HB.out | apply below_alloc | apply pw_below_drewN | apply below_drew1) | exact HB.out))); rintro e w42 ⟨v164, rfl, ho0, hb⟩; refine ⟨_, rfl, ?_⟩; have n0_ := Aside0.mk (Kd.R_below (by (with_reducible repeat (first | apply Kd.R_alloc | apply Kd.R_drewN | apply Kd.R_drew)); exact HO156.out) hb); have n1_ := Aside0.mk (Kd.R_lower ho0 (below_size (by repeat (first | (with_reducible first | exact HB.out | apply below_alloc | apply pw_below_drewN | apply below_drew1) | exact HB.out)))); have n2_ := Aside0.mk (below_step (by repeat (first | (with_reducible first | exact HB.out | apply below_alloc | apply pw_below_drewN | apply below_drew1) | exact HB.out)) hb); clear HO156; clear HB; have HO156 := n0_; have HO165 := n1_; have HB := n2_; clear n0_ n1_ n2_; (try clear hb); (try clear hb2); (try clear hk); (try clear hi); (try clear ho0)) | ((with_reducible refine gate_dst (N := 84) rfl ?_); (try (refine gate_guard (by rfl) ?_; dsimp only)); refine Kd.R_lit k26 _ 26 ?hg (N := 84) ?hd (xs := ([(⟨(⟨#[82, 97, 110, 103, 101]⟩ : ByteArray), (⟨#[98, 121, 116, 101, 115, 61, 49, 50, 45]⟩ : ByteArray)⟩ : S26), (⟨(⟨#[73, 102, 45, 82, 97, 110, 103, 101]⟩ : ByteArray), (⟨#[34, 116, 34]⟩ : ByteArray)⟩ : S26)] : List (S26))) (inner := [.string (⟨#[82, 97, 110, 103, 101]⟩ : ByteArray), .string (⟨#[98, 121, 116, 101, 115, 61, 49, 50, 45]⟩ : ByteArray), .string (⟨#[73, 102, 45, 82, 97, 110, 103, 101]⟩ : ByteArray), .string (⟨#[34, 116, 34]⟩ : ByteArray)]) (ok := fun _ => True) (okp := fun _ => True) ?hr ?hp (fun _ hk => hk) trivial (Below.refl _ _) (Nat.le_refl _) (by simp) ?_; (case hd => rfl); (case hg => rfl); (case hr => first | (go_simp; done) | (go_simp; rfl)); (case hp => exact (Reps.c2 (show Kd.M k26 _ _ _ (⟨(⟨#[82, 97, 110, 103, 101]⟩ : ByteArray), (⟨#[98, 121, 116, 101, 115, 61, 49, 50, 45]⟩ : ByteArray)⟩ : S26) [.string (⟨#[82, 97, 110, 103, 101]⟩ : ByteArray), .string (⟨#[98, 121, 116, 101, 115, 61, 49, 50, 45]⟩ : ByteArray)] from (k26_mkM _ _ _ (⟨(⟨#[82, 97, 110, 103, 101]⟩ : ByteArray), (⟨#[98, 121, 116, 101, 115, 61, 49, 50, 45]⟩ : ByteArray)⟩ : S26) )) (Reps.c2 (show Kd.M k26 _ _ _ (⟨(⟨#[73, 102, 45, 82, 97, 110, 103, 101]⟩ : ByteArray), (⟨#[34, 116, 34]⟩ : ByteArray)⟩ : S26) [.string (⟨#[73, 102, 45, 82, 97, 110, 103, 101]⟩ : ByteArray), .string (⟨#[34, 116, 34]⟩ : ByteArray)] from (k26_mkM _ _ _ (⟨(⟨#[73, 102, 45, 82, 97, 110, 103, 101]⟩ : ByteArray), (⟨#[34, 116, 34]⟩ : ByteArray)⟩ : S26) )) (Reps.none _ _)))); intro v167 w43 ho44 hb hg_ hnew_; clear hg_ hnew_; (first | rw [← Ny166.out] at ho44 | (simp only [Int.reduceToNat] at ho44; rw [← Ny166.out] at ho44)); have n0_ := Aside0.mk (Kd.R_below (by (with_reducible repeat (first | apply Kd.R_alloc | apply Kd.R_drewN | apply Kd.R_drew)); exact HO156.out) hb); have n1_ := Aside0.mk (Kd.R_elder' (by (with_reducible repeat (first | apply Kd.R_alloc | apply Kd.R_drewN | apply Kd.R_drew)); exact HO165.out) (Kd.R_base ho44) hb); have n2_ := Aside0.mk (Kd.R_lower (Kd.R_new' ho44 (Kd.R_lt (by (with_reducible repeat (first | apply Kd.R_alloc | apply Kd.R_drewN | apply Kd.R_drew)); exact HO165.out))) (below_size (by repeat (first | (with_reducible first | exact HB.out | apply below_alloc | apply pw_below_drewN | apply below_drew1) | exact HB.out)))); have n3_ := Aside0.mk (below_step (by repeat (first | (with_reducible first | exact HB.out | apply below_alloc | apply pw_below_drewN | apply below_drew1) | exact HB.out)) hb); clear HO156; clear HO165; clear HB; have HO156 := n0_; have HO165 := n1_; have HO168 := n2_; have HB := n3_; clear n0_ n1_ n2_ n3_; clear hb ho44; obtain ⟨Ao45, co45, eo45⟩ := Kd.R_slice HO165.out; subst eo45; obtain ⟨Ao46, co46, eo46⟩ := Kd.R_slice HO168.out; subst eo46) | (go_at_call 13; (with_reducible refine (api_Head.calls kj18 _ _ t163 _ _ y166 true _ ?side1 ?side2 ?side3 ?side4 A30.out).mono ?_); (case side1 => repeat (first | exact (Kd.R_reads' HO165.out).2.2 | (with_reducible refine Kd.C_alloc ?_ _) | (with_reducible refine Kd.C_drewN ?_ _) | (with_reducible refine Kd.C_drew ?_))); (case side2 => exact (Kd.R_reads' HO165.out).2.1); (case side3 => repeat (first | exact (Kd.R_reads' HO168.out).2.2 | (with_reducible refine Kd.C_alloc ?_ _) | (with_reducible refine Kd.C_drewN ?_ _) | (with_reducible refine Kd.C_drew ?_))); (case side4 => exact (Kd.R_reads' HO168.out).2.1); rintro e w' ⟨rfl, ⟨nd, rfl⟩⟩) | (go_at_call 12; (with_reducible refine (part_Heads.calls 12 (⟨#[]⟩ : ByteArray) t170 _ ?side1 A32.out).mono ?_); (case side1 => exact Gl.below hG (by repeat (first | (with_reducible first | exact HB.out | apply below_alloc | apply pw_below_drewN | apply below_drew1) | exact HB.out))); rintro e w47 ⟨v171, rfl, ho0, hb⟩; have n0_ := Aside0.mk (Kd.R_below (by (with_reducible repeat (first | apply Kd.R_alloc | apply Kd.R_drewN | apply Kd.R_drew)); exact HO156.out) hb); have n1_ := Aside0.mk (Kd.R_elder' (by (with_reducible repeat (first | apply Kd.R_alloc | apply Kd.R_drewN | apply Kd.R_drew)); exact HO165.out) (Kd.R_base ho0) hb); have n2_ := Aside0.mk (Kd.R_elder' (by (with_reducible repeat (first | apply Kd.R_alloc | apply Kd.R_drewN | apply Kd.R_drew)); exact HO168.out) (Kd.R_base ho0) hb); have n3_ := Aside0.mk (Kd.R_lower (Kd.R_new' (Kd.R_new' ho0 (Kd.R_lt (by (with_reducible repeat (first | apply Kd.R_alloc | apply Kd.R_drewN | apply Kd.R_drew)); exact HO165.out))) (Kd.R_lt (by (with_reducible repeat (first | apply Kd.R_alloc | apply Kd.R_drewN | apply Kd.R_drew)); exact HO168.out))) (below_size (by repeat (first | (with_reducible first | exact HB.out | apply below_alloc | apply pw_below_drewN | apply below_drew1) | exact HB.out)))); have n4_ := Aside0.mk (below_step (by repeat (first | (with_reducible first | exact HB.out | apply below_alloc | apply pw_below_drewN | apply below_drew1) | exact HB.out)) hb); clear HO156; clear HO165; clear HO168; clear HB; have HO156 := n0_; have HO165 := n1_; have HO168 := n2_; have HO172 := n3_; have HB := n4_; clear n0_ n1_ n2_ n3_ n4_; (try clear hb); (try clear hb2); (try clear hk); (try clear hi); (try clear ho0); obtain ⟨Ao48, co48, eo48⟩ := Kd.R_slice HO172.out; subst eo48) | (go_at_call 12; (with_reducible refine (part_Heads.calls (-1) (⟨#[34, 116, 34]⟩ : ByteArray) t173 _ ?side1 A34.out).mono ?_); (case side1 => exact Gl.below hG (by repeat (first | (with_reducible first | exact HB.out | apply below_alloc | apply pw_below_drewN | apply below_drew1) | exact HB.out))); rintro e w49 ⟨v174, rfl, ho0, hb⟩; have n0_ := Aside0.mk (Kd.R_below (by (with_reducible repeat (first | apply Kd.R_alloc | apply Kd.R_drewN | apply Kd.R_drew)); exact HO156.out) hb); have n1_ := Aside0.mk (Kd.R_elder' (by (with_reducible repeat (first | apply Kd.R_alloc | apply Kd.R_drewN | apply Kd.R_drew)); exact HO165.out) (Kd.R_base ho0) hb); have n2_ := Aside0.mk (Kd.R_elder' (by (with_reducible repeat (first | apply Kd.R_alloc | apply Kd.R_drewN | apply Kd.R_drew)); exact HO168.out) (Kd.R_base ho0) hb); have n3_ := Aside0.mk (Kd.R_elder' (by (with_reducible repeat (first | apply Kd.R_alloc | apply Kd.R_drewN | apply Kd.R_drew)); exact HO172.out) (Kd.R_base ho0) hb); have n4_ := Aside0.mk (Kd.R_lower (Kd.R_new' (Kd.R_new' (Kd.R_new' ho0 (Kd.R_lt (by (with_reducible repeat (first | apply Kd.R_alloc | apply Kd.R_drewN | apply Kd.R_drew)); exact HO165.out))) (Kd.R_lt (by (with_reducible repeat (first | apply Kd.R_alloc | apply Kd.R_drewN | apply Kd.R_drew)); exact HO168.out))) (Kd.R_lt (by (with_reducible repeat (first | apply Kd.R_alloc | apply Kd.R_drewN | apply Kd.R_drew)); exact HO172.out))) (below_size (by repeat (first | (with_reducible first | exact HB.out | apply below_alloc | apply pw_below_drewN | apply below_drew1) | exact HB.out)))); have n5_ := Aside0.mk (below_step (by repeat (first | (with_reducible first | exact HB.out | apply below_alloc | apply pw_below_drewN | apply below_drew1) | exact HB.out)) hb); clear HO156; clear HO165; clear HO168; clear HO172; clear HB; have HO156 := n0_; have HO165 := n1_; have HO168 := n2_; have HO172 := n3_; have HO175 := n4_; have HB := n5_; clear n0_ n1_ n2_ n3_ n4_ n5_; (try clear hb); (try clear hb2); (try clear hk); (try clear hi); (try clear ho0); obtain ⟨Ao50, co50, eo50⟩ := Kd.R_slice HO175.out; subst eo50) | (go_at_call 9; (refine (part_Tag.calls kj18 _ _ ([] : List (S26)) t176 _ ?side1 ?side2 A36.out).mono ?_); (case side1 => exact Kd.C_nil _ _); (case side2 => exact Nat.le_refl _); rintro e w51 ⟨rfl, hb⟩; have n0_ := Aside0.mk (Kd.R_below (by (with_reducible repeat (first | apply Kd.R_alloc | apply Kd.R_drewN | apply Kd.R_drew)); exact HO156.out) hb); have n1_ := Aside0.mk (Kd.R_below (by (with_reducible repeat (first | apply Kd.R_alloc | apply Kd.R_drewN | apply Kd.R_drew)); exact HO165.out) hb); have n2_ := Aside0.mk (Kd.R_below (by (with_reducible repeat (first | apply Kd.R_alloc | apply Kd.R_drewN | apply Kd.R_drew)); exact HO168.out) hb); have n3_ := Aside0.mk (Kd.R_below (by (with_reducible repeat (first | apply Kd.R_alloc | apply Kd.R_drewN | apply Kd.R_drew)); exact HO172.out) hb); have n4_ := Aside0.mk (Kd.R_below (by (with_reducible repeat (first | apply Kd.R_alloc | apply Kd.R_drewN | apply Kd.R_drew)); exact HO175.out) hb); have n5_ := Aside0.mk (below_step (by repeat (first | (with_reducible first | exact HB.out | apply below_alloc | apply pw_below_drewN | apply below_drew1) | exact HB.out)) hb); clear HO156; clear HO165; clear HO168; clear HO172; clear HO175; clear HB; have HO156 := n0_; have HO165 := n1_; have HO168 := n2_; have HO172 := n3_; have HO175 := n4_; have HB := n5_; clear n0_ n1_ n2_ n3_ n4_ n5_; (try clear hb); (try clear hb2); (try clear hk); (try clear hi)) | (go_at_call 14; (with_reducible refine (postilionlaw15_wakes.calls kj18  t177 _ ?side1 A38.out).mono ?_); (case side1 => exact Gl.below hG (by repeat (first | (with_reducible first | exact HB.out | apply below_alloc | apply pw_below_drewN | apply below_drew1) | exact HB.out))); rintro e w52 ⟨rfl, hb⟩; have n0_ := Aside0.mk (Kd.R_below (by (with_reducible repeat (first | apply Kd.R_alloc | apply Kd.R_drewN | apply Kd.R_drew)); exact HO156.out) hb); have n1_ := Aside0.mk (Kd.R_below (by (with_reducible repeat (first | apply Kd.R_alloc | apply Kd.R_drewN | apply Kd.R_drew)); exact HO165.out) hb); have n2_ := Aside0.mk (Kd.R_below (by (with_reducible repeat (first | apply Kd.R_alloc | apply Kd.R_drewN | apply Kd.R_drew)); exact HO168.out) hb); have n3_ := Aside0.mk (Kd.R_below (by (with_reducible repeat (first | apply Kd.R_alloc | apply Kd.R_drewN | apply Kd.R_drew)); exact HO172.out) hb); have n4_ := Aside0.mk (Kd.R_below (by (with_reducible repeat (first | apply Kd.R_alloc | apply Kd.R_drewN | apply Kd.R_drew)); exact HO175.out) hb); have n5_ := Aside0.mk (below_step (by repeat (first | (with_reducible first | exact HB.out | apply below_alloc | apply pw_below_drewN | apply below_drew1) | exact HB.out)) hb); clear HO156; clear HO165; clear HO168; clear HO172; clear HO175; clear HB; have HO156 := n0_; have HO165 := n1_; have HO168 := n2_; have HO172 := n3_; have HO175 := n4_; have HB := n5_; clear n0_ n1_ n2_ n3_ n4_ n5_; (try clear hb); (try clear hb2); (try clear hk); (try clear hi)))
                            go_ret
                            exact ⟨by first | rfl | (simp [errW_none, errW_some] <;> rfl) | (simp [*, errW_none, errW_some] <;> rfl), by repeat (first | (with_reducible first | exact HB.out | apply below_alloc | apply pw_below_drewN | apply below_drew1) | exact HB.out)⟩
                          · rw [if_neg c37] at H
                            have c37b0 : (t176.toList == ([] : List UInt8)) = false := beq_eq_false_iff_ne.mpr c37
                            have c37b1 : (t176.toList != ([] : List UInt8)) = true := bne_iff_ne.mpr c37
                            obtain rfl := Option.some.inj H
                            cases hT
                        · rw [if_neg c35] at H
                          have c35b0 : ((t173.length : Int) == 0) = false := beq_eq_false_iff_ne.mpr c35
                          have c35b1 : ((t173.length : Int) != 0) = true := bne_iff_ne.mpr c35
                          have c35b2 : ¬ (t173 = []) := fun h_ => c35 (by rw [h_]; rfl)
                          obtain rfl := Option.some.inj H
                          cases hT
                      · rw [if_neg c33] at H
                        have c33b0 : ((t170.length : Int) == 0) = false := beq_eq_false_iff_ne.mpr c33
                        have c33b1 : ((t170.length : Int) != 0) = true := bne_iff_ne.mpr c33
                        have c33b2 : ¬ (t170 = []) := fun h_ => c33 (by rw [h_]; rfl)
                        obtain rfl := Option.some.inj H
                        cases hT
                    · replace c31 := Bool.eq_false_iff.mpr c31
                      subst c31
                      have H1 : (some false) = some r := by rw [if_neg (show ¬ (false = true) by decide)] at H; exact H
                      clear H
                      have H := H1
                      clear H1
                      obtain rfl := Option.some.inj H
                      cases hT
                · rw [if_neg c26] at H
                  exact absurd H (by simp)
              · rw [if_neg c25] at H
                exact absurd H (by simp)

/-- THE ONE PURE STATEMENT of postilionlaw15_PartForms: yours. -/
def postilionlaw15_PartForms.Pure : Prop := ∀ (a0 : Int), (Lit.int .i64 a0).wf = true → ∃ k, postilionlaw15_PartForms.f k a0 = some true
theorem postilionlaw15_PartForms.walk (P : postilionlaw15_PartForms.Pure) (a0 : Int) (w : World) (w0 : (Lit.int .i64 a0).wf = true) (hG : Gl w) :
    Calls Tryd.prog 3 #[.int .i64 a0] w fun e w' => e = .returned (.bool true) ∧ Below w.heap.size w w' := by
  obtain ⟨k, h⟩ := P a0 w0
  refine (postilionlaw15_PartForms.calls k a0 true w hG rfl h).mono ?_
  rintro e w' ⟨rfl, hd⟩
  exact ⟨rfl, hd⟩

end Go.Proofs.YtiabjeeelgkneaaDoor.GPartForms
