-- Made by this session's changed copy of the kit's printer (wip/myprint). Not trusted: Lean checks it.
import Derived.Test.YtiabjeeelgkneaaDoorGReplyCutsx0
import Derived.Test.YtiabjeeelgkneaaDoorGReplyCutsx1
import Derived.Test.YtiabjeeelgkneaaDoorGReplyCutsx4
import Derived.Test.YtiabjeeelgkneaaDoorGivR
namespace Go.Proofs.YtiabjeeelgkneaaDoor.GReplyCuts
open Go.RowKit Go.Proofs.YtiabjeeelgkneaaDoor.GivR Go.Proofs.YtiabjeeelgkneaaDoor.Mw Go.Proofs.YtiabjeeelgkneaaDoorW.PrintWords Go.Proofs.YtiabjeeelgkneaaDoorW.PrintLast Go.Proofs.YtiabjeeelgkneaaDoorW.PrintMore
attribute [local go_sem] max2_int min2_int max_two min_two max_three min_three max_four min_four   -- for this text's walks alone
set_option linter.unusedVariables false
set_option linter.unusedSimpArgs false

/-! ### postilionlaw09_ReplyCuts: function 8 -/
def postilionlaw09_ReplyCuts.l0 : Nat → Int → Int → ByteArray → ByteArray → Int → Option (Bool)
  | 0, _, _, _, _, _ => none
  | k + 1, x0, x1, x7, x8, x9 => if x8.toList = ([] : List UInt8) then ((some (([(wrap64 (48 + (Int.tmod x9 10))) % 256] : List Int) : List Int)).bind fun y172 => (if (strOfNums y172).size + x8.size ≤ 9223372036854775807 then (postilionlaw09_ReplyCuts.l0 k x0 x1 x7 ((strOfNums y172) ++ x8) (wrap64 (Int.tdiv x9 10))) else (none))) else (if x9 > 0 then ((some (([(wrap64 (48 + (Int.tmod x9 10))) % 256] : List Int) : List Int)).bind fun y175 => (if (strOfNums y175).size + x8.size ≤ 9223372036854775807 then (postilionlaw09_ReplyCuts.l0 k x0 x1 x7 ((strOfNums y175) ++ x8) (wrap64 (Int.tdiv x9 10))) else (none))) else ((some (([(⟨#[50, 48, 48]⟩ : ByteArray), (⟨#[50, 48, 54]⟩ : ByteArray), (⟨#[53, 48, 51]⟩ : ByteArray)] : List ByteArray) : List ByteArray)).bind fun y178 => ((postilionkeep_Within.f x0 3).bind fun t181 => (if 0 ≤ t181 then (if t181 < (y178.length : Int) then (if 9 + (rdOf ByteArray.empty y178 t181).size ≤ 9223372036854775807 then (if 9 + ((rdOf ByteArray.empty y178 t181).size) + 29 ≤ 9223372036854775807 then (if 9 + ((rdOf ByteArray.empty y178 t181).size) + 29 + x8.size ≤ 9223372036854775807 then (if 9 + ((rdOf ByteArray.empty y178 t181).size) + 29 + x8.size + 4 ≤ 9223372036854775807 then (if 9 + ((rdOf ByteArray.empty y178 t181).size) + 29 + x8.size + 4 + x7.size ≤ 9223372036854775807 then ((postilionkeep_Within.f x1 (wrap64 ((((((9 + ((rdOf ByteArray.empty y178 t181).size : Int)) + 29) + (x8.size : Int)) + 4) + (x7.size : Int)) + 1))).bind fun t183 => (if 0 ≤ t183 then (if t183 ≤ (((((9 + ((rdOf ByteArray.empty y178 t181).size : Int)) + 29) + (x8.size : Int)) + 4) + (x7.size : Int)) then ((reply_Parse.f k (((((((⟨#[72, 84, 84, 80, 47, 49, 46, 49, 32]⟩ : ByteArray) ++ (rdOf ByteArray.empty y178 t181)) ++ (⟨#[32, 45, 13, 10, 101, 116, 97, 103, 58, 32, 120, 13, 10, 67, 111, 110, 116, 101, 110, 116, 45, 76, 101, 110, 103, 116, 104, 58, 32]⟩ : ByteArray)) ++ x8) ++ (⟨#[13, 10, 13, 10]⟩ : ByteArray)) ++ x7).extract 0 (t183 : Int).toNat)).bind fun bt184 => (if t183 < ((((9 + ((rdOf ByteArray.empty y178 t181).size : Int)) + 29) + (x8.size : Int)) + 4) then (if bt184.2.2.2.2 = 2 then (if bt184.1 = 0 then (if bt184.2.2.1.toList = ([] : List UInt8) then ((postilionlaw09_wakes.f k).bind fun t192 => (some t192)) else (some false)) else (some false)) else (some false)) else (if bt184.2.2.2.2 = 0 then (if 0 ≤ ((((9 + ((rdOf ByteArray.empty y178 t181).size : Int)) + 29) + (x8.size : Int)) + 4) then (if ((((9 + ((rdOf ByteArray.empty y178 t181).size : Int)) + 29) + (x8.size : Int)) + 4) ≤ t183 then (if bt184.2.2.1.toList = (((((((⟨#[72, 84, 84, 80, 47, 49, 46, 49, 32]⟩ : ByteArray) ++ (rdOf ByteArray.empty y178 t181)) ++ (⟨#[32, 45, 13, 10, 101, 116, 97, 103, 58, 32, 120, 13, 10, 67, 111, 110, 116, 101, 110, 116, 45, 76, 101, 110, 103, 116, 104, 58, 32]⟩ : ByteArray)) ++ x8) ++ (⟨#[13, 10, 13, 10]⟩ : ByteArray)) ++ x7).extract (((((9 + ((rdOf ByteArray.empty y178 t181).size : Int)) + 29) + (x8.size : Int)) + 4) : Int).toNat (t183 : Int).toNat).toList then (if (bt184.2.2.2.1 == (decide (t183 < (((((9 + ((rdOf ByteArray.empty y178 t181).size : Int)) + 29) + (x8.size : Int)) + 4) + (x7.size : Int))))) = true then (if (bt184.2.1.length : Int) = 2 then ((postilionlaw09_wakes.f k).bind fun t193 => (some t193)) else (some false)) else (some false)) else (some false)) else (none)) else (none)) else (some false)))) else (none)) else (none))) else (none)) else (none)) else (none)) else (none)) else (none)) else (none)) else (none)))))
def postilionlaw09_ReplyCuts.f (k : Nat) (a0 : Int) (a1 : Int) (l2 : List Int) : Option (Bool) := (postilionkeep_Cut_byte.f l2 60).bind fun t169 => (postilionlaw09_ReplyCuts.l0 k a0 a1 (strOfNums t169) (⟨#[]⟩ : ByteArray) ((strOfNums t169).size : Int))
theorem postilionlaw09_ReplyCuts.mono_l : ∀ k, (∀ y0 y1 y2 y3 y4, LeO (postilionlaw09_ReplyCuts.l0 k y0 y1 y2 y3 y4) (postilionlaw09_ReplyCuts.l0 (k + 1) y0 y1 y2 y3 y4))
  | 0 => fun _ _ _ _ _ r h => by simp [postilionlaw09_ReplyCuts.l0] at h
  | k + 1 => by
    have ih0 := postilionlaw09_ReplyCuts.mono_l k
    · intro y0 y1 y2 y3 y4
      unfold postilionlaw09_ReplyCuts.l0
      repeat' first
      | (with_reducible exact ih0 _ _ _ _ _)
      | (with_reducible exact postilionlaw09_wakes.mono _)
      | (with_reducible exact reply_Parse.mono _ _)
      | (with_reducible exact LeO.refl _)
      | (with_reducible exact LeO.none _)
      | (with_reducible refine LeO.ite ?_ ?_)
      | (with_reducible refine LeO.bind ?_ (fun _ => ?_))
      | exact ih0 _ _ _ _ _
      | exact postilionlaw09_wakes.mono _
      | exact reply_Parse.mono _ _
      | exact LeO.none _
      | refine LeO.ite ?_ ?_
      | refine LeO.bind ?_ (fun _ => ?_)
theorem postilionlaw09_ReplyCuts.mono : ∀ a0 a1 a2 k, LeO (postilionlaw09_ReplyCuts.f k a0 a1 a2) (postilionlaw09_ReplyCuts.f (k + 1) a0 a1 a2) := by
  intro a0 a1 a2 k
  have ih0 := postilionlaw09_ReplyCuts.mono_l k
  unfold postilionlaw09_ReplyCuts.f
  repeat' first
      | (with_reducible exact ih0 _ _ _ _ _)
      | (with_reducible exact postilionlaw09_wakes.mono _)
      | (with_reducible exact reply_Parse.mono _ _)
      | (with_reducible exact LeO.refl _)
      | (with_reducible exact LeO.none _)
      | (with_reducible refine LeO.ite ?_ ?_)
      | (with_reducible refine LeO.bind ?_ (fun _ => ?_))
      | exact ih0 _ _ _ _ _
      | exact postilionlaw09_wakes.mono _
      | exact reply_Parse.mono _ _
      | exact LeO.none _
      | refine LeO.ite ?_ ?_
      | refine LeO.bind ?_ (fun _ => ?_)
def postilionlaw09_ReplyCuts.T13 : Bool × List (List Nat × List Nat) := (true, [([], []), ([0], [0]), ([1], [1]), ([2], [2]), ([3, 2], [2, 3]), ([2], [2]), ([2], [2]), ([6, 2], [2, 6]), ([2], [2]), ([5, 7, 8, 2], [2, 5, 7, 8]), ([4, 9, 2], [2, 4, 9]), ([2, 10], [2, 10]), ([11, 2], [11]), ([12], [12]), ([13, 12], [12, 13]), ([12], [12]), ([12], [12]), ([16, 12], [12, 16]), ([15, 17, 12], [12, 15, 17]), ([14, 18, 12], [12, 14, 18]), ([12, 19], [12, 19]), ([20, 12], [20]), ([21], [21]), ([22, 21], [21, 22]), ([23, 21], [21, 23]), ([24, 21], [21, 24]), ([21, 25], [21, 25]), ([26, 21], [26]), ([27, 27], [27]), ([27, 28], [27, 28]), ([29, 28, 0, 1, 2, 3, 4, 5, 6, 7, 8, 9, 10, 11, 12, 13, 14, 15, 16, 17, 18, 19, 20, 21, 22, 23, 24, 25, 26, 27, 28, 29], [29])])
def postilionlaw09_ReplyCuts.B13 : List Nat := [0, 1, 3, 7, 15, 7, 7, 71, 7, 487, 1023, 2047, 4095, 8191, 16383, 8191, 8191, 73727, 237567, 524287, 1048575, 2097151, 4194303, 8388607, 16777215, 33554431, 67108863, 134217727, 268435455, 536870911, 1073741823]
theorem postilionlaw09_ReplyCuts.tab13 : rtab .any (opsOf Tryd.f8 13) = postilionlaw09_ReplyCuts.T13 := by kernel_rfl
theorem postilionlaw09_ReplyCuts.bits13 : waitsOk postilionlaw09_ReplyCuts.T13.2 postilionlaw09_ReplyCuts.B13 = true := by kernel_rfl
set_option maxHeartbeats 8000000 in
set_option maxRecDepth 100000 in
theorem postilionlaw09_ReplyCuts.calls (k : Nat) (a0 : Int) (a1 : Int) (A2 : Option Addr) (c2 : Nat) (l2 : List Int) (r : Bool) (w : World) (hG : Gl w) (hr2 : Kd.C (Kd.int .u8) w A2 l2.length l2) (hc2 : l2.length ≤ c2) (hT : r = true) (h : postilionlaw09_ReplyCuts.f k a0 a1 l2 = some r) :
    Calls Tryd.prog 8 #[.int .i64 a0, .int .i64 a1, .slice A2 l2.length c2] w fun e w' => e = .returned (.bool r) ∧ Below w.heap.size w w' := by
  have hu45 := Tryd.underlying45
  have HR2 := Aside0.mk hr2
  have HC2 := Aside0.mk hc2
  clear hr2 hc2
  have HB := Aside0.mk (Below.refl w.heap.size w)
  have H : ((postilionkeep_Cut_byte.f l2 60).bind fun t169 => (postilionlaw09_ReplyCuts.l0 k a0 a1 (strOfNums t169) (⟨#[]⟩ : ByteArray) ((strOfNums t169).size : Int))) = some r := h
  clear h
  replace H := Option.bind_eq_some_iff.mp H
  obtain ⟨t169, A40, H⟩ := H
  replace H : (postilionlaw09_ReplyCuts.l0 k a0 a1 (strOfNums t169) (⟨#[]⟩ : ByteArray) ((strOfNums t169).size : Int)) = some r := H
  have A4 := Aside0.mk A40
  clear A40
  have H' := Aside0.mk H
  clear H
  go_enter Tryd.func8, Tryd.ntmps8
  go_wp2_with (first | ((with_reducible refine gate_callee (f := 26) rfl ?_); refine goesL_ (some 15) rfl rfl Tryd.func26 (by kernel_rfl) rfl #[.slice A2 l2.length c2, .int .i64 60] rfl (by (try simp only [List.map_toArray, List.map_cons, List.map_nil]); first | done | rfl | (simp only [List.length_drop, List.length_take]; rfl)) ?_; (with_reducible refine (postilionkeep_Cut_byte.calls _ _ l2 60 t169 _ ?side1 ?side2 A4.out).mono ?_); (case side1 => repeat (first | exact HR2.out | (with_reducible refine Kd.C_alloc ?_ _) | (with_reducible refine Kd.C_drewN ?_ _) | (with_reducible refine Kd.C_drew ?_))); (case side2 => exact HC2.out); rintro e w5 ⟨v170, rfl, ho0, hb⟩; refine ⟨_, rfl, ?_⟩; have n0_ := Aside0.mk (Kd.R_lower ho0 (below_size (by repeat (first | (with_reducible first | exact HB.out | apply below_alloc | apply pw_below_drewN | apply below_drew1) | exact HB.out)))); have n1_ := Aside0.mk (below_step (by repeat (first | (with_reducible first | exact HB.out | apply below_alloc | apply pw_below_drewN | apply below_drew1) | exact HB.out)) hb); clear HB; have HO171 := n0_; have HB := n1_; clear n0_ n1_; (try clear hb); (try clear hb2); (try clear hk); (try clear hi); (try clear ho0); have hcv6 := own_string (P := Tryd.prog) Tryd.underlying49 Tryd.underlying5 Tryd.underlying9 (Kd.own_of_R HO171.out)))
  go_loopg [8, 9] k (fun kq v8 v9 w' => ∃ (x8_1 : ByteArray) (x9_1 : Int), v8 = .string x8_1 ∧ v9 = .int .i64 x9_1 ∧ Aside0 (postilionlaw09_ReplyCuts.l0 kq a0 a1 (strOfNums t169) x8_1 x9_1 = some r) ∧ Aside0 (kq ≤ k) ∧ Aside0 (Below w.heap.size w w'))
  case atStart => exact ⟨((⟨#[]⟩ : ByteArray)), (((strOfNums t169).size : Int)), (by first | rfl | (simp; done) | (simp [*]; done)), (by first | rfl | (simp; done) | (simp [*]; done)), H', ⟨Nat.le_refl _⟩, ⟨by repeat (first | (with_reducible first | exact HB.out | apply below_alloc | apply pw_below_drewN | apply below_drew1) | exact HB.out)⟩⟩
  case round =>
    clear H'
    try clear c2
    try clear p2
    try clear hcv6
    obtain ⟨x8_1, x9_1, rfl, rfl, HA, HK1, HB⟩ := hrel
    cases gk with
    | zero => exact absurd HA.out (by simp [postilionlaw09_ReplyCuts.l0])
    | succ k1 =>
      have H := HA.out
      clear HA
      simp only [postilionlaw09_ReplyCuts.l0] at H
      by_cases c7 : x8_1.toList = ([] : List UInt8)
      · rw [if_pos c7] at H
        have c7b0 : (x8_1.toList == ([] : List UInt8)) = true := beq_iff_eq.mpr c7
        have c7b1 : (x8_1.toList != ([] : List UInt8)) = false := bne_eq_false_iff_eq.mpr c7
        clear c7
        obtain ⟨y172, hy172⟩ : ∃ y_ : List Int, y_ = (([(wrap64 (48 + (Int.tmod x9_1 10))) % 256] : List Int)) := ⟨_, rfl⟩
        replace H : (if (strOfNums y172).size + x8_1.size ≤ 9223372036854775807 then (postilionlaw09_ReplyCuts.l0 k1 a0 a1 (strOfNums t169) ((strOfNums y172) ++ x8_1) (wrap64 (Int.tdiv x9_1 10))) else (none)) = some r := by first | (rw [hy172]; with_reducible exact H) | (have H2_ := (Option.bind_some _ _).symm.trans H; rw [hy172]; with_reducible exact H2_) | (have H2_ := (Option.bind_some _ _).symm.trans H; with_reducible exact H2_) | with_reducible exact H | (rw [hy172]; exact H) | exact H
        have Ny172 := Aside0.mk hy172
        clear hy172
        by_cases c8 : (strOfNums y172).size + x8_1.size ≤ 9223372036854775807
        · rw [if_pos c8] at H
          have c8b0 := eq_true c8
          have c8b1 : decide ((strOfNums y172).size + x8_1.size ≤ 9223372036854775807) = true := decide_eq_true c8
          try have c8b2 : (9223372036854775807 < (strOfNums y172).size + x8_1.size) = False := eq_false (Nat.not_lt.2 c8)
          have H' := Aside0.mk H
          clear H
          go_wp2_with (first | ((with_reducible refine gate_dst (N := 31) rfl ?_); (try (refine gate_guard (by rfl) ?_; dsimp only)); refine Kd.R_lit (Kd.int .u8) _ 5 ?hg (N := 31) ?hd (xs := ([(wrap64 (48 + (Int.tmod x9_1 10))) % 256] : List Int)) (inner := [.int .u8 ((wrap64 (48 + (Int.tmod x9_1 10))) % 256)]) (ok := fun _ => True) (okp := fun _ => True) ?hr ?hp (fun _ hk => hk) trivial (Below.refl _ _) (Nat.le_refl _) (by simp) ?_; (case hd => rfl); (case hg => rfl); (case hr => first | (go_simp; done) | (go_simp; rfl)); (case hp => exact (Reps.one (show Kd.M (Kd.int .u8) _ _ _ ((wrap64 (48 + (Int.tmod x9_1 10))) % 256) [.int .u8 ((wrap64 (48 + (Int.tmod x9_1 10))) % 256)] from rfl) (Reps.none _ _))); intro v173 w9 ho10 hb hg_ hnew_; clear hg_ hnew_; (first | rw [← Ny172.out] at ho10 | (simp only [Int.reduceToNat] at ho10; rw [← Ny172.out] at ho10)); have n0_ := Aside0.mk (Kd.R_lower ho10 (below_size (by repeat (first | (with_reducible first | exact HB.out | apply below_alloc | apply pw_below_drewN | apply below_drew1) | exact HB.out)))); have n1_ := Aside0.mk (below_step (by repeat (first | (with_reducible first | exact HB.out | apply below_alloc | apply pw_below_drewN | apply below_drew1) | exact HB.out)) hb); clear HB; have HO174 := n0_; have HB := n1_; clear n0_ n1_; clear hb ho10; have hcv11 := own_string (P := Tryd.prog) Tryd.underlying49 Tryd.underlying5 Tryd.underlying9 (Kd.own_of_R HO174.out)))
          go_roundg k1
          case measure => have := HK1.out; omega
          case rel => exact ⟨((strOfNums y172) ++ x8_1), (wrap64 (Int.tdiv x9_1 10)), (by first | rfl | (simp; done) | (simp [*]; done)), (by first | rfl | (simp; done) | (simp [*]; done)), H', ⟨by have := HK1.out; omega⟩, ⟨by repeat (first | (with_reducible first | exact HB.out | apply below_alloc | apply pw_below_drewN | apply below_drew1) | exact HB.out)⟩⟩
        · rw [if_neg c8] at H
          exact absurd H (by simp)
      · rw [if_neg c7] at H
        have c7b0 : (x8_1.toList == ([] : List UInt8)) = false := beq_eq_false_iff_ne.mpr c7
        have c7b1 : (x8_1.toList != ([] : List UInt8)) = true := bne_iff_ne.mpr c7
        by_cases c12 : x9_1 > 0
        · rw [if_pos c12] at H
          have c12b0 : decide (0 < x9_1) = true := decide_eq_true c12
          clear c12
          obtain ⟨y175, hy175⟩ : ∃ y_ : List Int, y_ = (([(wrap64 (48 + (Int.tmod x9_1 10))) % 256] : List Int)) := ⟨_, rfl⟩
          replace H : (if (strOfNums y175).size + x8_1.size ≤ 9223372036854775807 then (postilionlaw09_ReplyCuts.l0 k1 a0 a1 (strOfNums t169) ((strOfNums y175) ++ x8_1) (wrap64 (Int.tdiv x9_1 10))) else (none)) = some r := by first | (rw [hy175]; with_reducible exact H) | (have H2_ := (Option.bind_some _ _).symm.trans H; rw [hy175]; with_reducible exact H2_) | (have H2_ := (Option.bind_some _ _).symm.trans H; with_reducible exact H2_) | with_reducible exact H | (rw [hy175]; exact H) | exact H
          have Ny175 := Aside0.mk hy175
          clear hy175
          by_cases c13 : (strOfNums y175).size + x8_1.size ≤ 9223372036854775807
          · rw [if_pos c13] at H
            have c13b0 := eq_true c13
            have c13b1 : decide ((strOfNums y175).size + x8_1.size ≤ 9223372036854775807) = true := decide_eq_true c13
            try have c13b2 : (9223372036854775807 < (strOfNums y175).size + x8_1.size) = False := eq_false (Nat.not_lt.2 c13)
            have H' := Aside0.mk H
            clear H
            go_wp2_with (first | ((with_reducible refine gate_dst (N := 31) rfl ?_); (try (refine gate_guard (by rfl) ?_; dsimp only)); refine Kd.R_lit (Kd.int .u8) _ 5 ?hg (N := 31) ?hd (xs := ([(wrap64 (48 + (Int.tmod x9_1 10))) % 256] : List Int)) (inner := [.int .u8 ((wrap64 (48 + (Int.tmod x9_1 10))) % 256)]) (ok := fun _ => True) (okp := fun _ => True) ?hr ?hp (fun _ hk => hk) trivial (Below.refl _ _) (Nat.le_refl _) (by simp) ?_; (case hd => rfl); (case hg => rfl); (case hr => first | (go_simp; done) | (go_simp; rfl)); (case hp => exact (Reps.one (show Kd.M (Kd.int .u8) _ _ _ ((wrap64 (48 + (Int.tmod x9_1 10))) % 256) [.int .u8 ((wrap64 (48 + (Int.tmod x9_1 10))) % 256)] from rfl) (Reps.none _ _))); intro v176 w14 ho15 hb hg_ hnew_; clear hg_ hnew_; (first | rw [← Ny175.out] at ho15 | (simp only [Int.reduceToNat] at ho15; rw [← Ny175.out] at ho15)); have n0_ := Aside0.mk (Kd.R_lower ho15 (below_size (by repeat (first | (with_reducible first | exact HB.out | apply below_alloc | apply pw_below_drewN | apply below_drew1) | exact HB.out)))); have n1_ := Aside0.mk (below_step (by repeat (first | (with_reducible first | exact HB.out | apply below_alloc | apply pw_below_drewN | apply below_drew1) | exact HB.out)) hb); clear HB; have HO177 := n0_; have HB := n1_; clear n0_ n1_; clear hb ho15; have hcv16 := own_string (P := Tryd.prog) Tryd.underlying49 Tryd.underlying5 Tryd.underlying9 (Kd.own_of_R HO177.out)))
            go_roundg k1
            case measure => have := HK1.out; omega
            case rel => exact ⟨((strOfNums y175) ++ x8_1), (wrap64 (Int.tdiv x9_1 10)), (by first | rfl | (simp; done) | (simp [*]; done)), (by first | rfl | (simp; done) | (simp [*]; done)), H', ⟨by have := HK1.out; omega⟩, ⟨by repeat (first | (with_reducible first | exact HB.out | apply below_alloc | apply pw_below_drewN | apply below_drew1) | exact HB.out)⟩⟩
          · rw [if_neg c13] at H
            exact absurd H (by simp)
        · rw [if_neg c12] at H
          have c12b0 : decide (0 < x9_1) = false := decide_eq_false c12
          clear c12
          obtain ⟨y178, hy178⟩ : ∃ y_ : List ByteArray, y_ = (([(⟨#[50, 48, 48]⟩ : ByteArray), (⟨#[50, 48, 54]⟩ : ByteArray), (⟨#[53, 48, 51]⟩ : ByteArray)] : List ByteArray)) := ⟨_, rfl⟩
          replace H : ((postilionkeep_Within.f a0 3).bind fun t181 => (if 0 ≤ t181 then (if t181 < (y178.length : Int) then (if 9 + (rdOf ByteArray.empty y178 t181).size ≤ 9223372036854775807 then (if 9 + ((rdOf ByteArray.empty y178 t181).size) + 29 ≤ 9223372036854775807 then (if 9 + ((rdOf ByteArray.empty y178 t181).size) + 29 + x8_1.size ≤ 9223372036854775807 then (if 9 + ((rdOf ByteArray.empty y178 t181).size) + 29 + x8_1.size + 4 ≤ 9223372036854775807 then (if 9 + ((rdOf ByteArray.empty y178 t181).size) + 29 + x8_1.size + 4 + (strOfNums t169).size ≤ 9223372036854775807 then ((postilionkeep_Within.f a1 (wrap64 ((((((9 + ((rdOf ByteArray.empty y178 t181).size : Int)) + 29) + (x8_1.size : Int)) + 4) + ((strOfNums t169).size : Int)) + 1))).bind fun t183 => (if 0 ≤ t183 then (if t183 ≤ (((((9 + ((rdOf ByteArray.empty y178 t181).size : Int)) + 29) + (x8_1.size : Int)) + 4) + ((strOfNums t169).size : Int)) then ((reply_Parse.f k1 (((((((⟨#[72, 84, 84, 80, 47, 49, 46, 49, 32]⟩ : ByteArray) ++ (rdOf ByteArray.empty y178 t181)) ++ (⟨#[32, 45, 13, 10, 101, 116, 97, 103, 58, 32, 120, 13, 10, 67, 111, 110, 116, 101, 110, 116, 45, 76, 101, 110, 103, 116, 104, 58, 32]⟩ : ByteArray)) ++ x8_1) ++ (⟨#[13, 10, 13, 10]⟩ : ByteArray)) ++ (strOfNums t169)).extract 0 (t183 : Int).toNat)).bind fun bt184 => (if t183 < ((((9 + ((rdOf ByteArray.empty y178 t181).size : Int)) + 29) + (x8_1.size : Int)) + 4) then (if bt184.2.2.2.2 = 2 then (if bt184.1 = 0 then (if bt184.2.2.1.toList = ([] : List UInt8) then ((postilionlaw09_wakes.f k1).bind fun t192 => (some t192)) else (some false)) else (some false)) else (some false)) else (if bt184.2.2.2.2 = 0 then (if 0 ≤ ((((9 + ((rdOf ByteArray.empty y178 t181).size : Int)) + 29) + (x8_1.size : Int)) + 4) then (if ((((9 + ((rdOf ByteArray.empty y178 t181).size : Int)) + 29) + (x8_1.size : Int)) + 4) ≤ t183 then (if bt184.2.2.1.toList = (((((((⟨#[72, 84, 84, 80, 47, 49, 46, 49, 32]⟩ : ByteArray) ++ (rdOf ByteArray.empty y178 t181)) ++ (⟨#[32, 45, 13, 10, 101, 116, 97, 103, 58, 32, 120, 13, 10, 67, 111, 110, 116, 101, 110, 116, 45, 76, 101, 110, 103, 116, 104, 58, 32]⟩ : ByteArray)) ++ x8_1) ++ (⟨#[13, 10, 13, 10]⟩ : ByteArray)) ++ (strOfNums t169)).extract (((((9 + ((rdOf ByteArray.empty y178 t181).size : Int)) + 29) + (x8_1.size : Int)) + 4) : Int).toNat (t183 : Int).toNat).toList then (if (bt184.2.2.2.1 == (decide (t183 < (((((9 + ((rdOf ByteArray.empty y178 t181).size : Int)) + 29) + (x8_1.size : Int)) + 4) + ((strOfNums t169).size : Int))))) = true then (if (bt184.2.1.length : Int) = 2 then ((postilionlaw09_wakes.f k1).bind fun t193 => (some t193)) else (some false)) else (some false)) else (some false)) else (none)) else (none)) else (some false)))) else (none)) else (none))) else (none)) else (none)) else (none)) else (none)) else (none)) else (none)) else (none))) = some r := by first | (rw [hy178]; with_reducible exact H) | (have H2_ := (Option.bind_some _ _).symm.trans H; rw [hy178]; with_reducible exact H2_) | (have H2_ := (Option.bind_some _ _).symm.trans H; with_reducible exact H2_) | with_reducible exact H | (rw [hy178]; exact H) | exact H
          have Ny178 := Aside0.mk hy178
          clear hy178
          replace H := Option.bind_eq_some_iff.mp H
          obtain ⟨t181, A170, H⟩ := H
          replace H : (if 0 ≤ t181 then (if t181 < (y178.length : Int) then (if 9 + (rdOf ByteArray.empty y178 t181).size ≤ 9223372036854775807 then (if 9 + ((rdOf ByteArray.empty y178 t181).size) + 29 ≤ 9223372036854775807 then (if 9 + ((rdOf ByteArray.empty y178 t181).size) + 29 + x8_1.size ≤ 9223372036854775807 then (if 9 + ((rdOf ByteArray.empty y178 t181).size) + 29 + x8_1.size + 4 ≤ 9223372036854775807 then (if 9 + ((rdOf ByteArray.empty y178 t181).size) + 29 + x8_1.size + 4 + (strOfNums t169).size ≤ 9223372036854775807 then ((postilionkeep_Within.f a1 (wrap64 ((((((9 + ((rdOf ByteArray.empty y178 t181).size : Int)) + 29) + (x8_1.size : Int)) + 4) + ((strOfNums t169).size : Int)) + 1))).bind fun t183 => (if 0 ≤ t183 then (if t183 ≤ (((((9 + ((rdOf ByteArray.empty y178 t181).size : Int)) + 29) + (x8_1.size : Int)) + 4) + ((strOfNums t169).size : Int)) then ((reply_Parse.f k1 (((((((⟨#[72, 84, 84, 80, 47, 49, 46, 49, 32]⟩ : ByteArray) ++ (rdOf ByteArray.empty y178 t181)) ++ (⟨#[32, 45, 13, 10, 101, 116, 97, 103, 58, 32, 120, 13, 10, 67, 111, 110, 116, 101, 110, 116, 45, 76, 101, 110, 103, 116, 104, 58, 32]⟩ : ByteArray)) ++ x8_1) ++ (⟨#[13, 10, 13, 10]⟩ : ByteArray)) ++ (strOfNums t169)).extract 0 (t183 : Int).toNat)).bind fun bt184 => (if t183 < ((((9 + ((rdOf ByteArray.empty y178 t181).size : Int)) + 29) + (x8_1.size : Int)) + 4) then (if bt184.2.2.2.2 = 2 then (if bt184.1 = 0 then (if bt184.2.2.1.toList = ([] : List UInt8) then ((postilionlaw09_wakes.f k1).bind fun t192 => (some t192)) else (some false)) else (some false)) else (some false)) else (if bt184.2.2.2.2 = 0 then (if 0 ≤ ((((9 + ((rdOf ByteArray.empty y178 t181).size : Int)) + 29) + (x8_1.size : Int)) + 4) then (if ((((9 + ((rdOf ByteArray.empty y178 t181).size : Int)) + 29) + (x8_1.size : Int)) + 4) ≤ t183 then (if bt184.2.2.1.toList = (((((((⟨#[72, 84, 84, 80, 47, 49, 46, 49, 32]⟩ : ByteArray) ++ (rdOf ByteArray.empty y178 t181)) ++ (⟨#[32, 45, 13, 10, 101, 116, 97, 103, 58, 32, 120, 13, 10, 67, 111, 110, 116, 101, 110, 116, 45, 76, 101, 110, 103, 116, 104, 58, 32]⟩ : ByteArray)) ++ x8_1) ++ (⟨#[13, 10, 13, 10]⟩ : ByteArray)) ++ (strOfNums t169)).extract (((((9 + ((rdOf ByteArray.empty y178 t181).size : Int)) + 29) + (x8_1.size : Int)) + 4) : Int).toNat (t183 : Int).toNat).toList then (if (bt184.2.2.2.1 == (decide (t183 < (((((9 + ((rdOf ByteArray.empty y178 t181).size : Int)) + 29) + (x8_1.size : Int)) + 4) + ((strOfNums t169).size : Int))))) = true then (if (bt184.2.1.length : Int) = 2 then ((postilionlaw09_wakes.f k1).bind fun t193 => (some t193)) else (some false)) else (some false)) else (some false)) else (none)) else (none)) else (some false)))) else (none)) else (none))) else (none)) else (none)) else (none)) else (none)) else (none)) else (none)) else (none)) = some r := H
          have A17 := Aside0.mk A170
          clear A170
          by_cases c18 : 0 ≤ t181
          · rw [if_pos c18] at H
            have c18b0 : decide (0 ≤ t181) = true := decide_eq_true c18
            clear c18
            by_cases c19 : t181 < (y178.length : Int)
            · rw [if_pos c19] at H
              have c19b0 : decide (t181 < (y178.length : Int)) = true := decide_eq_true c19
              clear c19
              by_cases c20 : 9 + (rdOf ByteArray.empty y178 t181).size ≤ 9223372036854775807
              · rw [if_pos c20] at H
                have c20b0 := eq_true c20
                have c20b1 : decide (9 + (rdOf ByteArray.empty y178 t181).size ≤ 9223372036854775807) = true := decide_eq_true c20
                try have c20b2 : (9223372036854775807 < 9 + (rdOf ByteArray.empty y178 t181).size) = False := eq_false (Nat.not_lt.2 c20)
                by_cases c21 : 9 + ((rdOf ByteArray.empty y178 t181).size) + 29 ≤ 9223372036854775807
                · rw [if_pos c21] at H
                  have c21b0 := eq_true c21
                  have c21b1 : decide (9 + ((rdOf ByteArray.empty y178 t181).size) + 29 ≤ 9223372036854775807) = true := decide_eq_true c21
                  try have c21b2 : (9223372036854775807 < 9 + ((rdOf ByteArray.empty y178 t181).size) + 29) = False := eq_false (Nat.not_lt.2 c21)
                  by_cases c22 : 9 + ((rdOf ByteArray.empty y178 t181).size) + 29 + x8_1.size ≤ 9223372036854775807
                  · rw [if_pos c22] at H
                    have c22b0 := eq_true c22
                    have c22b1 : decide (9 + ((rdOf ByteArray.empty y178 t181).size) + 29 + x8_1.size ≤ 9223372036854775807) = true := decide_eq_true c22
                    try have c22b2 : (9223372036854775807 < 9 + ((rdOf ByteArray.empty y178 t181).size) + 29 + x8_1.size) = False := eq_false (Nat.not_lt.2 c22)
                    by_cases c23 : 9 + ((rdOf ByteArray.empty y178 t181).size) + 29 + x8_1.size + 4 ≤ 9223372036854775807
                    · rw [if_pos c23] at H
                      have c23b0 := eq_true c23
                      have c23b1 : decide (9 + ((rdOf ByteArray.empty y178 t181).size) + 29 + x8_1.size + 4 ≤ 9223372036854775807) = true := decide_eq_true c23
                      try have c23b2 : (9223372036854775807 < 9 + ((rdOf ByteArray.empty y178 t181).size) + 29 + x8_1.size + 4) = False := eq_false (Nat.not_lt.2 c23)
                      by_cases c24 : 9 + ((rdOf ByteArray.empty y178 t181).size) + 29 + x8_1.size + 4 + (strOfNums t169).size ≤ 9223372036854775807
                      · rw [if_pos c24] at H
                        have c24b0 := eq_true c24
                        have c24b1 : decide (9 + ((rdOf ByteArray.empty y178 t181).size) + 29 + x8_1.size + 4 + (strOfNums t169).size ≤ 9223372036854775807) = true := decide_eq_true c24
                        try have c24b2 : (9223372036854775807 < 9 + ((rdOf ByteArray.empty y178 t181).size) + 29 + x8_1.size + 4 + (strOfNums t169).size) = False := eq_false (Nat.not_lt.2 c24)
                        replace H := Option.bind_eq_some_iff.mp H
                        obtain ⟨t183, A250, H⟩ := H
                        replace H : (if 0 ≤ t183 then (if t183 ≤ (((((9 + ((rdOf ByteArray.empty y178 t181).size : Int)) + 29) + (x8_1.size : Int)) + 4) + ((strOfNums t169).size : Int)) then ((reply_Parse.f k1 (((((((⟨#[72, 84, 84, 80, 47, 49, 46, 49, 32]⟩ : ByteArray) ++ (rdOf ByteArray.empty y178 t181)) ++ (⟨#[32, 45, 13, 10, 101, 116, 97, 103, 58, 32, 120, 13, 10, 67, 111, 110, 116, 101, 110, 116, 45, 76, 101, 110, 103, 116, 104, 58, 32]⟩ : ByteArray)) ++ x8_1) ++ (⟨#[13, 10, 13, 10]⟩ : ByteArray)) ++ (strOfNums t169)).extract 0 (t183 : Int).toNat)).bind fun bt184 => (if t183 < ((((9 + ((rdOf ByteArray.empty y178 t181).size : Int)) + 29) + (x8_1.size : Int)) + 4) then (if bt184.2.2.2.2 = 2 then (if bt184.1 = 0 then (if bt184.2.2.1.toList = ([] : List UInt8) then ((postilionlaw09_wakes.f k1).bind fun t192 => (some t192)) else (some false)) else (some false)) else (some false)) else (if bt184.2.2.2.2 = 0 then (if 0 ≤ ((((9 + ((rdOf ByteArray.empty y178 t181).size : Int)) + 29) + (x8_1.size : Int)) + 4) then (if ((((9 + ((rdOf ByteArray.empty y178 t181).size : Int)) + 29) + (x8_1.size : Int)) + 4) ≤ t183 then (if bt184.2.2.1.toList = (((((((⟨#[72, 84, 84, 80, 47, 49, 46, 49, 32]⟩ : ByteArray) ++ (rdOf ByteArray.empty y178 t181)) ++ (⟨#[32, 45, 13, 10, 101, 116, 97, 103, 58, 32, 120, 13, 10, 67, 111, 110, 116, 101, 110, 116, 45, 76, 101, 110, 103, 116, 104, 58, 32]⟩ : ByteArray)) ++ x8_1) ++ (⟨#[13, 10, 13, 10]⟩ : ByteArray)) ++ (strOfNums t169)).extract (((((9 + ((rdOf ByteArray.empty y178 t181).size : Int)) + 29) + (x8_1.size : Int)) + 4) : Int).toNat (t183 : Int).toNat).toList then (if (bt184.2.2.2.1 == (decide (t183 < (((((9 + ((rdOf ByteArray.empty y178 t181).size : Int)) + 29) + (x8_1.size : Int)) + 4) + ((strOfNums t169).size : Int))))) = true then (if (bt184.2.1.length : Int) = 2 then ((postilionlaw09_wakes.f k1).bind fun t193 => (some t193)) else (some false)) else (some false)) else (some false)) else (none)) else (none)) else (some false)))) else (none)) else (none)) = some r := H
                        have A25 := Aside0.mk A250
                        clear A250
                        by_cases c26 : 0 ≤ t183
                        · rw [if_pos c26] at H
                          have c26b0 := eq_true c26
                          have c26b1 : decide (0 ≤ t183) = true := decide_eq_true c26
                          clear c26
                          by_cases c27 : t183 ≤ (((((9 + ((rdOf ByteArray.empty y178 t181).size : Int)) + 29) + (x8_1.size : Int)) + 4) + ((strOfNums t169).size : Int))
                          · rw [if_pos c27] at H
                            have c27b0 := eq_true c27
                            have c27b1 : decide (t183 ≤ (((((9 + ((rdOf ByteArray.empty y178 t181).size : Int)) + 29) + (x8_1.size : Int)) + 4) + ((strOfNums t169).size : Int))) = true := decide_eq_true c27
                            replace H := Option.bind_eq_some_iff.mp H
                            obtain ⟨⟨t184, t185, t188, t189, t190⟩, A280, H⟩ := H
                            replace H : (if t183 < ((((9 + ((rdOf ByteArray.empty y178 t181).size : Int)) + 29) + (x8_1.size : Int)) + 4) then (if t190 = 2 then (if t184 = 0 then (if t188.toList = ([] : List UInt8) then ((postilionlaw09_wakes.f k1).bind fun t192 => (some t192)) else (some false)) else (some false)) else (some false)) else (if t190 = 0 then (if 0 ≤ ((((9 + ((rdOf ByteArray.empty y178 t181).size : Int)) + 29) + (x8_1.size : Int)) + 4) then (if ((((9 + ((rdOf ByteArray.empty y178 t181).size : Int)) + 29) + (x8_1.size : Int)) + 4) ≤ t183 then (if t188.toList = (((((((⟨#[72, 84, 84, 80, 47, 49, 46, 49, 32]⟩ : ByteArray) ++ (rdOf ByteArray.empty y178 t181)) ++ (⟨#[32, 45, 13, 10, 101, 116, 97, 103, 58, 32, 120, 13, 10, 67, 111, 110, 116, 101, 110, 116, 45, 76, 101, 110, 103, 116, 104, 58, 32]⟩ : ByteArray)) ++ x8_1) ++ (⟨#[13, 10, 13, 10]⟩ : ByteArray)) ++ (strOfNums t169)).extract (((((9 + ((rdOf ByteArray.empty y178 t181).size : Int)) + 29) + (x8_1.size : Int)) + 4) : Int).toNat (t183 : Int).toNat).toList then (if (t189 == (decide (t183 < (((((9 + ((rdOf ByteArray.empty y178 t181).size : Int)) + 29) + (x8_1.size : Int)) + 4) + ((strOfNums t169).size : Int))))) = true then (if (t185.length : Int) = 2 then ((postilionlaw09_wakes.f k1).bind fun t193 => (some t193)) else (some false)) else (some false)) else (some false)) else (none)) else (none)) else (some false))) = some r := H
                            have A28 := Aside0.mk A280
                            clear A280
                            by_cases c29 : t183 < ((((9 + ((rdOf ByteArray.empty y178 t181).size : Int)) + 29) + (x8_1.size : Int)) + 4)
                            · rw [if_pos c29] at H
                              have c29b0 : decide (t183 < ((((9 + ((rdOf ByteArray.empty y178 t181).size : Int)) + 29) + (x8_1.size : Int)) + 4)) = true := decide_eq_true c29
                              clear c29
                              by_cases c30 : t190 = 2
                              · rw [if_pos c30] at H
                                have c30b0 : (t190 == 2) = true := beq_iff_eq.mpr c30
                                have c30b1 : (t190 != 2) = false := bne_eq_false_iff_eq.mpr c30
                                clear c30
                                by_cases c31 : t184 = 0
                                · rw [if_pos c31] at H
                                  have c31b0 : (t184 == 0) = true := beq_iff_eq.mpr c31
                                  have c31b1 : (t184 != 0) = false := bne_eq_false_iff_eq.mpr c31
                                  clear c31
                                  by_cases c32 : t188.toList = ([] : List UInt8)
                                  · rw [if_pos c32] at H
                                    have c32b0 : (t188.toList == ([] : List UInt8)) = true := beq_iff_eq.mpr c32
                                    have c32b1 : (t188.toList != ([] : List UInt8)) = false := bne_eq_false_iff_eq.mpr c32
                                    clear c32
                                    replace H := Option.bind_eq_some_iff.mp H
                                    obtain ⟨t192, A330, H⟩ := H
                                    replace H : (some t192) = some r := H
                                    have A33 := Aside0.mk A330
                                    clear A330
                                    obtain rfl := Option.some.inj H
                                    go_wp2_with (first | ((with_reducible refine gate_dst (N := 35) rfl ?_); (try (refine gate_guard (by rfl) ?_; dsimp only)); refine Kd.R_lit Kd.string _ 9 ?hg (N := 35) ?hd (xs := ([(⟨#[50, 48, 48]⟩ : ByteArray), (⟨#[50, 48, 54]⟩ : ByteArray), (⟨#[53, 48, 51]⟩ : ByteArray)] : List ByteArray)) (inner := [.string (⟨#[50, 48, 48]⟩ : ByteArray), .string (⟨#[50, 48, 54]⟩ : ByteArray), .string (⟨#[53, 48, 51]⟩ : ByteArray)]) (ok := fun _ => True) (okp := fun _ => True) ?hr ?hp (fun _ hk => hk) trivial (Below.refl _ _) (Nat.le_refl _) (by simp) ?_; (case hd => rfl); (case hg => rfl); (case hr => first | (go_simp; done) | (go_simp; rfl)); (case hp => exact (Reps.one (show Kd.M Kd.string _ _ _ (⟨#[50, 48, 48]⟩ : ByteArray) [.string (⟨#[50, 48, 48]⟩ : ByteArray)] from rfl) (Reps.one (show Kd.M Kd.string _ _ _ (⟨#[50, 48, 54]⟩ : ByteArray) [.string (⟨#[50, 48, 54]⟩ : ByteArray)] from rfl) (Reps.one (show Kd.M Kd.string _ _ _ (⟨#[53, 48, 51]⟩ : ByteArray) [.string (⟨#[53, 48, 51]⟩ : ByteArray)] from rfl) (Reps.none _ _))))); intro v179 w34 ho35 hb hg_ hnew_; clear hg_ hnew_; (first | rw [← Ny178.out] at ho35 | (simp only [Int.reduceToNat] at ho35; rw [← Ny178.out] at ho35)); have n0_ := Aside0.mk (Kd.R_lower ho35 (below_size (by repeat (first | (with_reducible first | exact HB.out | apply below_alloc | apply pw_below_drewN | apply below_drew1) | exact HB.out)))); have n1_ := Aside0.mk (below_step (by repeat (first | (with_reducible first | exact HB.out | apply below_alloc | apply pw_below_drewN | apply below_drew1) | exact HB.out)) hb); clear HB; have HO180 := n0_; have HB := n1_; clear n0_ n1_; clear hb ho35) | ((with_reducible refine gate_callee (f := 11) rfl ?_); refine goesL_ (some 37) rfl rfl Tryd.func11 (by kernel_rfl) rfl #[.int .i64 a0, .int .i64 3] rfl (by (try simp only [List.map_toArray, List.map_cons, List.map_nil]); first | done | rfl | (simp only [List.length_drop, List.length_take]; rfl)) ?_; (with_reducible refine (postilionkeep_Within.calls a0 3 t181 _ A17.out).mono ?_); rintro e w' ⟨rfl, ⟨nd, rfl⟩⟩; refine ⟨_, rfl, ?_⟩; (try (rw [drewN_self w34]; generalize hq_ : World.drewN w34 _ = w34; have n0_ : Aside0 (Kd.R Kd.string 9 w34 w.heap.size (fun _ => True) v179 y178) := ⟨by rw [← hq_]; exact (by (with_reducible repeat (first | apply Kd.R_alloc | apply Kd.R_drewN | apply Kd.R_drew)); exact HO180.out)⟩; have n1_ : Aside0 (Below w.heap.size w w34) := ⟨by rw [← hq_]; exact (by repeat (first | (with_reducible first | exact HB.out | apply below_alloc | apply pw_below_drewN | apply below_drew1) | exact HB.out))⟩; clear HO180 HB hq_; have HO180 := n0_; have HB := n1_; clear n0_ n1_)); obtain ⟨Ao36, co36, eo36⟩ := Kd.R_slice HO180.out; subst eo36; have p182 : 0 ≤ (t181 : Int) := of_decide_eq_true (by first | (with_reducible assumption) | assumption); have q182 : t181 < (y178.length : Int) := of_decide_eq_true (by first | (with_reducible assumption) | assumption); obtain ⟨ad182, e182, hx182_0⟩ := Kd.at_string (Kd.R_reads' HO180.out).2.2 t181 p182 q182; cases e182; replace p182 := eq_true p182; replace q182 := eq_true q182) | ((with_reducible refine gate_callee (f := 11) rfl ?_); refine goesL_ (some 52) rfl rfl Tryd.func11 (by kernel_rfl) rfl #[.int .i64 a1, .int .i64 (wrap64 ((((((9 + ((rdOf ByteArray.empty y178 t181).size : Int)) + 29) + (x8_1.size : Int)) + 4) + ((strOfNums t169).size : Int)) + 1))] rfl (by (try simp only [List.map_toArray, List.map_cons, List.map_nil]); first | done | rfl | (simp only [List.length_drop, List.length_take]; rfl)) ?_; (with_reducible refine (postilionkeep_Within.calls a1 (wrap64 ((((((9 + ((rdOf ByteArray.empty y178 t181).size : Int)) + 29) + (x8_1.size : Int)) + 4) + ((strOfNums t169).size : Int)) + 1)) t183 _ A25.out).mono ?_); rintro e w' ⟨rfl, ⟨nd, rfl⟩⟩; refine ⟨_, rfl, ?_⟩; (try (rw [drewN_self w34]; generalize hq_ : World.drewN w34 _ = w34; have n0_ : Aside0 (Kd.R Kd.string 9 w34 w.heap.size (fun _ => True) (.slice (some ad182) y178.length co36) y178) := ⟨by rw [← hq_]; exact (by (with_reducible repeat (first | apply Kd.R_alloc | apply Kd.R_drewN | apply Kd.R_drew)); exact HO180.out)⟩; have n1_ : Aside0 (Below w.heap.size w w34) := ⟨by rw [← hq_]; exact (by repeat (first | (with_reducible first | exact HB.out | apply below_alloc | apply pw_below_drewN | apply below_drew1) | exact HB.out))⟩; clear HO180 HB hq_; have HO180 := n0_; have HB := n1_; clear n0_ n1_))) | ((with_reducible refine gate_callee (f := 24) rfl ?_); refine goesL_ (some 57) rfl rfl Tryd.func24 (by kernel_rfl) rfl #[.string (((((((⟨#[72, 84, 84, 80, 47, 49, 46, 49, 32]⟩ : ByteArray) ++ (rdOf ByteArray.empty y178 t181)) ++ (⟨#[32, 45, 13, 10, 101, 116, 97, 103, 58, 32, 120, 13, 10, 67, 111, 110, 116, 101, 110, 116, 45, 76, 101, 110, 103, 116, 104, 58, 32]⟩ : ByteArray)) ++ x8_1) ++ (⟨#[13, 10, 13, 10]⟩ : ByteArray)) ++ (strOfNums t169)).extract 0 (t183 : Int).toNat)] rfl (by (try simp only [List.map_toArray, List.map_cons, List.map_nil]); first | done | rfl | (simp only [List.length_drop, List.length_take]; rfl)) ?_; (with_reducible refine (reply_Parse.calls k1 (((((((⟨#[72, 84, 84, 80, 47, 49, 46, 49, 32]⟩ : ByteArray) ++ (rdOf ByteArray.empty y178 t181)) ++ (⟨#[32, 45, 13, 10, 101, 116, 97, 103, 58, 32, 120, 13, 10, 67, 111, 110, 116, 101, 110, 116, 45, 76, 101, 110, 103, 116, 104, 58, 32]⟩ : ByteArray)) ++ x8_1) ++ (⟨#[13, 10, 13, 10]⟩ : ByteArray)) ++ (strOfNums t169)).extract 0 (t183 : Int).toNat) t184 t185 t188 t189 t190 _ ?side1 A28.out).mono ?_); (case side1 => exact Gl.below hG (by repeat (first | (with_reducible first | exact HB.out | apply below_alloc | apply pw_below_drewN | apply below_drew1) | exact HB.out))); rintro e w37 ⟨v186, rfl, ho0, hb⟩; refine ⟨_, rfl, ?_⟩; have n0_ := Aside0.mk (Kd.R_below (by (with_reducible repeat (first | apply Kd.R_alloc | apply Kd.R_drewN | apply Kd.R_drew)); exact HO180.out) hb); have n1_ := Aside0.mk (Kd.R_lower ho0 (below_size (by repeat (first | (with_reducible first | exact HB.out | apply below_alloc | apply pw_below_drewN | apply below_drew1) | exact HB.out)))); have n2_ := Aside0.mk (below_step (by repeat (first | (with_reducible first | exact HB.out | apply below_alloc | apply pw_below_drewN | apply below_drew1) | exact HB.out)) hb); clear HO180; clear HB; have HO180 := n0_; have HO187 := n1_; have HB := n2_; clear n0_ n1_ n2_; (try clear hb); (try clear hb2); (try clear hk); (try clear hi); (try clear ho0)) | ((with_reducible refine gate_dst (N := 12) rfl ?_); (try (refine gate_guard (by rfl) ?_; dsimp only)); refine box_event ?hg (N := 12) ?hd (cs := #[.int .i64 0, .slice none 0 0, .string (⟨#[]⟩ : ByteArray), .bool false]) (t := 45) ?hr ?_; (case hd => rfl); (case hg => rfl); (case hr => first | (go_simp; done) | (go_simp; rfl)); intro gb191 hg w38 hbox hb; have n0_ := Aside0.mk (Kd.R_below (by (with_reducible repeat (first | apply Kd.R_alloc | apply Kd.R_drewN | apply Kd.R_drew)); exact HO180.out) hb); have n1_ := Aside0.mk (Kd.R_below (by (with_reducible repeat (first | apply Kd.R_alloc | apply Kd.R_drewN | apply Kd.R_drew)); exact HO187.out) hb); have n2_ := Aside0.mk (below_step (by repeat (first | (with_reducible first | exact HB.out | apply below_alloc | apply pw_below_drewN | apply below_drew1) | exact HB.out)) hb); have n3_ := Aside0.mk (hbox); have n4_ := Aside0.mk ((by rw [hg]; exact (below_size (by repeat (first | (with_reducible first | exact HB.out | apply below_alloc | apply pw_below_drewN | apply below_drew1) | exact HB.out))) : w.heap.size ≤ gb191)); have n5_ := Aside0.mk ((by rw [hg]; exact (below_size (by repeat (first | (with_reducible first | exact HB.out | apply below_alloc | apply pw_below_drewN | apply below_drew1) | exact HB.out))) : w.heap.size ≤ gb191)); clear HO180; clear HO187; clear HB; have HO180 := n0_; have HO187 := n1_; have HB := n2_; have BK191 := n3_; have GW191 := n4_; have GE191 := n5_; clear n0_ n1_ n2_ n3_ n4_ n5_; clear hb hbox hg; have hcz39_0 : w38.cell? ⟨gb191, 0, none⟩ = some (.int .i64 0) := (blk_cell BK191.out 0).trans rfl; have hcz39_1 : w38.cell? ⟨gb191, 1, none⟩ = some (.slice none 0 0) := (blk_cell BK191.out 1).trans rfl; have hcz39_2 : w38.cell? ⟨gb191, 2, none⟩ = some (.string (⟨#[]⟩ : ByteArray)) := (blk_cell BK191.out 2).trans rfl; have hcz39_3 : w38.cell? ⟨gb191, 3, none⟩ = some (.bool false) := (blk_cell BK191.out 3).trans rfl; have hfz39_0 := blk_frozen BK191.out 0; have hfz39_1 := blk_frozen BK191.out 1; have hfz39_2 := blk_frozen BK191.out 2; have hfz39_3 := blk_frozen BK191.out 3; obtain ⟨Ao40, co40, eo40⟩ := Kd.R_slice HO187.out; subst eo40) | (go_at_call 25; (with_reducible refine (postilionlaw09_wakes.calls k1  t192 _ ?side1 A33.out).mono ?_); (case side1 => exact Gl.below hG (by repeat (first | (with_reducible first | exact HB.out | apply below_alloc | apply pw_below_drewN | apply below_drew1 | refine below_set ?_ GE191.out) | exact HB.out))); rintro e w41 ⟨rfl, hb⟩; have n0_ := Aside0.mk (Kd.R_below (by (with_reducible repeat (first | apply Kd.R_alloc | apply Kd.R_drewN | apply Kd.R_drew)); exact (Kd.R_mono (Kd.R_far (p := ⟨gb191, 3, none⟩) (Kd.R_far (p := ⟨gb191, 2, none⟩) (Kd.R_far (p := ⟨gb191, 1, none⟩) (Kd.R_far (p := ⟨gb191, 0, none⟩) (Kd.R_types HO180.out BK191.out (by decide)) (fun _ hk => hk.2) (.int .i64 t184)) (fun _ hk => hk.2) (.slice Ao40 t185.length co40)) (fun _ hk => hk.2) (.string t188)) (fun _ hk => hk.2) (.bool t189)) (fun _ h_ => h_.1))) hb); have n1_ := Aside0.mk (Kd.R_below (by (with_reducible repeat (first | apply Kd.R_alloc | apply Kd.R_drewN | apply Kd.R_drew)); exact (Kd.R_mono (Kd.R_far (p := ⟨gb191, 3, none⟩) (Kd.R_far (p := ⟨gb191, 2, none⟩) (Kd.R_far (p := ⟨gb191, 1, none⟩) (Kd.R_far (p := ⟨gb191, 0, none⟩) (Kd.R_types HO187.out BK191.out (by decide)) (fun _ hk => hk.2) (.int .i64 t184)) (fun _ hk => hk.2) (.slice Ao40 t185.length co40)) (fun _ hk => hk.2) (.string t188)) (fun _ hk => hk.2) (.bool t189)) (fun _ h_ => h_.1))) hb); have n2_ := Aside0.mk (blk_below (g := gb191) (o := .cells #[.int .i64 t184, .slice Ao40 t185.length co40, .string t188, .bool t189] 45 (0, 0)) (by (with_reducible repeat (first | refine blk_drewN ?_ _ | refine blk_drew ?_ | refine blk_alloc ?_ _)); refine blk_put (cs := #[.int .i64 t184, .slice Ao40 t185.length co40, .string t188, .bool false]) ?_ 3 _ rfl; (with_reducible repeat (first | refine blk_drewN ?_ _ | refine blk_drew ?_ | refine blk_alloc ?_ _)); refine blk_put (cs := #[.int .i64 t184, .slice Ao40 t185.length co40, .string (⟨#[]⟩ : ByteArray), .bool false]) ?_ 2 _ rfl; (with_reducible repeat (first | refine blk_drewN ?_ _ | refine blk_drew ?_ | refine blk_alloc ?_ _)); refine blk_put (cs := #[.int .i64 t184, .slice none 0 0, .string (⟨#[]⟩ : ByteArray), .bool false]) ?_ 1 _ rfl; (with_reducible repeat (first | refine blk_drewN ?_ _ | refine blk_drew ?_ | refine blk_alloc ?_ _)); refine blk_put (cs := #[.int .i64 0, .slice none 0 0, .string (⟨#[]⟩ : ByteArray), .bool false]) ?_ 0 _ rfl; (with_reducible repeat (first | refine blk_drewN ?_ _ | refine blk_drew ?_ | refine blk_alloc ?_ _)); exact BK191.out) hb); have n3_ := Aside0.mk (below_step (by repeat (first | (with_reducible first | exact HB.out | apply below_alloc | apply pw_below_drewN | apply below_drew1 | refine below_set ?_ GE191.out) | exact HB.out)) hb); clear HO180; clear HO187; clear BK191; clear HB; have HO180 := n0_; have HO187 := n1_; have BK191 := n2_; have HB := n3_; clear n0_ n1_ n2_ n3_; (try clear hb); (try clear hb2); (try clear hk); (try clear hi)))
                                    go_ret
                                    exact ⟨by first | rfl | (simp [errW_none, errW_some] <;> rfl) | (simp [*, errW_none, errW_some] <;> rfl), by repeat (first | (with_reducible first | exact HB.out | apply below_alloc | apply pw_below_drewN | apply below_drew1 | refine below_set ?_ GE191.out) | exact HB.out)⟩
                                  · rw [if_neg c32] at H
                                    have c32b0 : (t188.toList == ([] : List UInt8)) = false := beq_eq_false_iff_ne.mpr c32
                                    have c32b1 : (t188.toList != ([] : List UInt8)) = true := bne_iff_ne.mpr c32
                                    obtain rfl := Option.some.inj H
                                    cases hT
                                · rw [if_neg c31] at H
                                  have c31b0 : (t184 == 0) = false := beq_eq_false_iff_ne.mpr c31
                                  have c31b1 : (t184 != 0) = true := bne_iff_ne.mpr c31
                                  obtain rfl := Option.some.inj H
                                  cases hT
                              · rw [if_neg c30] at H
                                have c30b0 : (t190 == 2) = false := beq_eq_false_iff_ne.mpr c30
                                have c30b1 : (t190 != 2) = true := bne_iff_ne.mpr c30
                                obtain rfl := Option.some.inj H
                                cases hT
                            · rw [if_neg c29] at H
                              have c29b0 : decide (t183 < ((((9 + ((rdOf ByteArray.empty y178 t181).size : Int)) + 29) + (x8_1.size : Int)) + 4)) = false := decide_eq_false c29
                              clear c29
                              by_cases c42 : t190 = 0
                              · rw [if_pos c42] at H
                                have c42b0 : (t190 == 0) = true := beq_iff_eq.mpr c42
                                have c42b1 : (t190 != 0) = false := bne_eq_false_iff_eq.mpr c42
                                clear c42
                                obtain ⟨ji43, hji43⟩ : ∃ j_ : Int, ((((9 + ((rdOf ByteArray.empty y178 t181).size : Int)) + 29) + (x8_1.size : Int)) + 4) = j_ := ⟨_, rfl⟩
                                replace H : (if 0 ≤ (ji43) then (if (ji43) ≤ t183 then (if t188.toList = (((((((⟨#[72, 84, 84, 80, 47, 49, 46, 49, 32]⟩ : ByteArray) ++ (rdOf ByteArray.empty y178 t181)) ++ (⟨#[32, 45, 13, 10, 101, 116, 97, 103, 58, 32, 120, 13, 10, 67, 111, 110, 116, 101, 110, 116, 45, 76, 101, 110, 103, 116, 104, 58, 32]⟩ : ByteArray)) ++ x8_1) ++ (⟨#[13, 10, 13, 10]⟩ : ByteArray)) ++ (strOfNums t169)).extract ((ji43) : Int).toNat (t183 : Int).toNat).toList then (if (t189 == (decide (t183 < ((ji43) + ((strOfNums t169).size : Int))))) = true then (if (t185.length : Int) = 2 then ((postilionlaw09_wakes.f k1).bind fun t193 => (some t193)) else (some false)) else (some false)) else (some false)) else (none)) else (none)) = some r := by first | (rw [hji43] at H; exact H) | (simp only [hji43] at H ⊢; exact H)
                                (try rw [hji43] at c27b0)
                                (try rw [hji43] at c27b1)
                                (try rw [hji43] at c27)
                                (try rw [hji43] at c29b0)
                                (try rw [hji43] at A17)
                                (try rw [hji43] at A25)
                                (try rw [hji43] at A28)
                                by_cases c44 : 0 ≤ (ji43)
                                · rw [if_pos c44] at H
                                  have c44b0 := eq_true c44
                                  have c44b1 : decide (0 ≤ (ji43)) = true := decide_eq_true c44
                                  clear c44
                                  by_cases c45 : (ji43) ≤ t183
                                  · rw [if_pos c45] at H
                                    have c45b0 := eq_true c45
                                    have c45b1 : decide ((ji43) ≤ t183) = true := decide_eq_true c45
                                    clear c45
                                    have c46b0 := eq_true (of_decide_eq_true (by first | (with_reducible assumption) | assumption) : t183 ≤ ((ji43) + ((strOfNums t169).size : Int)))
                                    by_cases c47 : t188.toList = (((((((⟨#[72, 84, 84, 80, 47, 49, 46, 49, 32]⟩ : ByteArray) ++ (rdOf ByteArray.empty y178 t181)) ++ (⟨#[32, 45, 13, 10, 101, 116, 97, 103, 58, 32, 120, 13, 10, 67, 111, 110, 116, 101, 110, 116, 45, 76, 101, 110, 103, 116, 104, 58, 32]⟩ : ByteArray)) ++ x8_1) ++ (⟨#[13, 10, 13, 10]⟩ : ByteArray)) ++ (strOfNums t169)).extract ((ji43) : Int).toNat (t183 : Int).toNat).toList
                                    · rw [if_pos c47] at H
                                      have c47b0 : (t188.toList == (((((((⟨#[72, 84, 84, 80, 47, 49, 46, 49, 32]⟩ : ByteArray) ++ (rdOf ByteArray.empty y178 t181)) ++ (⟨#[32, 45, 13, 10, 101, 116, 97, 103, 58, 32, 120, 13, 10, 67, 111, 110, 116, 101, 110, 116, 45, 76, 101, 110, 103, 116, 104, 58, 32]⟩ : ByteArray)) ++ x8_1) ++ (⟨#[13, 10, 13, 10]⟩ : ByteArray)) ++ (strOfNums t169)).extract ((ji43) : Int).toNat (t183 : Int).toNat).toList) = true := beq_iff_eq.mpr c47
                                      have c47b1 : (t188.toList != (((((((⟨#[72, 84, 84, 80, 47, 49, 46, 49, 32]⟩ : ByteArray) ++ (rdOf ByteArray.empty y178 t181)) ++ (⟨#[32, 45, 13, 10, 101, 116, 97, 103, 58, 32, 120, 13, 10, 67, 111, 110, 116, 101, 110, 116, 45, 76, 101, 110, 103, 116, 104, 58, 32]⟩ : ByteArray)) ++ x8_1) ++ (⟨#[13, 10, 13, 10]⟩ : ByteArray)) ++ (strOfNums t169)).extract ((ji43) : Int).toNat (t183 : Int).toNat).toList) = false := bne_eq_false_iff_eq.mpr c47
                                      clear c47
                                      by_cases c48 : (t189 == (decide (t183 < ((ji43) + ((strOfNums t169).size : Int))))) = true
                                      · rw [if_pos c48] at H
                                        have c48b0 : (t189 == (decide (t183 < ((ji43) + ((strOfNums t169).size : Int))))) = true := c48
                                        (try (have c48b1 : decide (t189 = (decide (t183 < ((ji43) + ((strOfNums t169).size : Int))))) = true := by simpa using c48))
                                        (try (have c48b2 : (t189 == (decide (t183 < ((ji43) + ((strOfNums t169).size : Int))))) = true := by simpa using c48))
                                        clear c48
                                        by_cases c49 : (t185.length : Int) = 2
                                        · rw [if_pos c49] at H
                                          have c49b0 : ((t185.length : Int) == 2) = true := beq_iff_eq.mpr c49
                                          have c49b1 : ((t185.length : Int) != 2) = false := bne_eq_false_iff_eq.mpr c49
                                          clear c49
                                          replace H := Option.bind_eq_some_iff.mp H
                                          obtain ⟨t193, A500, H⟩ := H
                                          replace H : (some t193) = some r := H
                                          have A50 := Aside0.mk A500
                                          clear A500
                                          obtain rfl := Option.some.inj H
                                          try go_wp2_with (first | ((with_reducible refine gate_dst (N := 35) rfl ?_); (try (refine gate_guard (by rfl) ?_; dsimp only)); refine Kd.R_lit Kd.string _ 9 ?hg (N := 35) ?hd (xs := ([(⟨#[50, 48, 48]⟩ : ByteArray), (⟨#[50, 48, 54]⟩ : ByteArray), (⟨#[53, 48, 51]⟩ : ByteArray)] : List ByteArray)) (inner := [.string (⟨#[50, 48, 48]⟩ : ByteArray), .string (⟨#[50, 48, 54]⟩ : ByteArray), .string (⟨#[53, 48, 51]⟩ : ByteArray)]) (ok := fun _ => True) (okp := fun _ => True) ?hr ?hp (fun _ hk => hk) trivial (Below.refl _ _) (Nat.le_refl _) (by simp) ?_; (case hd => rfl); (case hg => rfl); (case hr => first | (go_simp; done) | (go_simp; rfl)); (case hp => exact (Reps.one (show Kd.M Kd.string _ _ _ (⟨#[50, 48, 48]⟩ : ByteArray) [.string (⟨#[50, 48, 48]⟩ : ByteArray)] from rfl) (Reps.one (show Kd.M Kd.string _ _ _ (⟨#[50, 48, 54]⟩ : ByteArray) [.string (⟨#[50, 48, 54]⟩ : ByteArray)] from rfl) (Reps.one (show Kd.M Kd.string _ _ _ (⟨#[53, 48, 51]⟩ : ByteArray) [.string (⟨#[53, 48, 51]⟩ : ByteArray)] from rfl) (Reps.none _ _))))); intro v179 w51 ho52 hb hg_ hnew_; clear hg_ hnew_; (first | rw [← Ny178.out] at ho52 | (simp only [Int.reduceToNat] at ho52; rw [← Ny178.out] at ho52)); have n0_ := Aside0.mk (Kd.R_lower ho52 (below_size (by repeat (first | (with_reducible first | exact HB.out | apply below_alloc | apply pw_below_drewN | apply below_drew1) | exact HB.out)))); have n1_ := Aside0.mk (below_step (by repeat (first | (with_reducible first | exact HB.out | apply below_alloc | apply pw_below_drewN | apply below_drew1) | exact HB.out)) hb); clear HB; have HO180 := n0_; have HB := n1_; clear n0_ n1_; clear hb ho52) | ((with_reducible refine gate_callee (f := 11) rfl ?_); refine goesL_ (some 37) rfl rfl Tryd.func11 (by kernel_rfl) rfl #[.int .i64 a0, .int .i64 3] rfl (by (try simp only [List.map_toArray, List.map_cons, List.map_nil]); first | done | rfl | (simp only [List.length_drop, List.length_take]; rfl)) ?_; (with_reducible refine (postilionkeep_Within.calls a0 3 t181 _ A17.out).mono ?_); rintro e w' ⟨rfl, ⟨nd, rfl⟩⟩; refine ⟨_, rfl, ?_⟩; (try (rw [drewN_self w51]; generalize hq_ : World.drewN w51 _ = w51; have n0_ : Aside0 (Kd.R Kd.string 9 w51 w.heap.size (fun _ => True) v179 y178) := ⟨by rw [← hq_]; exact (by (with_reducible repeat (first | apply Kd.R_alloc | apply Kd.R_drewN | apply Kd.R_drew)); exact HO180.out)⟩; have n1_ : Aside0 (Below w.heap.size w w51) := ⟨by rw [← hq_]; exact (by repeat (first | (with_reducible first | exact HB.out | apply below_alloc | apply pw_below_drewN | apply below_drew1) | exact HB.out))⟩; clear HO180 HB hq_; have HO180 := n0_; have HB := n1_; clear n0_ n1_)); obtain ⟨Ao53, co53, eo53⟩ := Kd.R_slice HO180.out; subst eo53; have p182 : 0 ≤ (t181 : Int) := of_decide_eq_true (by first | (with_reducible assumption) | assumption); have q182 : t181 < (y178.length : Int) := of_decide_eq_true (by first | (with_reducible assumption) | assumption); obtain ⟨ad182, e182, hx182_0⟩ := Kd.at_string (Kd.R_reads' HO180.out).2.2 t181 p182 q182; cases e182; replace p182 := eq_true p182; replace q182 := eq_true q182) | ((with_reducible refine gate_callee (f := 11) rfl ?_); refine goesL_ (some 52) rfl rfl Tryd.func11 (by kernel_rfl) rfl #[.int .i64 a1, .int .i64 (wrap64 (((ji43) + ((strOfNums t169).size : Int)) + 1))] rfl (by (try simp only [List.map_toArray, List.map_cons, List.map_nil]); first | done | (simp only [hji43]; rfl) | rfl | (simp only [List.length_drop, List.length_take]; rfl)) ?_; (with_reducible refine (postilionkeep_Within.calls a1 (wrap64 (((ji43) + ((strOfNums t169).size : Int)) + 1)) t183 _ A25.out).mono ?_); rintro e w' ⟨rfl, ⟨nd, rfl⟩⟩; refine ⟨_, rfl, ?_⟩; (try (rw [drewN_self w51]; generalize hq_ : World.drewN w51 _ = w51; have n0_ : Aside0 (Kd.R Kd.string 9 w51 w.heap.size (fun _ => True) (.slice (some ad182) y178.length co53) y178) := ⟨by rw [← hq_]; exact (by (with_reducible repeat (first | apply Kd.R_alloc | apply Kd.R_drewN | apply Kd.R_drew)); exact HO180.out)⟩; have n1_ : Aside0 (Below w.heap.size w w51) := ⟨by rw [← hq_]; exact (by repeat (first | (with_reducible first | exact HB.out | apply below_alloc | apply pw_below_drewN | apply below_drew1) | exact HB.out))⟩; clear HO180 HB hq_; have HO180 := n0_; have HB := n1_; clear n0_ n1_))) | ((with_reducible refine gate_callee (f := 24) rfl ?_); refine goesL_ (some 57) rfl rfl Tryd.func24 (by kernel_rfl) rfl #[.string (((((((⟨#[72, 84, 84, 80, 47, 49, 46, 49, 32]⟩ : ByteArray) ++ (rdOf ByteArray.empty y178 t181)) ++ (⟨#[32, 45, 13, 10, 101, 116, 97, 103, 58, 32, 120, 13, 10, 67, 111, 110, 116, 101, 110, 116, 45, 76, 101, 110, 103, 116, 104, 58, 32]⟩ : ByteArray)) ++ x8_1) ++ (⟨#[13, 10, 13, 10]⟩ : ByteArray)) ++ (strOfNums t169)).extract 0 (t183 : Int).toNat)] rfl (by (try simp only [List.map_toArray, List.map_cons, List.map_nil]); first | done | rfl | (simp only [List.length_drop, List.length_take]; rfl)) ?_; (with_reducible refine (reply_Parse.calls k1 (((((((⟨#[72, 84, 84, 80, 47, 49, 46, 49, 32]⟩ : ByteArray) ++ (rdOf ByteArray.empty y178 t181)) ++ (⟨#[32, 45, 13, 10, 101, 116, 97, 103, 58, 32, 120, 13, 10, 67, 111, 110, 116, 101, 110, 116, 45, 76, 101, 110, 103, 116, 104, 58, 32]⟩ : ByteArray)) ++ x8_1) ++ (⟨#[13, 10, 13, 10]⟩ : ByteArray)) ++ (strOfNums t169)).extract 0 (t183 : Int).toNat) t184 t185 t188 t189 t190 _ ?side1 A28.out).mono ?_); (case side1 => exact Gl.below hG (by repeat (first | (with_reducible first | exact HB.out | apply below_alloc | apply pw_below_drewN | apply below_drew1) | exact HB.out))); rintro e w54 ⟨v186, rfl, ho0, hb⟩; refine ⟨_, rfl, ?_⟩; have n0_ := Aside0.mk (Kd.R_below (by (with_reducible repeat (first | apply Kd.R_alloc | apply Kd.R_drewN | apply Kd.R_drew)); exact HO180.out) hb); have n1_ := Aside0.mk (Kd.R_lower ho0 (below_size (by repeat (first | (with_reducible first | exact HB.out | apply below_alloc | apply pw_below_drewN | apply below_drew1) | exact HB.out)))); have n2_ := Aside0.mk (below_step (by repeat (first | (with_reducible first | exact HB.out | apply below_alloc | apply pw_below_drewN | apply below_drew1) | exact HB.out)) hb); clear HO180; clear HB; have HO180 := n0_; have HO187 := n1_; have HB := n2_; clear n0_ n1_ n2_; (try clear hb); (try clear hb2); (try clear hk); (try clear hi); (try clear ho0)) | ((with_reducible refine gate_dst (N := 12) rfl ?_); (try (refine gate_guard (by rfl) ?_; dsimp only)); refine box_event ?hg (N := 12) ?hd (cs := #[.int .i64 0, .slice none 0 0, .string (⟨#[]⟩ : ByteArray), .bool false]) (t := 45) ?hr ?_; (case hd => rfl); (case hg => rfl); (case hr => first | (go_simp; done) | (go_simp; rfl)); intro gb191 hg w55 hbox hb; have n0_ := Aside0.mk (Kd.R_below (by (with_reducible repeat (first | apply Kd.R_alloc | apply Kd.R_drewN | apply Kd.R_drew)); exact HO180.out) hb); have n1_ := Aside0.mk (Kd.R_below (by (with_reducible repeat (first | apply Kd.R_alloc | apply Kd.R_drewN | apply Kd.R_drew)); exact HO187.out) hb); have n2_ := Aside0.mk (below_step (by repeat (first | (with_reducible first | exact HB.out | apply below_alloc | apply pw_below_drewN | apply below_drew1) | exact HB.out)) hb); have n3_ := Aside0.mk (hbox); have n4_ := Aside0.mk ((by rw [hg]; exact (below_size (by repeat (first | (with_reducible first | exact HB.out | apply below_alloc | apply pw_below_drewN | apply below_drew1) | exact HB.out))) : w.heap.size ≤ gb191)); have n5_ := Aside0.mk ((by rw [hg]; exact (below_size (by repeat (first | (with_reducible first | exact HB.out | apply below_alloc | apply pw_below_drewN | apply below_drew1) | exact HB.out))) : w.heap.size ≤ gb191)); clear HO180; clear HO187; clear HB; have HO180 := n0_; have HO187 := n1_; have HB := n2_; have BK191 := n3_; have GW191 := n4_; have GE191 := n5_; clear n0_ n1_ n2_ n3_ n4_ n5_; clear hb hbox hg; have hcz56_0 : w55.cell? ⟨gb191, 0, none⟩ = some (.int .i64 0) := (blk_cell BK191.out 0).trans rfl; have hcz56_1 : w55.cell? ⟨gb191, 1, none⟩ = some (.slice none 0 0) := (blk_cell BK191.out 1).trans rfl; have hcz56_2 : w55.cell? ⟨gb191, 2, none⟩ = some (.string (⟨#[]⟩ : ByteArray)) := (blk_cell BK191.out 2).trans rfl; have hcz56_3 : w55.cell? ⟨gb191, 3, none⟩ = some (.bool false) := (blk_cell BK191.out 3).trans rfl; have hfz56_0 := blk_frozen BK191.out 0; have hfz56_1 := blk_frozen BK191.out 1; have hfz56_2 := blk_frozen BK191.out 2; have hfz56_3 := blk_frozen BK191.out 3; obtain ⟨Ao57, co57, eo57⟩ := Kd.R_slice HO187.out; subst eo57))
                                          have n0_ : Aside0 (Kd.R Kd.string 9 ((((w55.setCell ⟨gb191, 0, none⟩ (.int .i64 t184)).setCell ⟨gb191, 1, none⟩ (.slice Ao57 t185.length co57)).setCell ⟨gb191, 2, none⟩ (.string t188)).setCell ⟨gb191, 3, none⟩ (.bool t189)) w.heap.size (fun _ => True) (.slice (some ad182) y178.length co53) y178) := ⟨by (with_reducible repeat (first | apply Kd.R_alloc | apply Kd.R_drewN | apply Kd.R_drew)); exact Kd.R_mono (Kd.R_far (p := ⟨gb191, 3, none⟩) (Kd.R_far (p := ⟨gb191, 2, none⟩) (Kd.R_far (p := ⟨gb191, 1, none⟩) (Kd.R_far (p := ⟨gb191, 0, none⟩) (Kd.R_types HO180.out BK191.out (by decide)) (fun _ hk => hk.2) (.int .i64 t184)) (fun _ hk => hk.2) (.slice Ao57 t185.length co57)) (fun _ hk => hk.2) (.string t188)) (fun _ hk => hk.2) (.bool t189)) (fun _ hk => trivial)⟩
                                          have n1_ : Aside0 (Kd.R k26 26 ((((w55.setCell ⟨gb191, 0, none⟩ (.int .i64 t184)).setCell ⟨gb191, 1, none⟩ (.slice Ao57 t185.length co57)).setCell ⟨gb191, 2, none⟩ (.string t188)).setCell ⟨gb191, 3, none⟩ (.bool t189)) w.heap.size (fun _ => True) (.slice Ao57 t185.length co57) t185) := ⟨by (with_reducible repeat (first | apply Kd.R_alloc | apply Kd.R_drewN | apply Kd.R_drew)); exact Kd.R_mono (Kd.R_far (p := ⟨gb191, 3, none⟩) (Kd.R_far (p := ⟨gb191, 2, none⟩) (Kd.R_far (p := ⟨gb191, 1, none⟩) (Kd.R_far (p := ⟨gb191, 0, none⟩) (Kd.R_types HO187.out BK191.out (by decide)) (fun _ hk => hk.2) (.int .i64 t184)) (fun _ hk => hk.2) (.slice Ao57 t185.length co57)) (fun _ hk => hk.2) (.string t188)) (fun _ hk => hk.2) (.bool t189)) (fun _ hk => trivial)⟩
                                          have n2_ : Aside0 (((((w55.setCell ⟨gb191, 0, none⟩ (.int .i64 t184)).setCell ⟨gb191, 1, none⟩ (.slice Ao57 t185.length co57)).setCell ⟨gb191, 2, none⟩ (.string t188)).setCell ⟨gb191, 3, none⟩ (.bool t189)).heap[gb191]? = some (.cells #[.int .i64 t184, .slice Ao57 t185.length co57, .string t188, .bool t189] 45 (0, 0))) := ⟨by (with_reducible repeat (first | refine blk_drewN ?_ _ | refine blk_drew ?_ | refine blk_alloc ?_ _)); refine blk_put (cs := #[.int .i64 t184, .slice Ao57 t185.length co57, .string t188, .bool false]) ?_ 3 _ rfl; (with_reducible repeat (first | refine blk_drewN ?_ _ | refine blk_drew ?_ | refine blk_alloc ?_ _)); refine blk_put (cs := #[.int .i64 t184, .slice Ao57 t185.length co57, .string (⟨#[]⟩ : ByteArray), .bool false]) ?_ 2 _ rfl; (with_reducible repeat (first | refine blk_drewN ?_ _ | refine blk_drew ?_ | refine blk_alloc ?_ _)); refine blk_put (cs := #[.int .i64 t184, .slice none 0 0, .string (⟨#[]⟩ : ByteArray), .bool false]) ?_ 1 _ rfl; (with_reducible repeat (first | refine blk_drewN ?_ _ | refine blk_drew ?_ | refine blk_alloc ?_ _)); refine blk_put (cs := #[.int .i64 0, .slice none 0 0, .string (⟨#[]⟩ : ByteArray), .bool false]) ?_ 0 _ rfl; (with_reducible repeat (first | refine blk_drewN ?_ _ | refine blk_drew ?_ | refine blk_alloc ?_ _)); exact BK191.out⟩
                                          have n3_ : Aside0 (Below w.heap.size w ((((w55.setCell ⟨gb191, 0, none⟩ (.int .i64 t184)).setCell ⟨gb191, 1, none⟩ (.slice Ao57 t185.length co57)).setCell ⟨gb191, 2, none⟩ (.string t188)).setCell ⟨gb191, 3, none⟩ (.bool t189))) := ⟨by repeat (first | (with_reducible first | exact HB.out | apply below_alloc | apply pw_below_drewN | apply below_drew1 | refine below_set ?_ GE191.out) | exact HB.out)⟩
                                          (try clear HO180)
                                          (try clear HO187)
                                          (try clear BK191)
                                          (try clear HB)
                                          generalize ((((w55.setCell ⟨gb191, 0, none⟩ (.int .i64 t184)).setCell ⟨gb191, 1, none⟩ (.slice Ao57 t185.length co57)).setCell ⟨gb191, 2, none⟩ (.string t188)).setCell ⟨gb191, 3, none⟩ (.bool t189)) = w58 at n0_ n1_ n2_ n3_ ⊢
                                          have HO180 := n0_
                                          have HO187 := n1_
                                          have BK191 := n2_
                                          have HB := n3_
                                          clear n0_ n1_ n2_ n3_
                                          have n0_ := Aside0.mk (Kd.R_drew HO180.out)
                                          have n1_ := Aside0.mk (Kd.R_drew HO187.out)
                                          have n2_ := Aside0.mk (blk_drew BK191.out)
                                          have n3_ := Aside0.mk (below_drew1 HB.out)
                                          clear HO180
                                          clear HO187
                                          clear BK191
                                          clear HB
                                          have HO180 := n0_
                                          have HO187 := n1_
                                          have BK191 := n2_
                                          have HB := n3_
                                          clear n0_ n1_ n2_ n3_
                                          refine start_ (n := 31) (S := fun w' => w'.cell? ⟨gb191, 0, none⟩ = some (.int .i64 t184) ∧ w'.cell? ⟨gb191, 1, none⟩ = some (.slice Ao57 t185.length co57) ∧ w'.cell? ⟨gb191, 2, none⟩ = some (.string t188) ∧ w'.cell? ⟨gb191, 3, none⟩ = some (.bool t189)) (ds := []) #[false, false, false, false, false, false, false, false, false, false, false, false, false, false, false, false, false, false, false, false, false, false, false, false, false, false, false, false, false, false, false] (by kernel_rfl) rfl rfl ⟨(blk_cell BK191.out 0).trans rfl, (blk_cell BK191.out 1).trans rfl, (blk_cell BK191.out 2).trans rfl, (blk_cell BK191.out 3).trans rfl⟩ (fun hHeld => ?_); refine with_tabW postilionlaw09_ReplyCuts.tab13 postilionlaw09_ReplyCuts.bits13 (fun HT_ HW_ => ?_)
                                          generalize w58.drew = w59 at HO180 HO187 BK191 HB hHeld ⊢
                                          refine pure_ (i := 0) (N := some 79) (v := ?_) (a' := ?_) #[true, false, false, false, false, false, false, false, false, false, false, false, false, false, false, false, false, false, false, false, false, false, false, false, false, false, false, false, false, false, false] rfl rfl (any_of HT_.out (by kernel_rfl)) (fun _ _ _ h => h) (Or.inl ⟨by rfl, ?_⟩) ?_ ?_
                                          rotate_left
                                          · intro w'
                                            go_simp
                                            with_reducible rfl
                                          rotate_left
                                          · simp only [Act.put, List.setIfInBounds_toArray, List.set_cons_zero, List.set_cons_succ, i64_w, i32_w]
                                            rfl
                                          refine pure_ (i := 1) (N := some 80) (v := ?_) (a' := ?_) #[true, true, false, false, false, false, false, false, false, false, false, false, false, false, false, false, false, false, false, false, false, false, false, false, false, false, false, false, false, false, false] rfl rfl (any_of HT_.out (by kernel_rfl)) (fun _ _ _ h => h) (Or.inl ⟨by rfl, ?_⟩) ?_ ?_
                                          rotate_left
                                          · intro w'
                                            go_simp
                                            with_reducible rfl
                                          rotate_left
                                          · simp only [Act.put, List.setIfInBounds_toArray, List.set_cons_zero, List.set_cons_succ, i64_w, i32_w]
                                            rfl
                                          refine pure_ (i := 2) (N := some 81) (v := ?_) (a' := ?_) #[true, true, true, false, false, false, false, false, false, false, false, false, false, false, false, false, false, false, false, false, false, false, false, false, false, false, false, false, false, false, false] rfl rfl (any_of HT_.out (by kernel_rfl)) (fun _ _ _ h => h) (Or.inl ⟨by rfl, ?_⟩) ?_ ?_
                                          rotate_left
                                          · intro w'
                                            go_simp
                                            with_reducible rfl
                                          rotate_left
                                          · simp only [Act.put, List.setIfInBounds_toArray, List.set_cons_zero, List.set_cons_succ, i64_w, i32_w]
                                            rfl
                                          refine pure_ (i := 3) (N := some 82) (v := ?_) (a' := ?_) #[true, true, true, true, false, false, false, false, false, false, false, false, false, false, false, false, false, false, false, false, false, false, false, false, false, false, false, false, false, false, false] rfl rfl (any_of HT_.out (by kernel_rfl)) (fun _ _ _ h => h) (Or.inl ⟨by rfl, ?_⟩) ?_ ?_
                                          rotate_left
                                          · intro w'
                                            go_simp
                                            with_reducible rfl
                                          rotate_left
                                          · simp only [Act.put, List.setIfInBounds_toArray, List.set_cons_zero, List.set_cons_succ, i64_w, i32_w]
                                            rfl
                                          refine pure_ (i := 5) (N := some 84) (v := ?_) (a' := ?_) #[true, true, true, true, false, true, false, false, false, false, false, false, false, false, false, false, false, false, false, false, false, false, false, false, false, false, false, false, false, false, false] rfl rfl (any_of HT_.out (by kernel_rfl)) (fun _ _ _ h => h) (Or.inl ⟨by rfl, ?_⟩) ?_ ?_
                                          rotate_left
                                          · intro w'
                                            go_simp
                                            with_reducible rfl
                                          rotate_left
                                          · simp only [Act.put, List.setIfInBounds_toArray, List.set_cons_zero, List.set_cons_succ, i64_w, i32_w]
                                            rfl
                                          refine pure_ (i := 6) (N := some 85) (v := ?_) (a' := ?_) #[true, true, true, true, false, true, true, false, false, false, false, false, false, false, false, false, false, false, false, false, false, false, false, false, false, false, false, false, false, false, false] rfl rfl (any_of HT_.out (by kernel_rfl)) (fun _ _ _ h => h) (Or.inl ⟨by rfl, ?_⟩) ?_ ?_
                                          rotate_left
                                          · intro w'
                                            go_simp
                                            with_reducible rfl
                                          rotate_left
                                          · simp only [Act.put, List.setIfInBounds_toArray, List.set_cons_zero, List.set_cons_succ, i64_w, i32_w]
                                            rfl
                                          refine pure_ (i := 7) (N := some 86) (v := ?_) (a' := ?_) #[true, true, true, true, false, true, true, true, false, false, false, false, false, false, false, false, false, false, false, false, false, false, false, false, false, false, false, false, false, false, false] rfl rfl (any_of HT_.out (by kernel_rfl)) (fun _ _ _ h => h) (Or.inl ⟨by rfl, ?_⟩) ?_ ?_
                                          rotate_left
                                          · intro w'
                                            go_simp
                                            with_reducible rfl
                                          rotate_left
                                          · simp only [Act.put, List.setIfInBounds_toArray, List.set_cons_zero, List.set_cons_succ, i64_w, i32_w]
                                            rfl
                                          refine pure_ (i := 8) (N := some 87) (v := ?_) (a' := ?_) #[true, true, true, true, false, true, true, true, true, false, false, false, false, false, false, false, false, false, false, false, false, false, false, false, false, false, false, false, false, false, false] rfl rfl (any_of HT_.out (by kernel_rfl)) (fun _ _ _ h => h) (Or.inl ⟨by rfl, ?_⟩) ?_ ?_
                                          rotate_left
                                          · intro w'
                                            go_simp
                                            with_reducible rfl
                                          rotate_left
                                          · simp only [Act.put, List.setIfInBounds_toArray, List.set_cons_zero, List.set_cons_succ, i64_w, i32_w]
                                            rfl
                                          refine pure_ (i := 9) (N := some 88) (v := ?_) (a' := ?_) #[true, true, true, true, false, true, true, true, true, true, false, false, false, false, false, false, false, false, false, false, false, false, false, false, false, false, false, false, false, false, false] rfl rfl (any_of HT_.out (by kernel_rfl)) (fun _ _ _ h => h) (Or.inl ⟨by rfl, ?_⟩) ?_ ?_
                                          rotate_left
                                          · intro w'
                                            go_simp
                                            with_reducible rfl
                                          rotate_left
                                          · simp only [Act.put, List.setIfInBounds_toArray, List.set_cons_zero, List.set_cons_succ, i64_w, i32_w]
                                            rfl
                                          refine take_ (i := 4) (N := some 83) (v := ?_) (a' := ?_) #[true, true, true, true, true, true, true, true, true, true, false, false, false, false, false, false, false, false, false, false, false, false, false, false, false, false, false, false, false, false, false] rfl rfl (take_ofW HT_.out HW_.out (by kernel_rfl)) (fun _ _ _ h => h) (Or.inl ⟨by rfl, ?_⟩) hHeld ?_ ?_
                                          rotate_left
                                          · rintro w' ⟨s0, s1, s2, s3⟩
                                            go_simp
                                            with_reducible rfl
                                          rotate_left
                                          · simp only [Act.put, List.setIfInBounds_toArray, List.set_cons_zero, List.set_cons_succ, i64_w, i32_w]
                                            rfl
                                          refine pure_ (i := 10) (N := some 89) (v := ?_) (a' := ?_) #[true, true, true, true, true, true, true, true, true, true, true, false, false, false, false, false, false, false, false, false, false, false, false, false, false, false, false, false, false, false, false] rfl rfl (any_of HT_.out (by kernel_rfl)) (fun _ _ _ h => h) (Or.inl ⟨by rfl, ?_⟩) ?_ ?_
                                          rotate_left
                                          · intro w'
                                            go_simp
                                            with_reducible rfl
                                          rotate_left
                                          · simp only [Act.put, List.setIfInBounds_toArray, List.set_cons_zero, List.set_cons_succ, i64_w, i32_w]
                                            rfl
                                          refine pure_ (i := 11) (N := some 90) (v := ?_) (a' := ?_) #[true, true, true, true, true, true, true, true, true, true, true, true, false, false, false, false, false, false, false, false, false, false, false, false, false, false, false, false, false, false, false] rfl rfl (any_of HT_.out (by kernel_rfl)) (fun _ _ _ h => h) (Or.inl ⟨by rfl, ?_⟩) ?_ ?_
                                          rotate_left
                                          · intro w'
                                            go_simp
                                            with_reducible rfl
                                          rotate_left
                                          · simp only [Act.put, List.setIfInBounds_toArray, List.set_cons_zero, List.set_cons_succ, i64_w, i32_w]
                                            rfl
                                          refine pure_ (i := 12) (N := some 91) (v := ?_) (a' := ?_) #[true, true, true, true, true, true, true, true, true, true, true, true, true, false, false, false, false, false, false, false, false, false, false, false, false, false, false, false, false, false, false] rfl rfl (any_of HT_.out (by kernel_rfl)) (fun _ _ _ h => h) (Or.inl ⟨by rfl, ?_⟩) ?_ ?_
                                          rotate_left
                                          · intro w'
                                            go_simp
                                            with_reducible rfl
                                          rotate_left
                                          · simp only [Act.put, List.setIfInBounds_toArray, List.set_cons_zero, List.set_cons_succ, i64_w, i32_w]
                                            rfl
                                          refine pure_ (i := 13) (N := some 92) (v := ?_) (a' := ?_) #[true, true, true, true, true, true, true, true, true, true, true, true, true, true, false, false, false, false, false, false, false, false, false, false, false, false, false, false, false, false, false] rfl rfl (any_of HT_.out (by kernel_rfl)) (fun _ _ _ h => h) (Or.inl ⟨by rfl, ?_⟩) ?_ ?_
                                          rotate_left
                                          · intro w'
                                            go_simp
                                            with_reducible rfl
                                          rotate_left
                                          · simp only [Act.put, List.setIfInBounds_toArray, List.set_cons_zero, List.set_cons_succ, i64_w, i32_w]
                                            rfl
                                          refine pure_ (i := 15) (N := some 94) (v := ?_) (a' := ?_) #[true, true, true, true, true, true, true, true, true, true, true, true, true, true, false, true, false, false, false, false, false, false, false, false, false, false, false, false, false, false, false] rfl rfl (any_of HT_.out (by kernel_rfl)) (fun _ _ _ h => h) (Or.inl ⟨by rfl, ?_⟩) ?_ ?_
                                          rotate_left
                                          · intro w'
                                            go_simp
                                            with_reducible rfl
                                          rotate_left
                                          · simp only [Act.put, List.setIfInBounds_toArray, List.set_cons_zero, List.set_cons_succ, i64_w, i32_w]
                                            rfl
                                          refine pure_ (i := 16) (N := some 95) (v := ?_) (a' := ?_) #[true, true, true, true, true, true, true, true, true, true, true, true, true, true, false, true, true, false, false, false, false, false, false, false, false, false, false, false, false, false, false] rfl rfl (any_of HT_.out (by kernel_rfl)) (fun _ _ _ h => h) (Or.inl ⟨by rfl, ?_⟩) ?_ ?_
                                          rotate_left
                                          · intro w'
                                            go_simp
                                            with_reducible rfl
                                          rotate_left
                                          · simp only [Act.put, List.setIfInBounds_toArray, List.set_cons_zero, List.set_cons_succ, i64_w, i32_w]
                                            rfl
                                          refine pure_ (i := 17) (N := some 96) (v := ?_) (a' := ?_) #[true, true, true, true, true, true, true, true, true, true, true, true, true, true, false, true, true, true, false, false, false, false, false, false, false, false, false, false, false, false, false] rfl rfl (any_of HT_.out (by kernel_rfl)) (fun _ _ _ h => h) (Or.inl ⟨by rfl, ?_⟩) ?_ ?_
                                          rotate_left
                                          · intro w'
                                            go_simp
                                            with_reducible rfl
                                          rotate_left
                                          · simp only [Act.put, List.setIfInBounds_toArray, List.set_cons_zero, List.set_cons_succ, i64_w, i32_w]
                                            rfl
                                          refine pure_ (i := 18) (N := some 97) (v := ?_) (a' := ?_) #[true, true, true, true, true, true, true, true, true, true, true, true, true, true, false, true, true, true, true, false, false, false, false, false, false, false, false, false, false, false, false] rfl rfl (any_of HT_.out (by kernel_rfl)) (fun _ _ _ h => h) (Or.inl ⟨by rfl, ?_⟩) ?_ ?_
                                          rotate_left
                                          · intro w'
                                            go_simp
                                            with_reducible rfl
                                          rotate_left
                                          · simp only [Act.put, List.setIfInBounds_toArray, List.set_cons_zero, List.set_cons_succ, i64_w, i32_w]
                                            rfl
                                          refine take_ (i := 14) (N := some 93) (v := ?_) (a' := ?_) #[true, true, true, true, true, true, true, true, true, true, true, true, true, true, true, true, true, true, true, false, false, false, false, false, false, false, false, false, false, false, false] rfl rfl (take_ofW HT_.out HW_.out (by kernel_rfl)) (fun _ _ _ h => h) (Or.inl ⟨by rfl, ?_⟩) hHeld ?_ ?_
                                          rotate_left
                                          · rintro w' ⟨s0, s1, s2, s3⟩
                                            go_simp
                                            with_reducible rfl
                                          rotate_left
                                          · simp only [Act.put, List.setIfInBounds_toArray, List.set_cons_zero, List.set_cons_succ, i64_w, i32_w]
                                            rfl
                                          refine pure_ (i := 19) (N := some 98) (v := ?_) (a' := ?_) #[true, true, true, true, true, true, true, true, true, true, true, true, true, true, true, true, true, true, true, true, false, false, false, false, false, false, false, false, false, false, false] rfl rfl (any_of HT_.out (by kernel_rfl)) (fun _ _ _ h => h) (Or.inl ⟨by rfl, ?_⟩) ?_ ?_
                                          rotate_left
                                          · intro w'
                                            go_simp
                                            with_reducible rfl
                                          rotate_left
                                          · simp only [Act.put, List.setIfInBounds_toArray, List.set_cons_zero, List.set_cons_succ, i64_w, i32_w]
                                            rfl
                                          refine pure_ (i := 20) (N := some 99) (v := ?_) (a' := ?_) #[true, true, true, true, true, true, true, true, true, true, true, true, true, true, true, true, true, true, true, true, true, false, false, false, false, false, false, false, false, false, false] rfl rfl (any_of HT_.out (by kernel_rfl)) (fun _ _ _ h => h) (Or.inl ⟨by rfl, ?_⟩) ?_ ?_
                                          rotate_left
                                          · intro w'
                                            go_simp
                                            with_reducible rfl
                                          rotate_left
                                          · simp only [Act.put, List.setIfInBounds_toArray, List.set_cons_zero, List.set_cons_succ, i64_w, i32_w]
                                            rfl
                                          refine pure_ (i := 21) (N := some 100) (v := ?_) (a' := ?_) #[true, true, true, true, true, true, true, true, true, true, true, true, true, true, true, true, true, true, true, true, true, true, false, false, false, false, false, false, false, false, false] rfl rfl (any_of HT_.out (by kernel_rfl)) (fun _ _ _ h => h) (Or.inl ⟨by rfl, ?_⟩) ?_ ?_
                                          rotate_left
                                          · intro w'
                                            go_simp
                                            with_reducible rfl
                                          rotate_left
                                          · simp only [Act.put, List.setIfInBounds_toArray, List.set_cons_zero, List.set_cons_succ, i64_w, i32_w]
                                            rfl
                                          refine pure_ (i := 22) (N := some 101) (v := ?_) (a' := ?_) #[true, true, true, true, true, true, true, true, true, true, true, true, true, true, true, true, true, true, true, true, true, true, true, false, false, false, false, false, false, false, false] rfl rfl (any_of HT_.out (by kernel_rfl)) (fun _ _ _ h => h) (Or.inl ⟨by rfl, ?_⟩) ?_ ?_
                                          rotate_left
                                          · intro w'
                                            go_simp
                                            with_reducible rfl
                                          rotate_left
                                          · simp only [Act.put, List.setIfInBounds_toArray, List.set_cons_zero, List.set_cons_succ, i64_w, i32_w]
                                            rfl
                                          refine take_ (i := 23) (N := some 102) (v := ?_) (a' := ?_) #[true, true, true, true, true, true, true, true, true, true, true, true, true, true, true, true, true, true, true, true, true, true, true, true, false, false, false, false, false, false, false] rfl rfl (take_ofW HT_.out HW_.out (by kernel_rfl)) (fun _ _ _ h => h) (Or.inl ⟨by rfl, ?_⟩) hHeld ?_ ?_
                                          rotate_left
                                          · rintro w' ⟨s0, s1, s2, s3⟩
                                            go_simp
                                            with_reducible rfl
                                          rotate_left
                                          · simp only [Act.put, List.setIfInBounds_toArray, List.set_cons_zero, List.set_cons_succ, i64_w, i32_w]
                                            rfl
                                          refine pure_ (i := 24) (N := some 103) (v := ?_) (a' := ?_) #[true, true, true, true, true, true, true, true, true, true, true, true, true, true, true, true, true, true, true, true, true, true, true, true, true, false, false, false, false, false, false] rfl rfl (any_of HT_.out (by kernel_rfl)) (fun _ _ _ h => h) (Or.inl ⟨by rfl, ?_⟩) ?_ ?_
                                          rotate_left
                                          · intro w'
                                            go_simp
                                            with_reducible rfl
                                          rotate_left
                                          · simp only [Act.put, List.setIfInBounds_toArray, List.set_cons_zero, List.set_cons_succ, i64_w, i32_w]
                                            rfl
                                          refine pure_ (i := 25) (N := some 104) (v := ?_) (a' := ?_) #[true, true, true, true, true, true, true, true, true, true, true, true, true, true, true, true, true, true, true, true, true, true, true, true, true, true, false, false, false, false, false] rfl rfl (any_of HT_.out (by kernel_rfl)) (fun _ _ _ h => h) (Or.inl ⟨by rfl, ?_⟩) ?_ ?_
                                          rotate_left
                                          · intro w'
                                            go_simp
                                            with_reducible rfl
                                          rotate_left
                                          · simp only [Act.put, List.setIfInBounds_toArray, List.set_cons_zero, List.set_cons_succ, i64_w, i32_w]
                                            rfl
                                          refine pure_ (i := 26) (N := some 105) (v := ?_) (a' := ?_) #[true, true, true, true, true, true, true, true, true, true, true, true, true, true, true, true, true, true, true, true, true, true, true, true, true, true, true, false, false, false, false] rfl rfl (any_of HT_.out (by kernel_rfl)) (fun _ _ _ h => h) (Or.inl ⟨by rfl, ?_⟩) ?_ ?_
                                          rotate_left
                                          · intro w'
                                            go_simp
                                            with_reducible rfl
                                          rotate_left
                                          · simp only [Act.put, List.setIfInBounds_toArray, List.set_cons_zero, List.set_cons_succ, i64_w, i32_w]
                                            rfl
                                          refine pure_ (i := 27) (N := some 106) (v := ?_) (a' := ?_) #[true, true, true, true, true, true, true, true, true, true, true, true, true, true, true, true, true, true, true, true, true, true, true, true, true, true, true, true, false, false, false] rfl rfl (any_of HT_.out (by kernel_rfl)) (fun _ _ _ h => h) (Or.inl ⟨by rfl, ?_⟩) ?_ ?_
                                          rotate_left
                                          · intro w'
                                            go_simp
                                            with_reducible rfl
                                          rotate_left
                                          · simp only [Act.put, List.setIfInBounds_toArray, List.set_cons_zero, List.set_cons_succ, i64_w, i32_w]
                                            rfl
                                          refine one_ (i := 28) (N := some 107) #[true, true, true, true, true, true, true, true, true, true, true, true, true, true, true, true, true, true, true, true, true, true, true, true, true, true, true, true, true, false, false] rfl rfl (one_of HT_.out (by kernel_rfl)) (by decide) (fun K hK => ?_)
                                          refine goes_ Tryd.func25 (by kernel_rfl) rfl #[] (by rfl) rfl rfl (by (try simp only [List.map_toArray, List.map_cons, List.map_nil]); first | done | rfl | (simp only [List.length_drop, List.length_take]; rfl)) ?_
                                          with_reducible refine (postilionlaw09_wakes.calls k1  t193 _ ?side1 A50.out).mono ?_
                                          (case side1 => exact Gl.below hG (by repeat (first | (with_reducible first | exact HB.out | apply below_alloc | apply pw_below_drewN | apply below_drew1 | refine below_set ?_ GE191.out) | exact HB.out)))
                                          rintro e w60 ⟨rfl, hb⟩
                                          refine ⟨_, rfl, ?_⟩
                                          have n0_ := Aside0.mk (Kd.R_below (by (with_reducible repeat (first | apply Kd.R_alloc | apply Kd.R_drewN | apply Kd.R_drew)); exact HO180.out) hb)
                                          have n1_ := Aside0.mk (Kd.R_below (by (with_reducible repeat (first | apply Kd.R_alloc | apply Kd.R_drewN | apply Kd.R_drew)); exact HO187.out) hb)
                                          have n2_ := Aside0.mk (blk_below (g := gb191) (o := .cells #[.int .i64 t184, .slice Ao57 t185.length co57, .string t188, .bool t189] 45 (0, 0)) (by (with_reducible repeat (first | refine blk_drewN ?_ _ | refine blk_drew ?_ | refine blk_alloc ?_ _)); exact BK191.out) hb)
                                          have n3_ := Aside0.mk (below_step (by repeat (first | (with_reducible first | exact HB.out | apply below_alloc | apply pw_below_drewN | apply below_drew1 | refine below_set ?_ GE191.out) | exact HB.out)) hb)
                                          clear HO180
                                          clear HO187
                                          clear BK191
                                          clear HB
                                          have HO180 := n0_
                                          have HO187 := n1_
                                          have BK191 := n2_
                                          have HB := n3_
                                          clear n0_ n1_ n2_ n3_
                                          (try clear hb)
                                          (try clear hb2)
                                          (try clear hk)
                                          (try clear hi)
                                          refine hK.out _ _ ⟨(blk_cell BK191.out 0).trans rfl, (blk_cell BK191.out 1).trans rfl, (blk_cell BK191.out 2).trans rfl, (blk_cell BK191.out 3).trans rfl⟩ (fun hHeld => ?_)
                                          clear hK K
                                          refine norm_ (a' := ?_) ?_ ?_
                                          rotate_left
                                          · show Act.put _ (some 107) _ = _
                                            simp only [Act.put, List.setIfInBounds_toArray, List.set_cons_zero, List.set_cons_succ, i64_w, i32_w]
                                            rfl
                                          refine pure_ (i := 29) (N := some 108) (v := ?_) (a' := ?_) #[true, true, true, true, true, true, true, true, true, true, true, true, true, true, true, true, true, true, true, true, true, true, true, true, true, true, true, true, true, true, false] rfl rfl (any_of HT_.out (by kernel_rfl)) (fun _ _ _ h => h) (Or.inl ⟨by rfl, ?_⟩) ?_ ?_
                                          rotate_left
                                          · intro w'
                                            go_simp
                                            with_reducible rfl
                                          rotate_left
                                          · simp only [Act.put, List.setIfInBounds_toArray, List.set_cons_zero, List.set_cons_succ, i64_w, i32_w]
                                            rfl
                                          refine pure_ (i := 30) (N := some 6) (v := ?_) (a' := ?_) #[true, true, true, true, true, true, true, true, true, true, true, true, true, true, true, true, true, true, true, true, true, true, true, true, true, true, true, true, true, true, true] rfl rfl (any_of HT_.out (by kernel_rfl)) (fun _ _ _ h => h) (Or.inl ⟨by rfl, ?_⟩) ?_ ?_
                                          rotate_left
                                          · intro w'
                                            go_simp
                                            with_reducible rfl
                                          rotate_left
                                          · simp only [Act.put, List.setIfInBounds_toArray, List.set_cons_zero, List.set_cons_succ, i64_w, i32_w]
                                            rfl
                                          refine done_ (done_of HT_.out (by kernel_rfl)) ?_
                                          try go_wp2
                                          go_ret
                                          exact ⟨by first | rfl | (simp [errW_none, errW_some] <;> rfl) | (simp only [← hji43]; first | rfl | (simp [errW_none, errW_some] <;> rfl)) | (simp [*, errW_none, errW_some] <;> rfl), by repeat (first | (with_reducible first | exact HB.out | apply below_alloc | apply pw_below_drewN | apply below_drew1 | refine below_set ?_ GE191.out) | exact HB.out)⟩
                                        · rw [if_neg c49] at H
                                          have c49b0 : ((t185.length : Int) == 2) = false := beq_eq_false_iff_ne.mpr c49
                                          have c49b1 : ((t185.length : Int) != 2) = true := bne_iff_ne.mpr c49
                                          obtain rfl := Option.some.inj H
                                          cases hT
                                      · rw [if_neg c48] at H
                                        have c48b0 : (t189 == (decide (t183 < ((ji43) + ((strOfNums t169).size : Int))))) = false := by simpa using c48
                                        (try (have c48b1 : decide (t189 = (decide (t183 < ((ji43) + ((strOfNums t169).size : Int))))) = false := by simpa using c48))
                                        (try (have c48b2 : (t189 == (decide (t183 < ((ji43) + ((strOfNums t169).size : Int))))) = false := by simpa using c48))
                                        (try (have c48b3 : ¬ (t189 = (decide (t183 < ((ji43) + ((strOfNums t169).size : Int))))) := by simpa using c48))
                                        clear c48
                                        obtain rfl := Option.some.inj H
                                        cases hT
                                    · rw [if_neg c47] at H
                                      have c47b0 : (t188.toList == (((((((⟨#[72, 84, 84, 80, 47, 49, 46, 49, 32]⟩ : ByteArray) ++ (rdOf ByteArray.empty y178 t181)) ++ (⟨#[32, 45, 13, 10, 101, 116, 97, 103, 58, 32, 120, 13, 10, 67, 111, 110, 116, 101, 110, 116, 45, 76, 101, 110, 103, 116, 104, 58, 32]⟩ : ByteArray)) ++ x8_1) ++ (⟨#[13, 10, 13, 10]⟩ : ByteArray)) ++ (strOfNums t169)).extract ((ji43) : Int).toNat (t183 : Int).toNat).toList) = false := beq_eq_false_iff_ne.mpr c47
                                      have c47b1 : (t188.toList != (((((((⟨#[72, 84, 84, 80, 47, 49, 46, 49, 32]⟩ : ByteArray) ++ (rdOf ByteArray.empty y178 t181)) ++ (⟨#[32, 45, 13, 10, 101, 116, 97, 103, 58, 32, 120, 13, 10, 67, 111, 110, 116, 101, 110, 116, 45, 76, 101, 110, 103, 116, 104, 58, 32]⟩ : ByteArray)) ++ x8_1) ++ (⟨#[13, 10, 13, 10]⟩ : ByteArray)) ++ (strOfNums t169)).extract ((ji43) : Int).toNat (t183 : Int).toNat).toList) = true := bne_iff_ne.mpr c47
                                      obtain rfl := Option.some.inj H
                                      cases hT
                                  · rw [if_neg c45] at H
                                    exact absurd H (by simp)
                                · rw [if_neg c44] at H
                                  exact absurd H (by simp)
                              · rw [if_neg c42] at H
                                have c42b0 : (t190 == 0) = false := beq_eq_false_iff_ne.mpr c42
                                have c42b1 : (t190 != 0) = true := bne_iff_ne.mpr c42
                                obtain rfl := Option.some.inj H
                                cases hT
                          · rw [if_neg c27] at H
                            exact absurd H (by simp)
                        · rw [if_neg c26] at H
                          exact absurd H (by simp)
                      · rw [if_neg c24] at H
                        exact absurd H (by simp)
                    · rw [if_neg c23] at H
                      exact absurd H (by simp)
                  · rw [if_neg c22] at H
                    exact absurd H (by simp)
                · rw [if_neg c21] at H
                  exact absurd H (by simp)
              · rw [if_neg c20] at H
                exact absurd H (by simp)
            · rw [if_neg c19] at H
              exact absurd H (by simp)
          · rw [if_neg c18] at H
            exact absurd H (by simp)

/-- THE ONE PURE STATEMENT of postilionlaw09_ReplyCuts: yours. -/
def postilionlaw09_ReplyCuts.Pure : Prop := ∀ (a0 : Int) (a1 : Int) (l2 : List Int), (Lit.int .i64 a0).wf = true → (Lit.int .i64 a1).wf = true → l2.length ≤ maxLen → l2.length * 1 ≤ 140737488351232 → (∀ x ∈ l2, (Lit.int .u8 x).wf = true) → ∃ k, postilionlaw09_ReplyCuts.f k a0 a1 l2 = some true
theorem postilionlaw09_ReplyCuts.walk (P : postilionlaw09_ReplyCuts.Pure) (a0 : Int) (a1 : Int) (a2 : Option Addr) (len2 cap2 : Nat) (z2 : List Int) (w : World) (w0 : (Lit.int .i64 a0).wf = true) (w1 : (Lit.int .i64 a1).wf = true) (w2 : (a2 = none ∧ len2 = 0 ∧ cap2 = 0 ∧ z2 = []) ∨ ∃ x, a2 = some x ∧ len2 ≤ cap2 ∧ cap2 ≤ maxLen ∧ z2.length = cap2 ∧ (∀ i, i < z2.length → w.cell? (x.add i) = some (.int .u8 (z2.getD i 0))) ∧ ∀ n ∈ z2, (Lit.int .u8 n).wf = true) (y2 : len2 * 1 ≤ 140737488351232) (hG : Gl w) :
    Calls Tryd.prog 8 #[.int .i64 a0, .int .i64 a1, .slice a2 len2 cap2] w fun e w' => e = .returned (.bool true) ∧ Below w.heap.size w w' := by
  obtain ⟨l2, rfl, hr2, hm2, hw2, hc2⟩ := ReadsInt.ofRowC w2
  obtain ⟨k, h⟩ := P a0 a1 l2 w0 w1 hm2 y2 hw2
  refine (postilionlaw09_ReplyCuts.calls k a0 a1 _ _ l2 true w hG (Kd.C_of_reads (d := (0 : Int)) (h1 := fun _ => rfl) hr2) hc2 rfl h).mono ?_
  rintro e w' ⟨rfl, hd⟩
  exact ⟨rfl, hd⟩

end Go.Proofs.YtiabjeeelgkneaaDoor.GReplyCuts
