-- Made by this session's changed copy of the kit's printer (wip/myprint). Not trusted: Lean checks it.
import Derived.Test.YtllblgjhoeopjaaDoorVGCorsTellsx0
import Derived.Test.YtllblgjhoeopjaaDoorVGCorsTellsx1
import Derived.Test.YtllblgjhoeopjaaDoorVGPrex
import Derived.Test.YtllblgjhoeopjaaDoorVGUnsafex
import Derived.Test.YtllblgjhoeopjaaDoorVGivC
import Derived.Test.YtllblgjhoeopjaaDoorVGivPre
import Derived.Test.YtllblgjhoeopjaaDoorVGivUns
namespace Go.Proofs.YtllblgjhoeopjaaDoor.GCorsTells
open Go.RowKit GivC Mw GPre GivPre GUnsafe GivUns Go.Proofs.YtllblgjhoeopjaaDoorW.PrintWords Go.Proofs.YtllblgjhoeopjaaDoorW.PrintLast Go.Proofs.YtllblgjhoeopjaaDoorW.PrintMore
attribute [local go_sem] max2_int min2_int max_two min_two max_three min_three max_four min_four   -- for this text's walks alone
set_option linter.unusedVariables false
set_option linter.unusedSimpArgs false

/-! ### postilionplay_Reply: function 22 -/
mutual
def postilionplay_Reply.j1 : Nat → Int → ByteArray → Int → List (S27) → ByteArray → Bool → Option (Int × (List (S27)) × ByteArray × Bool)
  | 0, _, _, _, _, _, _ => none
  | k + 1, x0, x2, x126000, x126001, x126002, x126003 => (postilionkeep_Within.f (wrap64 (Int.tdiv x0 7)) 3).bind fun t133 => (if t133 > 0 then (if x126001.length < 4398046511104 then (postilionplay_Reply.j2 k x0 x2 x126000 (x126001 ++ [(⟨(⟨#[97, 108, 108, 111, 119, 45, 111, 114, 105, 103, 105, 110]⟩ : ByteArray), (⟨#[42]⟩ : ByteArray)⟩ : S27)]) x126002 x126003) else (none)) else (postilionplay_Reply.j2 k x0 x2 x126000 x126001 x126002 x126003))
def postilionplay_Reply.j2 : Nat → Int → ByteArray → Int → List (S27) → ByteArray → Bool → Option (Int × (List (S27)) × ByteArray × Bool)
  | 0, _, _, _, _, _, _ => none
  | k + 1, x0, x2, x126000, x126001, x126002, x126003 => (some (([0, 5, 8, 3, 30, 49, 60] : List Int) : List Int)).bind fun y137 => ((postilionkeep_Within.f (wrap64 (Int.tdiv x0 5)) 7).bind fun t140 => (if 0 ≤ t140 then (if t140 < (y137.length : Int) then ((postilionplay_Bytes.f k 99 (rd y137 t140)).bind fun t142 => ((postilionkeep_Within.f x0 50).bind fun t145 => (if t145 = 49 then (some (x126000, x126001, x2, x126003)) else (some (x126000, x126001, strOfNums t142, x126003))))) else (none)) else (none)))
def postilionplay_Reply.l0 : Nat → Int → List Int → ByteArray → Int → Int → List (S27) → ByteArray → Bool → Option (Int × (List (S27)) × ByteArray × Bool)
  | 0, _, _, _, _, _, _, _, _ => none
  | k + 1, x0, x1, x2, x9, x126000, x126001, x126002, x126003 => if x9 < (x1.length : Int) then ((postilionkeep_Within.f (wrap64 (Int.tdiv x0 21)) 6).bind fun t126 => (if x9 < t126 then (if 0 ≤ x9 then ((postilionplay_head.f (rd x1 x9) (⟨#[]⟩ : ByteArray)).bind fun bt128 => (if x126001.length < 4398046511104 then (postilionplay_Reply.l0 k x0 x1 x2 (wrap64 (x9 + 1)) x126000 (x126001 ++ [(⟨bt128.1, bt128.2⟩ : S27)]) x126002 x126003) else (none))) else (none)) else (postilionplay_Reply.j1 k x0 x2 x126000 x126001 x126002 x126003))) else (postilionplay_Reply.j1 k x0 x2 x126000 x126001 x126002 x126003)
end
def postilionplay_Reply.f (k : Nat) (a0 : Int) (l1 : List Int) (a2 : ByteArray) : Option (Int × (List (S27)) × ByteArray × Bool) := (some (([200, 200, 200, 206, 301, 302, 303, 307, 308, 404, 416, 429, 500, 503, 204, 100, 599, 400, 201, 416, 206] : List Int) : List Int)).bind fun y120 => ((postilionkeep_Within.f a0 21).bind fun t123 => (if 0 ≤ t123 then (if t123 < (y120.length : Int) then (postilionplay_Reply.l0 k a0 l1 a2 0 (rd y120 t123) ([] : List (S27)) (⟨#[]⟩ : ByteArray) false) else (none)) else (none)))
theorem postilionplay_Reply.mono_l : ∀ k, (∀ y0 y1 y2 y3 y4 y5, LeO (postilionplay_Reply.j1 k y0 y1 y2 y3 y4 y5) (postilionplay_Reply.j1 (k + 1) y0 y1 y2 y3 y4 y5)) ∧ (∀ y0 y1 y2 y3 y4 y5, LeO (postilionplay_Reply.j2 k y0 y1 y2 y3 y4 y5) (postilionplay_Reply.j2 (k + 1) y0 y1 y2 y3 y4 y5)) ∧ (∀ y0 y1 y2 y3 y4 y5 y6 y7, LeO (postilionplay_Reply.l0 k y0 y1 y2 y3 y4 y5 y6 y7) (postilionplay_Reply.l0 (k + 1) y0 y1 y2 y3 y4 y5 y6 y7))
  | 0 => ⟨fun _ _ _ _ _ _ r h => by simp [postilionplay_Reply.j1] at h, fun _ _ _ _ _ _ r h => by simp [postilionplay_Reply.j2] at h, fun _ _ _ _ _ _ _ _ r h => by simp [postilionplay_Reply.l0] at h⟩
  | k + 1 => by
    obtain ⟨ih0, ih1, ih2⟩ := postilionplay_Reply.mono_l k
    refine ⟨?_, ?_, ?_⟩
    · intro y0 y1 y2 y3 y4 y5
      unfold postilionplay_Reply.j1
      repeat' first
      | (with_reducible exact ih0 _ _ _ _ _ _)
      | (with_reducible exact ih1 _ _ _ _ _ _)
      | (with_reducible exact ih2 _ _ _ _ _ _ _ _)
      | (with_reducible exact postilionplay_Bytes.mono _ _ _)
      | (with_reducible exact LeO.refl _)
      | (with_reducible exact LeO.none _)
      | (with_reducible refine LeO.ite ?_ ?_)
      | (with_reducible refine LeO.bind ?_ (fun _ => ?_))
      | exact ih0 _ _ _ _ _ _
      | exact ih1 _ _ _ _ _ _
      | exact ih2 _ _ _ _ _ _ _ _
      | exact postilionplay_Bytes.mono _ _ _
      | exact LeO.none _
      | refine LeO.ite ?_ ?_
      | refine LeO.bind ?_ (fun _ => ?_)
    · intro y0 y1 y2 y3 y4 y5
      unfold postilionplay_Reply.j2
      repeat' first
      | (with_reducible exact ih0 _ _ _ _ _ _)
      | (with_reducible exact ih1 _ _ _ _ _ _)
      | (with_reducible exact ih2 _ _ _ _ _ _ _ _)
      | (with_reducible exact postilionplay_Bytes.mono _ _ _)
      | (with_reducible exact LeO.refl _)
      | (with_reducible exact LeO.none _)
      | (with_reducible refine LeO.ite ?_ ?_)
      | (with_reducible refine LeO.bind ?_ (fun _ => ?_))
      | exact ih0 _ _ _ _ _ _
      | exact ih1 _ _ _ _ _ _
      | exact ih2 _ _ _ _ _ _ _ _
      | exact postilionplay_Bytes.mono _ _ _
      | exact LeO.none _
      | refine LeO.ite ?_ ?_
      | refine LeO.bind ?_ (fun _ => ?_)
    · intro y0 y1 y2 y3 y4 y5 y6 y7
      unfold postilionplay_Reply.l0
      repeat' first
      | (with_reducible exact ih0 _ _ _ _ _ _)
      | (with_reducible exact ih1 _ _ _ _ _ _)
      | (with_reducible exact ih2 _ _ _ _ _ _ _ _)
      | (with_reducible exact postilionplay_Bytes.mono _ _ _)
      | (with_reducible exact LeO.refl _)
      | (with_reducible exact LeO.none _)
      | (with_reducible refine LeO.ite ?_ ?_)
      | (with_reducible refine LeO.bind ?_ (fun _ => ?_))
      | exact ih0 _ _ _ _ _ _
      | exact ih1 _ _ _ _ _ _
      | exact ih2 _ _ _ _ _ _ _ _
      | exact postilionplay_Bytes.mono _ _ _
      | exact LeO.none _
      | refine LeO.ite ?_ ?_
      | refine LeO.bind ?_ (fun _ => ?_)
theorem postilionplay_Reply.mono : ∀ a0 a1 a2 k, LeO (postilionplay_Reply.f k a0 a1 a2) (postilionplay_Reply.f (k + 1) a0 a1 a2) := by
  intro a0 a1 a2 k
  obtain ⟨ih0, ih1, ih2⟩ := postilionplay_Reply.mono_l k
  unfold postilionplay_Reply.f
  repeat' first
      | (with_reducible exact ih0 _ _ _ _ _ _)
      | (with_reducible exact ih1 _ _ _ _ _ _)
      | (with_reducible exact ih2 _ _ _ _ _ _ _ _)
      | (with_reducible exact postilionplay_Bytes.mono _ _ _)
      | (with_reducible exact LeO.refl _)
      | (with_reducible exact LeO.none _)
      | (with_reducible refine LeO.ite ?_ ?_)
      | (with_reducible refine LeO.bind ?_ (fun _ => ?_))
      | exact ih0 _ _ _ _ _ _
      | exact ih1 _ _ _ _ _ _
      | exact ih2 _ _ _ _ _ _ _ _
      | exact postilionplay_Bytes.mono _ _ _
      | exact LeO.none _
      | refine LeO.ite ?_ ?_
      | refine LeO.bind ?_ (fun _ => ?_)
def postilionplay_Reply.T6 : Bool × List (List Nat × List Nat) := (true, [([], []), ([0], [0]), ([], []), ([], []), ([2, 3], [2, 3]), ([4], [4]), ([5], [5]), ([6], [6]), ([1, 7, 6], [1, 7]), ([0, 1, 2, 3, 4, 5, 6, 7, 8], []), ([9, 8, 8, 0, 1, 2, 3, 4, 5, 6, 7, 8], [8, 9])])
def postilionplay_Reply.B6 : List Nat := [0, 1, 0, 0, 12, 28, 60, 124, 255, 511, 1023]
theorem postilionplay_Reply.tab6 : rtab .any (opsOf Tryd.f22 6) = postilionplay_Reply.T6 := by kernel_rfl
theorem postilionplay_Reply.bits6 : waitsOk postilionplay_Reply.T6.2 postilionplay_Reply.B6 = true := by kernel_rfl
set_option maxHeartbeats 8000000 in
set_option maxRecDepth 100000 in
theorem postilionplay_Reply.calls (k : Nat) (a0 : Int) (A1 : Option Addr) (c1 : Nat) (l1 : List Int) (a2 : ByteArray) (r1 : Int) (r2 : List (S27)) (r3 : ByteArray) (r4 : Bool) (w : World) (hr1 : Kd.C (Kd.int .i64) w A1 l1.length l1) (hc1 : l1.length ≤ c1) (h : postilionplay_Reply.f k a0 l1 a2 = some (r1, r2, r3, r4)) :
    Calls Tryd.prog 22 #[.int .i64 a0, .slice A1 l1.length c1, .string a2] w fun e w' => ∃ v1_ : Value, e = .returned (.agg #[.int .i64 r1, v1_, .string r3, .bool r4]) ∧ Kd.R k27 27 w' w.heap.size (fun _ => True) v1_ r2 ∧ Below w.heap.size w w' := by
  have hu45 := Tryd.underlying45
  have hu27 := Tryd.underlying27
  have HR1 := Aside0.mk hr1
  have HC1 := Aside0.mk hc1
  clear hr1 hc1
  have HB := Aside0.mk (Below.refl w.heap.size w)
  have H : ((some (([200, 200, 200, 206, 301, 302, 303, 307, 308, 404, 416, 429, 500, 503, 204, 100, 599, 400, 201, 416, 206] : List Int) : List Int)).bind fun y120 => ((postilionkeep_Within.f a0 21).bind fun t123 => (if 0 ≤ t123 then (if t123 < (y120.length : Int) then (postilionplay_Reply.l0 k a0 l1 a2 0 (rd y120 t123) ([] : List (S27)) (⟨#[]⟩ : ByteArray) false) else (none)) else (none)))) = some (r1, r2, r3, r4) := h
  clear h
  obtain ⟨y120, hy120⟩ : ∃ y_ : List Int, y_ = (([200, 200, 200, 206, 301, 302, 303, 307, 308, 404, 416, 429, 500, 503, 204, 100, 599, 400, 201, 416, 206] : List Int)) := ⟨_, rfl⟩
  replace H : ((postilionkeep_Within.f a0 21).bind fun t123 => (if 0 ≤ t123 then (if t123 < (y120.length : Int) then (postilionplay_Reply.l0 k a0 l1 a2 0 (rd y120 t123) ([] : List (S27)) (⟨#[]⟩ : ByteArray) false) else (none)) else (none))) = some (r1, r2, r3, r4) := by first | (rw [hy120]; with_reducible exact H) | (have H2_ := (Option.bind_some _ _).symm.trans H; rw [hy120]; with_reducible exact H2_) | (have H2_ := (Option.bind_some _ _).symm.trans H; with_reducible exact H2_) | with_reducible exact H | (rw [hy120]; exact H) | exact H
  have Ny120 := Aside0.mk hy120
  clear hy120
  replace H := Option.bind_eq_some_iff.mp H
  obtain ⟨t123, A40, H⟩ := H
  replace H : (if 0 ≤ t123 then (if t123 < (y120.length : Int) then (postilionplay_Reply.l0 k a0 l1 a2 0 (rd y120 t123) ([] : List (S27)) (⟨#[]⟩ : ByteArray) false) else (none)) else (none)) = some (r1, r2, r3, r4) := H
  have A4 := Aside0.mk A40
  clear A40
  by_cases c5 : 0 ≤ t123
  · rw [if_pos c5] at H
    have c5b0 : decide (0 ≤ t123) = true := decide_eq_true c5
    clear c5
    by_cases c6 : t123 < (y120.length : Int)
    · rw [if_pos c6] at H
      have c6b0 : decide (t123 < (y120.length : Int)) = true := decide_eq_true c6
      clear c6
      have HC7 := Aside0.mk H
      clear H
      go_enter Tryd.func22, Tryd.ntmps22
      go_upto_block 0 with (first | ((with_reducible refine gate_dst (N := 6) rfl ?_); refine box_event ?hg (N := 6) ?hd (cs := #[.int .i64 0, .slice none 0 0, .string (⟨#[]⟩ : ByteArray), .bool false]) (t := 45) ?hr ?_; (case hd => rfl); (case hg => rfl); (case hr => first | (go_simp; done) | (go_simp; rfl)); intro gb119 hg w8 hbox hb; have n0_ := Aside0.mk (below_step (by repeat (first | (with_reducible first | exact HB.out | apply below_alloc | apply pw_below_drewN | apply below_drew1) | exact HB.out)) hb); have n1_ := Aside0.mk (hbox); have n2_ := Aside0.mk ((by rw [hg]; exact (below_size (by repeat (first | (with_reducible first | exact HB.out | apply below_alloc | apply pw_below_drewN | apply below_drew1) | exact HB.out))) : w.heap.size ≤ gb119)); have n3_ := Aside0.mk ((by rw [hg]; exact (below_size (by repeat (first | (with_reducible first | exact HB.out | apply below_alloc | apply pw_below_drewN | apply below_drew1) | exact HB.out))) : w.heap.size ≤ gb119)); clear HB; have HB := n0_; have BK119 := n1_; have GW119 := n2_; have GE119 := n3_; clear n0_ n1_ n2_ n3_; clear hb hbox hg) | ((with_reducible refine gate_dst (N := 10) rfl ?_); refine Kd.R_lit (Kd.int .i64) _ 3 ?hg (N := 10) ?hd (xs := ([200, 200, 200, 206, 301, 302, 303, 307, 308, 404, 416, 429, 500, 503, 204, 100, 599, 400, 201, 416, 206] : List Int)) (inner := [.int .i64 200, .int .i64 200, .int .i64 200, .int .i64 206, .int .i64 301, .int .i64 302, .int .i64 303, .int .i64 307, .int .i64 308, .int .i64 404, .int .i64 416, .int .i64 429, .int .i64 500, .int .i64 503, .int .i64 204, .int .i64 100, .int .i64 599, .int .i64 400, .int .i64 201, .int .i64 416, .int .i64 206]) (ok := fun _ => True) (okp := fun _ => True) ?hr ?hp (fun _ hk => hk) trivial (Below.refl _ _) (Nat.le_refl _) (by simp) ?_; (case hd => rfl); (case hg => rfl); (case hr => first | (go_simp; done) | (go_simp; rfl)); (case hp => exact (Reps.one (show Kd.M (Kd.int .i64) _ _ _ 200 [.int .i64 200] from rfl) (Reps.one (show Kd.M (Kd.int .i64) _ _ _ 200 [.int .i64 200] from rfl) (Reps.one (show Kd.M (Kd.int .i64) _ _ _ 200 [.int .i64 200] from rfl) (Reps.one (show Kd.M (Kd.int .i64) _ _ _ 206 [.int .i64 206] from rfl) (Reps.one (show Kd.M (Kd.int .i64) _ _ _ 301 [.int .i64 301] from rfl) (Reps.one (show Kd.M (Kd.int .i64) _ _ _ 302 [.int .i64 302] from rfl) (Reps.one (show Kd.M (Kd.int .i64) _ _ _ 303 [.int .i64 303] from rfl) (Reps.one (show Kd.M (Kd.int .i64) _ _ _ 307 [.int .i64 307] from rfl) (Reps.one (show Kd.M (Kd.int .i64) _ _ _ 308 [.int .i64 308] from rfl) (Reps.one (show Kd.M (Kd.int .i64) _ _ _ 404 [.int .i64 404] from rfl) (Reps.one (show Kd.M (Kd.int .i64) _ _ _ 416 [.int .i64 416] from rfl) (Reps.one (show Kd.M (Kd.int .i64) _ _ _ 429 [.int .i64 429] from rfl) (Reps.one (show Kd.M (Kd.int .i64) _ _ _ 500 [.int .i64 500] from rfl) (Reps.one (show Kd.M (Kd.int .i64) _ _ _ 503 [.int .i64 503] from rfl) (Reps.one (show Kd.M (Kd.int .i64) _ _ _ 204 [.int .i64 204] from rfl) (Reps.one (show Kd.M (Kd.int .i64) _ _ _ 100 [.int .i64 100] from rfl) (Reps.one (show Kd.M (Kd.int .i64) _ _ _ 599 [.int .i64 599] from rfl) (Reps.one (show Kd.M (Kd.int .i64) _ _ _ 400 [.int .i64 400] from rfl) (Reps.one (show Kd.M (Kd.int .i64) _ _ _ 201 [.int .i64 201] from rfl) (Reps.one (show Kd.M (Kd.int .i64) _ _ _ 416 [.int .i64 416] from rfl) (Reps.one (show Kd.M (Kd.int .i64) _ _ _ 206 [.int .i64 206] from rfl) (Reps.none _ _))))))))))))))))))))))); intro v121 w9 ho10 hb hg_ hnew_; clear hg_ hnew_; (first | rw [← Ny120.out] at ho10 | (simp only [Int.reduceToNat] at ho10; rw [← Ny120.out] at ho10)); have n0_ := Aside0.mk (Kd.R_lower ho10 (below_size (by repeat (first | (with_reducible first | exact HB.out | apply below_alloc | apply pw_below_drewN | apply below_drew1 | refine below_set ?_ GE119.out) | exact HB.out)))); have n1_ := Aside0.mk (blk_below (g := gb119) (o := .cells #[.int .i64 0, .slice none 0 0, .string (⟨#[]⟩ : ByteArray), .bool false] 45 (0, 0)) (by (with_reducible repeat (first | refine blk_drewN ?_ _ | refine blk_drew ?_ | refine blk_alloc ?_ _)); exact BK119.out) hb); have n2_ := Aside0.mk (below_step (by repeat (first | (with_reducible first | exact HB.out | apply below_alloc | apply pw_below_drewN | apply below_drew1 | refine below_set ?_ GE119.out) | exact HB.out)) hb); clear BK119; clear HB; have HO122 := n0_; have BK119 := n1_; have HB := n2_; clear n0_ n1_ n2_; clear hb ho10) | ((with_reducible refine gate_calleeV (t := 11) rfl ?_); refine goesV_ (f := 12) (some 13) rfl rfl Tryd.func12 (by kernel_rfl) rfl #[.int .i64 a0, .int .i64 21] rfl (by rfl) (by (try simp only [List.map_toArray, List.map_cons, List.map_nil]); first | done | rfl | (simp only [List.length_drop, List.length_take]; rfl)) ?_; (with_reducible refine (postilionkeep_Within.calls a0 21 t123 _ A4.out).mono ?_); rintro e w' ⟨rfl, ⟨nd, rfl⟩⟩; refine ⟨_, rfl, ?_⟩; (try (rw [drewN_self w9]; generalize hq_ : World.drewN w9 _ = w9; have n0_ : Aside0 (Kd.R (Kd.int .i64) 3 w9 w.heap.size (fun _ => True) v121 y120) := ⟨by rw [← hq_]; exact (by (with_reducible repeat (first | apply Kd.R_alloc | apply Kd.R_drewN | apply Kd.R_drew)); exact HO122.out)⟩; have n1_ : Aside0 (w9.heap[gb119]? = some (.cells #[.int .i64 0, .slice none 0 0, .string (⟨#[]⟩ : ByteArray), .bool false] 45 (0, 0))) := ⟨by rw [← hq_]; exact (by (with_reducible repeat (first | refine blk_drewN ?_ _ | refine blk_drew ?_ | refine blk_alloc ?_ _)); exact BK119.out)⟩; have n2_ : Aside0 (Below w.heap.size w w9) := ⟨by rw [← hq_]; exact (by repeat (first | (with_reducible first | exact HB.out | apply below_alloc | apply pw_below_drewN | apply below_drew1 | refine below_set ?_ GE119.out) | exact HB.out))⟩; clear HO122 BK119 HB hq_; have HO122 := n0_; have BK119 := n1_; have HB := n2_; clear n0_ n1_ n2_)); obtain ⟨Ao11, co11, eo11⟩ := Kd.R_slice HO122.out; subst eo11; have p124 : 0 ≤ (t123 : Int) := of_decide_eq_true (by first | (with_reducible assumption) | assumption); have q124 : t123 < (y120.length : Int) := of_decide_eq_true (by first | (with_reducible assumption) | assumption); obtain ⟨ad124, e124, hx124_0⟩ := Kd.at_int (Kd.R_reads' HO122.out).2.2 t123 p124 q124; cases e124; replace p124 := eq_true p124; replace q124 := eq_true q124) | ((with_reducible refine gate_dst (N := 8) rfl ?_); refine box_event ?hg (N := 8) ?hd (cs := #[.int .i64 0, .slice none 0 0, .string (⟨#[]⟩ : ByteArray), .bool false]) (t := 45) ?hr ?_; (case hd => rfl); (case hg => rfl); (case hr => first | (go_simp; done) | (go_simp; rfl)); intro gb125 hg w12 hbox hb; have n0_ := Aside0.mk (Kd.R_below (by (with_reducible repeat (first | apply Kd.R_alloc | apply Kd.R_drewN | apply Kd.R_drew)); exact HO122.out) hb); have n1_ := Aside0.mk (blk_below (g := gb119) (o := .cells #[.int .i64 0, .slice none 0 0, .string (⟨#[]⟩ : ByteArray), .bool false] 45 (0, 0)) (by (with_reducible repeat (first | refine blk_drewN ?_ _ | refine blk_drew ?_ | refine blk_alloc ?_ _)); exact BK119.out) hb); have n2_ := Aside0.mk (below_step (by repeat (first | (with_reducible first | exact HB.out | apply below_alloc | apply pw_below_drewN | apply below_drew1 | refine below_set ?_ GE119.out) | exact HB.out)) hb); have n3_ := Aside0.mk (hbox); have n4_ := Aside0.mk ((by rw [hg]; exact (below_size (by repeat (first | (with_reducible first | exact HB.out | apply below_alloc | apply pw_below_drewN | apply below_drew1 | refine below_set ?_ GE119.out) | exact HB.out))) : w.heap.size ≤ gb125)); have n5_ := Aside0.mk ((by rw [hg]; exact (below_size (by repeat (first | (with_reducible first | exact HB.out | apply below_alloc | apply pw_below_drewN | apply below_drew1 | refine below_set ?_ GE119.out) | exact HB.out))) : w.heap.size ≤ gb125)); have n6_ := Aside0.mk ((by rw [hg]; exact Nat.ne_of_lt (blk_lt (g := gb119) (o := .cells #[.int .i64 0, .slice none 0 0, .string (⟨#[]⟩ : ByteArray), .bool false] 45 (0, 0)) (by (with_reducible repeat (first | refine blk_drewN ?_ _ | refine blk_drew ?_ | refine blk_alloc ?_ _)); exact BK119.out)) : gb119 ≠ gb125)); have n7_ := Aside0.mk ((by rw [hg]; exact Nat.ne_of_gt (blk_lt (g := gb119) (o := .cells #[.int .i64 0, .slice none 0 0, .string (⟨#[]⟩ : ByteArray), .bool false] 45 (0, 0)) (by (with_reducible repeat (first | refine blk_drewN ?_ _ | refine blk_drew ?_ | refine blk_alloc ?_ _)); exact BK119.out)) : gb125 ≠ gb119)); clear HO122; clear BK119; clear HB; have HO122 := n0_; have BK119 := n1_; have HB := n2_; have BK125 := n3_; have GW125 := n4_; have GE125 := n5_; have NB119_125 := n6_; have NB125_119 := n7_; clear n0_ n1_ n2_ n3_ n4_ n5_ n6_ n7_; clear hb hbox hg; have hnb13 := NB125_119.out; have hnc13 := NB119_125.out; have hcz14_0 : w12.cell? ⟨gb125, 0, none⟩ = some (.int .i64 0) := (blk_cell BK125.out 0).trans rfl; have hcz14_1 : w12.cell? ⟨gb125, 1, none⟩ = some (.slice none 0 0) := (blk_cell BK125.out 1).trans rfl; have hcz14_2 : w12.cell? ⟨gb125, 2, none⟩ = some (.string (⟨#[]⟩ : ByteArray)) := (blk_cell BK125.out 2).trans rfl; have hcz14_3 : w12.cell? ⟨gb125, 3, none⟩ = some (.bool false) := (blk_cell BK125.out 3).trans rfl; have hfz14_0 := blk_frozen BK125.out 0; have hfz14_1 := blk_frozen BK125.out 1; have hfz14_2 := blk_frozen BK125.out 2; have hfz14_3 := blk_frozen BK125.out 3))
      (try simp only [Act.put, List.setIfInBounds_toArray, List.set_cons_zero, List.set_cons_succ])
      go_cut [] (fun wc => ∃ (kq : Nat) (x126001_6 : List (S27)) (u126001 : Value), Aside0 (postilionplay_Reply.j1 kq a0 a2 (rd y120 t123) x126001_6 (⟨#[]⟩ : ByteArray) false = some (r1, r2, r3, r4)) ∧ Aside0 (kq ≤ k) ∧ Aside0 (Kd.R k27 27 wc w.heap.size (fun _ => True) u126001 x126001_6) ∧ Aside0 (wc.heap[gb119]? = some (.cells #[.int .i64 0, (.slice none 0 0), .string (⟨#[]⟩ : ByteArray), .bool false] 45 (0, 0))) ∧ Aside0 (wc.heap[gb125]? = some (.cells #[.int .i64 (rd y120 t123), u126001, .string (⟨#[]⟩ : ByteArray), .bool false] 45 (0, 0))) ∧ Aside0 (Below w.heap.size w wc))
      case first =>
        have H := HC7.out
        clear HC7
        have H' := Aside0.mk H
        clear H
        go_wp2
        go_loopg [9] k (fun kq v9 w' => ∃ (x9_1 : Int) (x126001_1 : List (S27)) (u126001 : Value), v9 = .int .i64 x9_1 ∧ Aside0 (postilionplay_Reply.l0 kq a0 l1 a2 x9_1 (rd y120 t123) x126001_1 (⟨#[]⟩ : ByteArray) false = some (r1, r2, r3, r4)) ∧ Aside0 (kq ≤ k) ∧ Aside0 (Kd.R k27 27 w' w.heap.size (fun _ => True) u126001 x126001_1) ∧ Aside0 (w'.heap[gb119]? = some (.cells #[.int .i64 0, (.slice none 0 0), .string (⟨#[]⟩ : ByteArray), .bool false] 45 (0, 0))) ∧ Aside0 (w'.heap[gb125]? = some (.cells #[.int .i64 (rd y120 t123), u126001, .string (⟨#[]⟩ : ByteArray), .bool false] 45 (0, 0))) ∧ Aside0 (Below w.heap.size w w'))
        case atStart => exact ⟨(0), (([] : List (S27))), (.slice none 0 0), (by first | rfl | (simp; done) | (simp [*]; done)), H', ⟨Nat.le_refl _⟩, ⟨by first | exact Kd.R_nil _ _ _ _ _ | exact Kd.N_nil _ _ _ _ _ | exact Kd.V_nil _ _ _ _ _ | exact Kd.Q_nil _ _ _ _ _ | exact Kd.S_nil _ _ _ _ _⟩, ⟨by (with_reducible repeat (first | refine blk_drewN ?_ _ | refine blk_drew ?_ | refine blk_alloc ?_ _)); refine blk_far ?_ NB119_125.out _; (with_reducible repeat (first | refine blk_drewN ?_ _ | refine blk_drew ?_ | refine blk_alloc ?_ _)); refine blk_far ?_ NB119_125.out _; (with_reducible repeat (first | refine blk_drewN ?_ _ | refine blk_drew ?_ | refine blk_alloc ?_ _)); refine blk_far ?_ NB119_125.out _; (with_reducible repeat (first | refine blk_drewN ?_ _ | refine blk_drew ?_ | refine blk_alloc ?_ _)); refine blk_far ?_ NB119_125.out _; (with_reducible repeat (first | refine blk_drewN ?_ _ | refine blk_drew ?_ | refine blk_alloc ?_ _)); exact BK119.out⟩, ⟨by (with_reducible repeat (first | refine blk_drewN ?_ _ | refine blk_drew ?_ | refine blk_alloc ?_ _)); refine blk_put (cs := #[.int .i64 (rd y120 t123), .slice none 0 0, .string (⟨#[]⟩ : ByteArray), .bool false]) ?_ 3 _ rfl; (with_reducible repeat (first | refine blk_drewN ?_ _ | refine blk_drew ?_ | refine blk_alloc ?_ _)); refine blk_put (cs := #[.int .i64 (rd y120 t123), .slice none 0 0, .string (⟨#[]⟩ : ByteArray), .bool false]) ?_ 2 _ rfl; (with_reducible repeat (first | refine blk_drewN ?_ _ | refine blk_drew ?_ | refine blk_alloc ?_ _)); refine blk_put (cs := #[.int .i64 (rd y120 t123), .slice none 0 0, .string (⟨#[]⟩ : ByteArray), .bool false]) ?_ 1 _ rfl; (with_reducible repeat (first | refine blk_drewN ?_ _ | refine blk_drew ?_ | refine blk_alloc ?_ _)); refine blk_put (cs := #[.int .i64 0, .slice none 0 0, .string (⟨#[]⟩ : ByteArray), .bool false]) ?_ 0 _ rfl; (with_reducible repeat (first | refine blk_drewN ?_ _ | refine blk_drew ?_ | refine blk_alloc ?_ _)); exact BK125.out⟩, ⟨by repeat (first | (with_reducible first | exact HB.out | apply below_alloc | apply pw_below_drewN | apply below_drew1 | refine below_set ?_ GE119.out | refine below_set ?_ GE125.out) | exact HB.out)⟩⟩
        case round =>
          clear H'
          try clear c1
          try clear p1
          try clear q1
          try clear hx1
          try clear c2
          try clear p2
          try clear c5
          try clear c5b0
          try clear c6
          try clear c6b0
          try clear c12
          try clear p12
          try clear q12
          try clear hx12
          try clear c13
          try clear hcz14_0
          try clear hcz14_1
          try clear hcz14_2
          try clear hcz14_3
          try clear hfz14_0
          try clear hfz14_1
          try clear hfz14_2
          try clear hfz14_3
          try clear hx124_0
          try clear p124
          try clear q124
          obtain ⟨x9_1, x126001_1, u126001, rfl, HA, HK1, HO_126001, BK119, BK125, HB⟩ := hrel
          cases gk with
          | zero => exact absurd HA.out (by simp [postilionplay_Reply.l0])
          | succ k1 =>
            have H := HA.out
            clear HA
            simp only [postilionplay_Reply.l0] at H
            by_cases c15 : x9_1 < (l1.length : Int)
            · rw [if_pos c15] at H
              have c15b0 : decide (x9_1 < (l1.length : Int)) = true := decide_eq_true c15
              clear c15
              (first | rw [c15b0] | (simp only [i64_w, i32_w]; rw [c15b0]) | skip)
              replace H := Option.bind_eq_some_iff.mp H
              obtain ⟨t126, A160, H⟩ := H
              replace H : (if x9_1 < t126 then (if 0 ≤ x9_1 then ((postilionplay_head.f (rd l1 x9_1) (⟨#[]⟩ : ByteArray)).bind fun bt128 => (if x126001_1.length < 4398046511104 then (postilionplay_Reply.l0 k1 a0 l1 a2 (wrap64 (x9_1 + 1)) (rd y120 t123) (x126001_1 ++ [(⟨bt128.1, bt128.2⟩ : S27)]) (⟨#[]⟩ : ByteArray) false) else (none))) else (none)) else (postilionplay_Reply.j1 k1 a0 a2 (rd y120 t123) x126001_1 (⟨#[]⟩ : ByteArray) false)) = some (r1, r2, r3, r4) := H
              have A16 := Aside0.mk A160
              clear A160
              by_cases c17 : x9_1 < t126
              · rw [if_pos c17] at H
                have c17b0 : decide (x9_1 < t126) = true := decide_eq_true c17
                clear c17
                by_cases c18 : 0 ≤ x9_1
                · rw [if_pos c18] at H
                  have c18b0 : decide (0 ≤ x9_1) = true := decide_eq_true c18
                  clear c18
                  replace H := Option.bind_eq_some_iff.mp H
                  obtain ⟨⟨t128, t129⟩, A190, H⟩ := H
                  replace H : (if x126001_1.length < 4398046511104 then (postilionplay_Reply.l0 k1 a0 l1 a2 (wrap64 (x9_1 + 1)) (rd y120 t123) (x126001_1 ++ [(⟨t128, t129⟩ : S27)]) (⟨#[]⟩ : ByteArray) false) else (none)) = some (r1, r2, r3, r4) := H
                  have A19 := Aside0.mk A190
                  clear A190
                  by_cases c20 : x126001_1.length < 4398046511104
                  · rw [if_pos c20] at H
                    have LMc20 := Aside0.mk c20
                    clear c20
                    obtain ⟨y130, hy130⟩ : ∃ y_ : List (S27), y_ = (x126001_1 ++ [(⟨t128, t129⟩ : S27)]) := ⟨_, rfl⟩
                    replace H : (postilionplay_Reply.l0 k1 a0 l1 a2 (wrap64 (x9_1 + 1)) (rd y120 t123) y130 (⟨#[]⟩ : ByteArray) false) = some (r1, r2, r3, r4) := by first | (rw [hy130]; with_reducible exact H) | (have H2_ := (Option.bind_some _ _).symm.trans H; rw [hy130]; with_reducible exact H2_) | (have H2_ := (Option.bind_some _ _).symm.trans H; with_reducible exact H2_) | with_reducible exact H | (rw [hy130]; exact H) | exact H
                    have Ny130 := Aside0.mk hy130
                    clear hy130
                    have H' := Aside0.mk H
                    clear H
                    try go_wp2_with (first | (go_at_call 12; (with_reducible refine (postilionkeep_Within.calls (wrap64 (Int.tdiv a0 21)) 6 t126 _ A16.out).mono ?_); rintro e w' ⟨rfl, ⟨nd, rfl⟩⟩; (try (rw [drewN_self wr]; generalize hq_ : World.drewN wr _ = wr; have n0_ : Aside0 (Kd.R k27 27 wr w.heap.size (fun _ => True) u126001 x126001_1) := ⟨by rw [← hq_]; exact (by (with_reducible repeat (first | apply Kd.R_alloc | apply Kd.R_drewN | apply Kd.R_drew)); exact HO_126001.out)⟩; have n1_ : Aside0 (wr.heap[gb119]? = some (.cells #[.int .i64 0, .slice none 0 0, .string (⟨#[]⟩ : ByteArray), .bool false] 45 (0, 0))) := ⟨by rw [← hq_]; exact (by (with_reducible repeat (first | refine blk_drewN ?_ _ | refine blk_drew ?_ | refine blk_alloc ?_ _)); exact BK119.out)⟩; have n2_ : Aside0 (wr.heap[gb125]? = some (.cells #[.int .i64 (rd y120 t123), u126001, .string (⟨#[]⟩ : ByteArray), .bool false] 45 (0, 0))) := ⟨by rw [← hq_]; exact (by (with_reducible repeat (first | refine blk_drewN ?_ _ | refine blk_drew ?_ | refine blk_alloc ?_ _)); exact BK125.out)⟩; have n3_ : Aside0 (Below w.heap.size w wr) := ⟨by rw [← hq_]; exact (by repeat (first | (with_reducible first | exact HB.out | apply below_alloc | apply pw_below_drewN | apply below_drew1 | refine below_set ?_ GE119.out | refine below_set ?_ GE125.out) | exact HB.out))⟩; clear HO_126001 BK119 BK125 HB hq_; have HO_126001 := n0_; have BK119 := n1_; have BK125 := n2_; have HB := n3_; clear n0_ n1_ n2_ n3_))))
                    have n0_ := Aside0.mk (Kd.R_drew HO_126001.out)
                    have n1_ := Aside0.mk (blk_drew BK119.out)
                    have n2_ := Aside0.mk (blk_drew BK125.out)
                    have n3_ := Aside0.mk (below_drew1 HB.out)
                    clear HO_126001
                    clear BK119
                    clear BK125
                    clear HB
                    have HO_126001 := n0_
                    have BK119 := n1_
                    have BK125 := n2_
                    have HB := n3_
                    clear n0_ n1_ n2_ n3_
                    have p127 : 0 ≤ (x9_1 : Int) := of_decide_eq_true (by first | (with_reducible assumption) | assumption)
                    have q127 : x9_1 < (l1.length : Int) := of_decide_eq_true (by first | (with_reducible assumption) | assumption)
                    obtain ⟨ad127, e127, hx127_0⟩ := Kd.at_int HR1.out x9_1 p127 q127
                    have hw127_0 := hx127_0
                    cases e127
                    replace hx127_0 := (HB.out.cell (World.block_lt_of_cell? w _ hx127_0)).trans hx127_0
                    replace p127 := eq_true p127
                    replace q127 := eq_true q127
                    refine start_ (n := 11) (S := fun w' => w'.cell? ⟨gb125, 0, none⟩ = some (.int .i64 (rd y120 t123)) ∧ w'.cell? ⟨gb125, 1, none⟩ = some (u126001) ∧ w'.cell? ⟨gb125, 2, none⟩ = some (.string (⟨#[]⟩ : ByteArray)) ∧ w'.cell? ⟨gb125, 3, none⟩ = some (.bool false) ∧ w'.cell? (ad127.add (x9_1).toNat) = some (.int .i64 (rd l1 x9_1))) (ds := [10]) #[false, false, false, false, false, false, false, false, false, false, false] (by kernel_rfl) rfl rfl ⟨(blk_cell BK125.out 0).trans rfl, (blk_cell BK125.out 1).trans rfl, (blk_cell BK125.out 2).trans rfl, (blk_cell BK125.out 3).trans rfl, ((HB.out.cell (World.block_lt_of_cell? w _ hw127_0)).trans hw127_0)⟩ (fun hHeld => ?_); refine with_tabW postilionplay_Reply.tab6 postilionplay_Reply.bits6 (fun HT_ HW_ => ?_)
                    generalize wr.drew = w21 at HO_126001 BK119 BK125 HB hx127_0 hHeld ⊢
                    refine pure_ (i := 0) (N := some 31) (v := ?_) (a' := ?_) #[true, false, false, false, false, false, false, false, false, false, false] rfl rfl (any_of HT_.out (by kernel_rfl)) (fun _ _ _ h => h) (Or.inl ⟨by rfl, ?_⟩) ?_ ?_
                    rotate_left
                    · intro w'
                      go_simp
                      with_reducible rfl
                    rotate_left
                    · simp only [Act.put, List.setIfInBounds_toArray, List.set_cons_zero, List.set_cons_succ, i64_w, i32_w]
                      rfl
                    refine pure_ (i := 2) (N := some 33) (v := ?_) (a' := ?_) #[true, false, true, false, false, false, false, false, false, false, false] rfl rfl (any_of HT_.out (by kernel_rfl)) (fun _ _ _ h => h) (Or.inl ⟨by rfl, ?_⟩) ?_ ?_
                    rotate_left
                    · intro w'
                      go_simp
                      with_reducible rfl
                    rotate_left
                    · simp only [Act.put, List.setIfInBounds_toArray, List.set_cons_zero, List.set_cons_succ, i64_w, i32_w]
                      rfl
                    refine pure_ (i := 3) (N := some 34) (v := ?_) (a' := ?_) #[true, false, true, true, false, false, false, false, false, false, false] rfl rfl (any_of HT_.out (by kernel_rfl)) (fun _ _ _ h => h) (Or.inl ⟨by rfl, ?_⟩) ?_ ?_
                    rotate_left
                    · intro w'
                      go_simp
                      with_reducible rfl
                    rotate_left
                    · simp only [Act.put, List.setIfInBounds_toArray, List.set_cons_zero, List.set_cons_succ, i64_w, i32_w]
                      rfl
                    refine pure_ (i := 4) (N := some 35) (v := ?_) (a' := ?_) #[true, false, true, true, true, false, false, false, false, false, false] rfl rfl (any_of HT_.out (by kernel_rfl)) (fun _ _ _ h => h) (Or.inl ⟨by rfl, ?_⟩) ?_ ?_
                    rotate_left
                    · intro w'
                      go_simp
                      with_reducible rfl
                    rotate_left
                    · simp only [Act.put, List.setIfInBounds_toArray, List.set_cons_zero, List.set_cons_succ, i64_w, i32_w]
                      rfl
                    refine take_ (i := 1) (N := some 32) (v := ?_) (a' := ?_) #[true, true, true, true, true, false, false, false, false, false, false] rfl rfl (take_ofW HT_.out HW_.out (by kernel_rfl)) (fun _ _ _ h => h) (Or.inl ⟨by rfl, ?_⟩) hHeld ?_ ?_
                    rotate_left
                    · rintro w' ⟨s0, s1, s2, s3, s4⟩
                      go_simp
                      with_reducible rfl
                    rotate_left
                    · simp only [Act.put, List.setIfInBounds_toArray, List.set_cons_zero, List.set_cons_succ, i64_w, i32_w]
                      rfl
                    refine take_ (i := 5) (N := some 36) (v := ?_) (a' := ?_) #[true, true, true, true, true, true, false, false, false, false, false] rfl rfl (take_ofW HT_.out HW_.out (by kernel_rfl)) (fun _ _ _ h => h) (Or.inl ⟨by rfl, ?_⟩) hHeld ?_ ?_
                    rotate_left
                    · rintro w' ⟨s0, s1, s2, s3, s4⟩
                      go_simp
                      with_reducible rfl
                    rotate_left
                    · simp only [Act.put, List.setIfInBounds_toArray, List.set_cons_zero, List.set_cons_succ, i64_w, i32_w]
                      rfl
                    refine one_ (i := 6) (N := some 37) #[true, true, true, true, true, true, true, false, false, false, false] rfl rfl (one_of HT_.out (by kernel_rfl)) (by decide) (fun K hK => ?_)
                    refine goes_ Tryd.func49 (by kernel_rfl) rfl #[.int .i64 (rd l1 x9_1), .string (⟨#[]⟩ : ByteArray)] (by rfl) rfl rfl (by (try simp only [List.map_toArray, List.map_cons, List.map_nil]); first | done | rfl | (simp only [List.length_drop, List.length_take]; rfl)) ?_
                    with_reducible refine (postilionplay_head.calls (rd l1 x9_1) (⟨#[]⟩ : ByteArray) t128 t129 _ A19.out).mono ?_
                    rintro e w22 ⟨rfl, hb⟩
                    refine ⟨_, rfl, ?_⟩
                    have n0_ := Aside0.mk (Kd.R_below (by (with_reducible repeat (first | apply Kd.R_alloc | apply Kd.R_drewN | apply Kd.R_drew)); exact HO_126001.out) hb)
                    have n1_ := Aside0.mk (blk_below (g := gb119) (o := .cells #[.int .i64 0, .slice none 0 0, .string (⟨#[]⟩ : ByteArray), .bool false] 45 (0, 0)) (by (with_reducible repeat (first | refine blk_drewN ?_ _ | refine blk_drew ?_ | refine blk_alloc ?_ _)); exact BK119.out) hb)
                    have n2_ := Aside0.mk (blk_below (g := gb125) (o := .cells #[.int .i64 (rd y120 t123), u126001, .string (⟨#[]⟩ : ByteArray), .bool false] 45 (0, 0)) (by (with_reducible repeat (first | refine blk_drewN ?_ _ | refine blk_drew ?_ | refine blk_alloc ?_ _)); exact BK125.out) hb)
                    have n3_ := Aside0.mk (below_step (by repeat (first | (with_reducible first | exact HB.out | apply below_alloc | apply pw_below_drewN | apply below_drew1 | refine below_set ?_ GE119.out | refine below_set ?_ GE125.out) | exact HB.out)) hb)
                    clear HO_126001
                    clear BK119
                    clear BK125
                    clear HB
                    have HO_126001 := n0_
                    have BK119 := n1_
                    have BK125 := n2_
                    have HB := n3_
                    clear n0_ n1_ n2_ n3_
                    (try clear hb)
                    (try clear hb2)
                    (try clear hk)
                    (try clear hi)
                    refine hK.out _ _ ⟨(blk_cell BK125.out 0).trans rfl, (blk_cell BK125.out 1).trans rfl, (blk_cell BK125.out 2).trans rfl, (blk_cell BK125.out 3).trans rfl, ((HB.out.cell (World.block_lt_of_cell? w _ hw127_0)).trans hw127_0)⟩ (fun hHeld => ?_)
                    clear hK K
                    refine norm_ (a' := ?_) ?_ ?_
                    rotate_left
                    · show Act.put _ (some 37) _ = _
                      simp only [Act.put, List.setIfInBounds_toArray, List.set_cons_zero, List.set_cons_succ, i64_w, i32_w]
                      rfl
                    refine one_ (i := 7) (N := some 38) #[true, true, true, true, true, true, true, true, false, false, false] rfl rfl (one_of HT_.out (by kernel_rfl)) (by decide) (fun K hK => ?_)
                    refine value_ (w1 := ?_) (v := ?_) (by rfl) rfl ?_ ?_
                    rotate_left 2
                    · go_simp
                      constructor
                      · rfl
                      · rfl
                    refine hK.out _ _ ⟨(blk_cell (blk_alloc BK125.out _) 0).trans rfl, (blk_cell (blk_alloc BK125.out _) 1).trans rfl, (blk_cell (blk_alloc BK125.out _) 2).trans rfl, (blk_cell (blk_alloc BK125.out _) 3).trans rfl, (World.cell?_alloc_lt _ _ _ (World.block_lt_of_cell? _ _ (((HB.out.cell (World.block_lt_of_cell? w _ hw127_0)).trans hw127_0)))).trans (((HB.out.cell (World.block_lt_of_cell? w _ hw127_0)).trans hw127_0))⟩ (fun hHeld => ?_)
                    clear hK K
                    refine norm_ (a' := ?_) ?_ ?_
                    rotate_left
                    · show Act.put _ (some 38) _ = _
                      simp only [Act.put, List.setIfInBounds_toArray, List.set_cons_zero, List.set_cons_succ, i64_w, i32_w]
                      rfl
                    refine one_ (i := 8) (N := some 39) #[true, true, true, true, true, true, true, true, true, false, false] rfl rfl (one_of HT_.out (by kernel_rfl)) (by decide) (fun K hK => ?_)
                    refine Kd.R_append_step k27 (w0 := w) w.heap.size (by rfl) (.tmp 32) (.tmp 38) 23 27 (.agg #[(.string ⟨#[]⟩), (.string ⟨#[]⟩)]) 32 rfl Tryd.underlying23 info27 rfl (by decide) (by omega) u126001 x126001_1 (⟨t128, t129⟩ : S27) [.string t128, .string t129] (fun _ => True) (fun _ => False) rfl rfl ?aP (fun _ hk => hk.elim) ?aF ?aO ?aB ?aS ?aL ?_
                    (case aP => exact k27_mkM _ _ _ (⟨t128, t129⟩ : S27))
                    (case aB => exact (by repeat (first | (with_reducible first | exact HB.out | apply below_alloc | apply pw_below_drewN | apply below_drew1 | refine below_set ?_ GE119.out | refine below_set ?_ GE125.out) | exact HB.out)))
                    (case aF => exact (fun _ _ => trivial))
                    (case aO => exact (by (with_reducible repeat (first | apply Kd.R_alloc | apply Kd.R_drewN | apply Kd.R_drew)); exact HO_126001.out))
                    (case aS => exact (below_size (by repeat (first | (with_reducible first | exact HB.out | apply below_alloc | apply pw_below_drewN | apply below_drew1 | refine below_set ?_ GE119.out | refine below_set ?_ GE125.out) | exact HB.out))))
                    (case aL => have := LMc20.out; omega)
                    intro v131 w23 ho hb hg hat
                    rw [← Ny130.out] at ho
                    have n0_ := Aside0.mk (blk_grown (g := gb119) (o := .cells #[.int .i64 0, .slice none 0 0, .string (⟨#[]⟩ : ByteArray), .bool false] 45 (0, 0)) (by (with_reducible repeat (first | refine blk_drewN ?_ _ | refine blk_drew ?_ | refine blk_alloc ?_ _)); exact BK119.out) hg (Kd.R_ne HO_126001.out BK119.out (by decide)))
                    have n1_ := Aside0.mk (blk_grown (g := gb125) (o := .cells #[.int .i64 (rd y120 t123), u126001, .string (⟨#[]⟩ : ByteArray), .bool false] 45 (0, 0)) (by (with_reducible repeat (first | refine blk_drewN ?_ _ | refine blk_drew ?_ | refine blk_alloc ?_ _)); exact BK125.out) hg (Kd.R_ne HO_126001.out BK125.out (by decide)))
                    have n2_ := Aside0.mk (hb)
                    have n3_ := Aside0.mk (ho)
                    clear BK119
                    clear BK125
                    clear HB
                    clear HO_126001
                    have BK119 := n0_
                    have BK125 := n1_
                    have HB := n2_
                    have HO132 := n3_
                    clear n0_ n1_ n2_ n3_
                    clear ho hb hg hat
                    obtain ⟨Ao24, co24, eo24⟩ := Kd.R_slice HO132.out
                    (first | subst eo24 | (injection eo24 with f1_ f2_ f3_; have f4_ := f1_.symm; have f5_ := f3_.symm; clear f1_ f2_ f3_; subst f4_; subst f5_))
                    refine hK.out _ _ ⟨(blk_cell BK125.out 0).trans rfl, (blk_cell BK125.out 1).trans rfl, (blk_cell BK125.out 2).trans rfl, (blk_cell BK125.out 3).trans rfl, ((HB.out.cell (World.block_lt_of_cell? w _ hw127_0)).trans hw127_0)⟩ (fun hHeld => ?_)
                    clear hK K
                    refine norm_ (a' := ?_) ?_ ?_
                    rotate_left
                    · show Act.put _ (some 39) _ = _
                      simp only [Act.put, List.setIfInBounds_toArray, List.set_cons_zero, List.set_cons_succ, i64_w, i32_w]
                      rfl
                    refine pure_ (i := 9) (N := some 40) (v := ?_) (a' := ?_) #[true, true, true, true, true, true, true, true, true, true, false] rfl rfl (any_of HT_.out (by kernel_rfl)) (fun _ _ _ h => h) (Or.inl ⟨by rfl, ?_⟩) ?_ ?_
                    rotate_left
                    · intro w'
                      go_simp
                      with_reducible rfl
                    rotate_left
                    · simp only [Act.put, List.setIfInBounds_toArray, List.set_cons_zero, List.set_cons_succ, i64_w, i32_w]
                      rfl
                    refine last_ (i := 10) (N := none) #[true, true, true, true, true, true, true, true, true, true, true] rfl rfl (one_of HT_.out (by kernel_rfl)) (by decide) (fun K hK => ?_)
                    have hs25 : w23.cell? ⟨gb125, 1, none⟩ = some (u126001) := (blk_cell BK125.out 1).trans rfl
                    have hfs25 := blk_frozen BK125.out 1
                    have hns25_0 := NB119_125.out
                    have hms25_0 := NB125_119.out
                    refine skip_ (w1 := ?_) (by rfl) rfl ?_ ?_
                    rotate_left
                    · go_simp
                      rfl
                    refine hK.out _ _ ?_
                    clear hK K
                    refine done_ (done_of HT_.out (by kernel_rfl)) ?_
                    try go_wp2
                    go_roundg k1
                    case measure => have := HK1.out; omega
                    case rel => exact ⟨(wrap64 (x9_1 + 1)), (y130), (.slice Ao24 y130.length co24), (by first | rfl | (simp; done) | (simp [*]; done)), H', ⟨by have := HK1.out; omega⟩, ⟨by (with_reducible repeat (first | apply Kd.R_alloc | apply Kd.R_drewN | apply Kd.R_drew)); exact Kd.R_mono (Kd.R_far (p := ⟨gb125, 1, none⟩) (Kd.R_types HO132.out BK125.out (by decide)) (fun _ hk => hk.2) (.slice Ao24 y130.length co24)) (fun _ hk => trivial)⟩, ⟨by (with_reducible repeat (first | refine blk_drewN ?_ _ | refine blk_drew ?_ | refine blk_alloc ?_ _)); refine blk_far ?_ NB119_125.out _; (with_reducible repeat (first | refine blk_drewN ?_ _ | refine blk_drew ?_ | refine blk_alloc ?_ _)); exact BK119.out⟩, ⟨by (with_reducible repeat (first | refine blk_drewN ?_ _ | refine blk_drew ?_ | refine blk_alloc ?_ _)); refine blk_put (cs := #[.int .i64 (rd y120 t123), u126001, .string (⟨#[]⟩ : ByteArray), .bool false]) ?_ 1 _ rfl; (with_reducible repeat (first | refine blk_drewN ?_ _ | refine blk_drew ?_ | refine blk_alloc ?_ _)); exact BK125.out⟩, ⟨by repeat (first | (with_reducible first | exact HB.out | apply below_alloc | apply pw_below_drewN | apply below_drew1 | refine below_set ?_ GE119.out | refine below_set ?_ GE125.out) | exact HB.out)⟩⟩
                  · rw [if_neg c20] at H
                    exact absurd H (by simp)
                · rw [if_neg c18] at H
                  exact absurd H (by simp)
              · rw [if_neg c17] at H
                have c17b0 : decide (x9_1 < t126) = false := decide_eq_false c17
                clear c17
                have H' := Aside0.mk H
                clear H
                go_wp2_with (first | (go_at_call 12; (with_reducible refine (postilionkeep_Within.calls (wrap64 (Int.tdiv a0 21)) 6 t126 _ A16.out).mono ?_); rintro e w' ⟨rfl, ⟨nd, rfl⟩⟩))
                go_meet
                case rel => exact ⟨_, (x126001_1), (u126001), H', ⟨by have := HK1.out; first | omega | exact Nat.le_refl _⟩, ⟨by (with_reducible repeat (first | apply Kd.R_alloc | apply Kd.R_drewN | apply Kd.R_drew)); exact HO_126001.out⟩, ⟨by (with_reducible repeat (first | refine blk_drewN ?_ _ | refine blk_drew ?_ | refine blk_alloc ?_ _)); exact BK119.out⟩, ⟨by (with_reducible repeat (first | refine blk_drewN ?_ _ | refine blk_drew ?_ | refine blk_alloc ?_ _)); exact BK125.out⟩, ⟨by repeat (first | (with_reducible first | exact HB.out | apply below_alloc | apply pw_below_drewN | apply below_drew1 | refine below_set ?_ GE119.out | refine below_set ?_ GE125.out) | exact HB.out)⟩⟩
            · rw [if_neg c15] at H
              have c15b0 : decide (x9_1 < (l1.length : Int)) = false := decide_eq_false c15
              clear c15
              (first | rw [c15b0] | (simp only [i64_w, i32_w]; rw [c15b0]) | skip)
              have H' := Aside0.mk H
              clear H
              go_wp2
              go_meet
              case rel => exact ⟨_, (x126001_1), (u126001), H', ⟨by have := HK1.out; first | omega | exact Nat.le_refl _⟩, ⟨by (with_reducible repeat (first | apply Kd.R_alloc | apply Kd.R_drewN | apply Kd.R_drew)); exact HO_126001.out⟩, ⟨by (with_reducible repeat (first | refine blk_drewN ?_ _ | refine blk_drew ?_ | refine blk_alloc ?_ _)); exact BK119.out⟩, ⟨by (with_reducible repeat (first | refine blk_drewN ?_ _ | refine blk_drew ?_ | refine blk_alloc ?_ _)); exact BK125.out⟩, ⟨by repeat (first | (with_reducible first | exact HB.out | apply below_alloc | apply pw_below_drewN | apply below_drew1 | refine below_set ?_ GE119.out | refine below_set ?_ GE125.out) | exact HB.out)⟩⟩
      case rest =>
        clear HC7
        try clear c1
        try clear p1
        try clear q1
        try clear hx1
        try clear c2
        try clear p2
        try clear c4
        try clear c5
        try clear c5b0
        try clear c6
        try clear c6b0
        try clear p6
        try clear c12
        try clear p12
        try clear q12
        try clear hx12
        try clear c13
        try clear c15
        try clear c15b0
        try clear c17
        try clear c17b0
        try clear c18
        try clear c18b0
        try clear c20
        try clear c22
        try clear hcz14_0
        try clear hcz14_1
        try clear hcz14_2
        try clear hcz14_3
        try clear hfz14_0
        try clear hfz14_1
        try clear hfz14_2
        try clear hfz14_3
        try clear hx124_0
        try clear hx127_0
        try clear p1
        try clear p12
        try clear p124
        try clear p127
        try clear p2
        try clear q1
        try clear q12
        try clear q124
        try clear q127
        obtain ⟨kq, x126001_6, u126001, HA, HJ6, HO_126001, BK119, BK125, HB⟩ := hcut
        cases kq with
        | zero => exact absurd HA.out (by simp [postilionplay_Reply.j1])
        | succ kj6 =>
          have H := HA.out
          clear HA
          simp only [postilionplay_Reply.j1] at H
          replace H := Option.bind_eq_some_iff.mp H
          obtain ⟨t133, A260, H⟩ := H
          replace H : (if t133 > 0 then (if x126001_6.length < 4398046511104 then (postilionplay_Reply.j2 kj6 a0 a2 (rd y120 t123) (x126001_6 ++ [(⟨(⟨#[97, 108, 108, 111, 119, 45, 111, 114, 105, 103, 105, 110]⟩ : ByteArray), (⟨#[42]⟩ : ByteArray)⟩ : S27)]) (⟨#[]⟩ : ByteArray) false) else (none)) else (postilionplay_Reply.j2 kj6 a0 a2 (rd y120 t123) x126001_6 (⟨#[]⟩ : ByteArray) false)) = some (r1, r2, r3, r4) := H
          have A26 := Aside0.mk A260
          clear A260
          have HC27 := Aside0.mk H
          clear H
          go_upto_if 45 with (first | ((with_reducible refine gate_calleeV (t := 41) rfl ?_); refine goesV_ (f := 12) (some 44) rfl rfl Tryd.func12 (by kernel_rfl) rfl #[.int .i64 (wrap64 (Int.tdiv a0 7)), .int .i64 3] rfl (by rfl) (by (try simp only [List.map_toArray, List.map_cons, List.map_nil]); first | done | rfl | (simp only [List.length_drop, List.length_take]; rfl)) ?_; (with_reducible refine (postilionkeep_Within.calls (wrap64 (Int.tdiv a0 7)) 3 t133 _ A26.out).mono ?_); rintro e w' ⟨rfl, ⟨nd, rfl⟩⟩; refine ⟨_, rfl, ?_⟩))
          (try simp only [Act.put, List.setIfInBounds_toArray, List.set_cons_zero, List.set_cons_succ])
          go_cut [] (fun wc => ∃ (kq : Nat) (x126001_26 : List (S27)) (u126001 : Value), Aside0 (postilionplay_Reply.j2 kq a0 a2 (rd y120 t123) x126001_26 (⟨#[]⟩ : ByteArray) false = some (r1, r2, r3, r4)) ∧ Aside0 (kq ≤ kj6) ∧ Aside0 (Kd.R k27 27 wc w.heap.size (fun _ => True) u126001 x126001_26) ∧ Aside0 (wc.heap[gb119]? = some (.cells #[.int .i64 0, (.slice none 0 0), .string (⟨#[]⟩ : ByteArray), .bool false] 45 (0, 0))) ∧ Aside0 (wc.heap[gb125]? = some (.cells #[.int .i64 (rd y120 t123), u126001, .string (⟨#[]⟩ : ByteArray), .bool false] 45 (0, 0))) ∧ Aside0 (Below w.heap.size w wc))
          case first =>
            have H := HC27.out
            clear HC27
            by_cases c28 : t133 > 0
            · rw [if_pos c28] at H
              have c28b0 : decide (0 < t133) = true := decide_eq_true c28
              clear c28
              (first | rw [c28b0] | (simp only [i64_w, i32_w]; rw [c28b0]) | skip)
              by_cases c29 : x126001_6.length < 4398046511104
              · rw [if_pos c29] at H
                have LMc29 := Aside0.mk c29
                clear c29
                obtain ⟨y134, hy134⟩ : ∃ y_ : List (S27), y_ = (x126001_6 ++ [(⟨(⟨#[97, 108, 108, 111, 119, 45, 111, 114, 105, 103, 105, 110]⟩ : ByteArray), (⟨#[42]⟩ : ByteArray)⟩ : S27)]) := ⟨_, rfl⟩
                replace H : (postilionplay_Reply.j2 kj6 a0 a2 (rd y120 t123) y134 (⟨#[]⟩ : ByteArray) false) = some (r1, r2, r3, r4) := by first | (rw [hy134]; with_reducible exact H) | (have H2_ := (Option.bind_some _ _).symm.trans H; rw [hy134]; with_reducible exact H2_) | (have H2_ := (Option.bind_some _ _).symm.trans H; with_reducible exact H2_) | with_reducible exact H | (rw [hy134]; exact H) | exact H
                have Ny134 := Aside0.mk hy134
                clear hy134
                have H' := Aside0.mk H
                clear H
                have hnb30 := NB125_119.out
                have hnc30 := NB119_125.out
                have hcz31_0 : wc.cell? ⟨gb125, 0, none⟩ = some (.int .i64 (rd y120 t123)) := (blk_cell BK125.out 0).trans rfl
                have hcz31_1 : wc.cell? ⟨gb125, 1, none⟩ = some (u126001) := (blk_cell BK125.out 1).trans rfl
                have hcz31_2 : wc.cell? ⟨gb125, 2, none⟩ = some (.string (⟨#[]⟩ : ByteArray)) := (blk_cell BK125.out 2).trans rfl
                have hcz31_3 : wc.cell? ⟨gb125, 3, none⟩ = some (.bool false) := (blk_cell BK125.out 3).trans rfl
                have hfz31_0 := blk_frozen BK125.out 0
                have hfz31_1 := blk_frozen BK125.out 1
                have hfz31_2 := blk_frozen BK125.out 2
                have hfz31_3 := blk_frozen BK125.out 3
                go_wp2_with (first | ((with_reducible refine gate_builtin (b := .append) (xs := #[.tmp 47, .tmp 49]) rfl ?_); at_builtin; refine Kd.R_append k27 (w0 := w) w.heap.size rfl (.tmp 47) (.tmp 49) 23 27 (.agg #[(.string ⟨#[]⟩), (.string ⟨#[]⟩)]) 32 rfl Tryd.underlying23 info27 rfl (by decide) (by omega) u126001 x126001_6 (⟨(⟨#[97, 108, 108, 111, 119, 45, 111, 114, 105, 103, 105, 110]⟩ : ByteArray), (⟨#[42]⟩ : ByteArray)⟩ : S27) [.string (⟨#[97, 108, 108, 111, 119, 45, 111, 114, 105, 103, 105, 110]⟩ : ByteArray), .string (⟨#[42]⟩ : ByteArray)] (fun _ => True) (fun _ => False) rfl rfl ?aP (fun _ hk => hk.elim) ?aF ?aO ?aB ?aS ?aL ?_; (case aP => exact k27_mkM _ _ _ (⟨(⟨#[97, 108, 108, 111, 119, 45, 111, 114, 105, 103, 105, 110]⟩ : ByteArray), (⟨#[42]⟩ : ByteArray)⟩ : S27)); (case aB => exact (by repeat (first | (with_reducible first | exact HB.out | apply below_alloc | apply pw_below_drewN | apply below_drew1 | refine below_set ?_ GE119.out | refine below_set ?_ GE125.out) | exact HB.out))); (case aF => exact (fun _ _ => trivial)); (case aO => exact (by (with_reducible repeat (first | apply Kd.R_alloc | apply Kd.R_drewN | apply Kd.R_drew)); exact HO_126001.out)); (case aS => exact (below_size (by repeat (first | (with_reducible first | exact HB.out | apply below_alloc | apply pw_below_drewN | apply below_drew1 | refine below_set ?_ GE119.out | refine below_set ?_ GE125.out) | exact HB.out)))); (case aL => have := LMc29.out; omega); intro v135 w32 ho hb hg hat; rw [← Ny134.out] at ho; have n0_ := Aside0.mk (blk_grown (g := gb119) (o := .cells #[.int .i64 0, .slice none 0 0, .string (⟨#[]⟩ : ByteArray), .bool false] 45 (0, 0)) (by (with_reducible repeat (first | refine blk_drewN ?_ _ | refine blk_drew ?_ | refine blk_alloc ?_ _)); exact BK119.out) hg (Kd.R_ne HO_126001.out BK119.out (by decide))); have n1_ := Aside0.mk (blk_grown (g := gb125) (o := .cells #[.int .i64 (rd y120 t123), u126001, .string (⟨#[]⟩ : ByteArray), .bool false] 45 (0, 0)) (by (with_reducible repeat (first | refine blk_drewN ?_ _ | refine blk_drew ?_ | refine blk_alloc ?_ _)); exact BK125.out) hg (Kd.R_ne HO_126001.out BK125.out (by decide))); have n2_ := Aside0.mk (hb); have n3_ := Aside0.mk (ho); clear BK119; clear BK125; clear HB; clear HO_126001; have BK119 := n0_; have BK125 := n1_; have HB := n2_; have HO136 := n3_; clear n0_ n1_ n2_ n3_; clear ho hb hg hat; obtain ⟨Ao33, co33, eo33⟩ := Kd.R_slice HO136.out; subst eo33; have hcz34_0 : w32.cell? ⟨gb125, 0, none⟩ = some (.int .i64 (rd y120 t123)) := (blk_cell BK125.out 0).trans rfl; have hcz34_1 : w32.cell? ⟨gb125, 1, none⟩ = some (u126001) := (blk_cell BK125.out 1).trans rfl; have hcz34_2 : w32.cell? ⟨gb125, 2, none⟩ = some (.string (⟨#[]⟩ : ByteArray)) := (blk_cell BK125.out 2).trans rfl; have hcz34_3 : w32.cell? ⟨gb125, 3, none⟩ = some (.bool false) := (blk_cell BK125.out 3).trans rfl; have hfz34_0 := blk_frozen BK125.out 0; have hfz34_1 := blk_frozen BK125.out 1; have hfz34_2 := blk_frozen BK125.out 2; have hfz34_3 := blk_frozen BK125.out 3))
                go_meet
                case rel => exact ⟨_, (y134), (.slice Ao33 y134.length co33), H', ⟨by have := HJ6.out; first | omega | exact Nat.le_refl _⟩, ⟨by (with_reducible repeat (first | apply Kd.R_alloc | apply Kd.R_drewN | apply Kd.R_drew)); exact Kd.R_mono (Kd.R_far (p := ⟨gb125, 1, none⟩) (Kd.R_types HO136.out BK125.out (by decide)) (fun _ hk => hk.2) (.slice Ao33 y134.length co33)) (fun _ hk => trivial)⟩, ⟨by (with_reducible repeat (first | refine blk_drewN ?_ _ | refine blk_drew ?_ | refine blk_alloc ?_ _)); refine blk_far ?_ NB119_125.out _; (with_reducible repeat (first | refine blk_drewN ?_ _ | refine blk_drew ?_ | refine blk_alloc ?_ _)); exact BK119.out⟩, ⟨by (with_reducible repeat (first | refine blk_drewN ?_ _ | refine blk_drew ?_ | refine blk_alloc ?_ _)); refine blk_put (cs := #[.int .i64 (rd y120 t123), u126001, .string (⟨#[]⟩ : ByteArray), .bool false]) ?_ 1 _ rfl; (with_reducible repeat (first | refine blk_drewN ?_ _ | refine blk_drew ?_ | refine blk_alloc ?_ _)); exact BK125.out⟩, ⟨by repeat (first | (with_reducible first | exact HB.out | apply below_alloc | apply pw_below_drewN | apply below_drew1 | refine below_set ?_ GE119.out | refine below_set ?_ GE125.out) | exact HB.out)⟩⟩
              · rw [if_neg c29] at H
                exact absurd H (by simp)
            · rw [if_neg c28] at H
              have c28b0 : decide (0 < t133) = false := decide_eq_false c28
              clear c28
              (first | rw [c28b0] | (simp only [i64_w, i32_w]; rw [c28b0]) | skip)
              have H' := Aside0.mk H
              clear H
              go_wp2
              go_meet
              case rel => exact ⟨_, (x126001_6), (u126001), H', ⟨by have := HJ6.out; first | omega | exact Nat.le_refl _⟩, ⟨by (with_reducible repeat (first | apply Kd.R_alloc | apply Kd.R_drewN | apply Kd.R_drew)); exact HO_126001.out⟩, ⟨by (with_reducible repeat (first | refine blk_drewN ?_ _ | refine blk_drew ?_ | refine blk_alloc ?_ _)); exact BK119.out⟩, ⟨by (with_reducible repeat (first | refine blk_drewN ?_ _ | refine blk_drew ?_ | refine blk_alloc ?_ _)); exact BK125.out⟩, ⟨by repeat (first | (with_reducible first | exact HB.out | apply below_alloc | apply pw_below_drewN | apply below_drew1 | refine below_set ?_ GE119.out | refine below_set ?_ GE125.out) | exact HB.out)⟩⟩
          case rest =>
            clear HC27
            try clear c1
            try clear p1
            try clear q1
            try clear hx1
            try clear c2
            try clear p2
            try clear c3
            try clear c4
            try clear c5
            try clear c5b0
            try clear c6
            try clear c6b0
            try clear p6
            try clear c12
            try clear p12
            try clear q12
            try clear hx12
            try clear c13
            try clear c15
            try clear c15b0
            try clear c17
            try clear c17b0
            try clear c18
            try clear c18b0
            try clear c20
            try clear c22
            try clear c28
            try clear c28b0
            try clear c29
            try clear c30
            try clear hcz14_0
            try clear hcz14_1
            try clear hcz14_2
            try clear hcz14_3
            try clear hcz31_0
            try clear hcz31_1
            try clear hcz31_2
            try clear hcz31_3
            try clear hcz34_0
            try clear hcz34_1
            try clear hcz34_2
            try clear hcz34_3
            try clear hfz14_0
            try clear hfz14_1
            try clear hfz14_2
            try clear hfz14_3
            try clear hfz31_0
            try clear hfz31_1
            try clear hfz31_2
            try clear hfz31_3
            try clear hfz34_0
            try clear hfz34_1
            try clear hfz34_2
            try clear hfz34_3
            try clear hx124_0
            try clear hx127_0
            try clear p1
            try clear p12
            try clear p124
            try clear p127
            try clear p2
            try clear p6
            try clear q1
            try clear q12
            try clear q124
            try clear q127
            obtain ⟨kq, x126001_26, u126001, HA, HJ26, HO_126001, BK119, BK125, HB⟩ := hcut
            cases kq with
            | zero => exact absurd HA.out (by simp [postilionplay_Reply.j2])
            | succ kj26 =>
              have H := HA.out
              clear HA
              simp only [postilionplay_Reply.j2] at H
              obtain ⟨y137, hy137⟩ : ∃ y_ : List Int, y_ = (([0, 5, 8, 3, 30, 49, 60] : List Int)) := ⟨_, rfl⟩
              replace H : ((postilionkeep_Within.f (wrap64 (Int.tdiv a0 5)) 7).bind fun t140 => (if 0 ≤ t140 then (if t140 < (y137.length : Int) then ((postilionplay_Bytes.f kj26 99 (rd y137 t140)).bind fun t142 => ((postilionkeep_Within.f a0 50).bind fun t145 => (if t145 = 49 then (some ((rd y120 t123), x126001_26, a2, false)) else (some ((rd y120 t123), x126001_26, strOfNums t142, false))))) else (none)) else (none))) = some (r1, r2, r3, r4) := by first | (rw [hy137]; with_reducible exact H) | (have H2_ := (Option.bind_some _ _).symm.trans H; rw [hy137]; with_reducible exact H2_) | (have H2_ := (Option.bind_some _ _).symm.trans H; with_reducible exact H2_) | with_reducible exact H | (rw [hy137]; exact H) | exact H
              have Ny137 := Aside0.mk hy137
              clear hy137
              replace H := Option.bind_eq_some_iff.mp H
              obtain ⟨t140, A350, H⟩ := H
              replace H : (if 0 ≤ t140 then (if t140 < (y137.length : Int) then ((postilionplay_Bytes.f kj26 99 (rd y137 t140)).bind fun t142 => ((postilionkeep_Within.f a0 50).bind fun t145 => (if t145 = 49 then (some ((rd y120 t123), x126001_26, a2, false)) else (some ((rd y120 t123), x126001_26, strOfNums t142, false))))) else (none)) else (none)) = some (r1, r2, r3, r4) := H
              have A35 := Aside0.mk A350
              clear A350
              by_cases c36 : 0 ≤ t140
              · rw [if_pos c36] at H
                have c36b0 : decide (0 ≤ t140) = true := decide_eq_true c36
                clear c36
                by_cases c37 : t140 < (y137.length : Int)
                · rw [if_pos c37] at H
                  have c37b0 : decide (t140 < (y137.length : Int)) = true := decide_eq_true c37
                  clear c37
                  replace H := Option.bind_eq_some_iff.mp H
                  obtain ⟨t142, A380, H⟩ := H
                  replace H : ((postilionkeep_Within.f a0 50).bind fun t145 => (if t145 = 49 then (some ((rd y120 t123), x126001_26, a2, false)) else (some ((rd y120 t123), x126001_26, strOfNums t142, false)))) = some (r1, r2, r3, r4) := H
                  have A38 := Aside0.mk A380
                  clear A380
                  replace H := Option.bind_eq_some_iff.mp H
                  obtain ⟨t145, A390, H⟩ := H
                  replace H : (if t145 = 49 then (some ((rd y120 t123), x126001_26, a2, false)) else (some ((rd y120 t123), x126001_26, strOfNums t142, false))) = some (r1, r2, r3, r4) := H
                  have A39 := Aside0.mk A390
                  clear A390
                  by_cases c40 : t145 = 49
                  · rw [if_pos c40] at H
                    have c40b0 : (t145 == 49) = true := beq_iff_eq.mpr c40
                    have c40b1 : (t145 != 49) = false := bne_eq_false_iff_eq.mpr c40
                    clear c40
                    simp only [Option.some.injEq, Prod.mk.injEq] at H
                    obtain ⟨rfl, rfl, rfl, rfl⟩ := H
                    go_wp2_with (first | ((with_reducible refine gate_dst (N := 52) rfl ?_); refine Kd.R_lit (Kd.int .i64) _ 3 ?hg (N := 52) ?hd (xs := ([0, 5, 8, 3, 30, 49, 60] : List Int)) (inner := [.int .i64 0, .int .i64 5, .int .i64 8, .int .i64 3, .int .i64 30, .int .i64 49, .int .i64 60]) (ok := fun _ => True) (okp := fun _ => True) ?hr ?hp (fun _ hk => hk) trivial (Below.refl _ _) (Nat.le_refl _) (by simp) ?_; (case hd => rfl); (case hg => rfl); (case hr => first | (go_simp; done) | (go_simp; rfl)); (case hp => exact (Reps.one (show Kd.M (Kd.int .i64) _ _ _ 0 [.int .i64 0] from rfl) (Reps.one (show Kd.M (Kd.int .i64) _ _ _ 5 [.int .i64 5] from rfl) (Reps.one (show Kd.M (Kd.int .i64) _ _ _ 8 [.int .i64 8] from rfl) (Reps.one (show Kd.M (Kd.int .i64) _ _ _ 3 [.int .i64 3] from rfl) (Reps.one (show Kd.M (Kd.int .i64) _ _ _ 30 [.int .i64 30] from rfl) (Reps.one (show Kd.M (Kd.int .i64) _ _ _ 49 [.int .i64 49] from rfl) (Reps.one (show Kd.M (Kd.int .i64) _ _ _ 60 [.int .i64 60] from rfl) (Reps.none _ _))))))))); intro v138 w41 ho42 hb hg_ hnew_; clear hg_ hnew_; (first | rw [← Ny137.out] at ho42 | (simp only [Int.reduceToNat] at ho42; rw [← Ny137.out] at ho42)); have n0_ := Aside0.mk (Kd.R_below (by (with_reducible repeat (first | apply Kd.R_alloc | apply Kd.R_drewN | apply Kd.R_drew)); exact HO_126001.out) hb); have n1_ := Aside0.mk (Kd.R_lower ho42 (below_size (by repeat (first | (with_reducible first | exact HB.out | apply below_alloc | apply pw_below_drewN | apply below_drew1 | refine below_set ?_ GE119.out | refine below_set ?_ GE125.out) | exact HB.out)))); have n2_ := Aside0.mk (blk_below (g := gb119) (o := .cells #[.int .i64 0, .slice none 0 0, .string (⟨#[]⟩ : ByteArray), .bool false] 45 (0, 0)) (by (with_reducible repeat (first | refine blk_drewN ?_ _ | refine blk_drew ?_ | refine blk_alloc ?_ _)); exact BK119.out) hb); have n3_ := Aside0.mk (blk_below (g := gb125) (o := .cells #[.int .i64 (rd y120 t123), u126001, .string (⟨#[]⟩ : ByteArray), .bool false] 45 (0, 0)) (by (with_reducible repeat (first | refine blk_drewN ?_ _ | refine blk_drew ?_ | refine blk_alloc ?_ _)); exact BK125.out) hb); have n4_ := Aside0.mk (below_step (by repeat (first | (with_reducible first | exact HB.out | apply below_alloc | apply pw_below_drewN | apply below_drew1 | refine below_set ?_ GE119.out | refine below_set ?_ GE125.out) | exact HB.out)) hb); clear HO_126001; clear BK119; clear BK125; clear HB; have HO_126001 := n0_; have HO139 := n1_; have BK119 := n2_; have BK125 := n3_; have HB := n4_; clear n0_ n1_ n2_ n3_ n4_; clear hb ho42) | ((with_reducible refine gate_calleeV (t := 53) rfl ?_); refine goesV_ (f := 12) (some 56) rfl rfl Tryd.func12 (by kernel_rfl) rfl #[.int .i64 (wrap64 (Int.tdiv a0 5)), .int .i64 7] rfl (by rfl) (by (try simp only [List.map_toArray, List.map_cons, List.map_nil]); first | done | rfl | (simp only [List.length_drop, List.length_take]; rfl)) ?_; (with_reducible refine (postilionkeep_Within.calls (wrap64 (Int.tdiv a0 5)) 7 t140 _ A35.out).mono ?_); rintro e w' ⟨rfl, ⟨nd, rfl⟩⟩; refine ⟨_, rfl, ?_⟩; (try (rw [drewN_self w41]; generalize hq_ : World.drewN w41 _ = w41; have n0_ : Aside0 (Kd.R (Kd.int .i64) 3 w41 w.heap.size (fun _ => True) v138 y137) := ⟨by rw [← hq_]; exact (by (with_reducible repeat (first | apply Kd.R_alloc | apply Kd.R_drewN | apply Kd.R_drew)); exact HO139.out)⟩; have n1_ : Aside0 (Kd.R k27 27 w41 w.heap.size (fun _ => True) u126001 x126001_26) := ⟨by rw [← hq_]; exact (by (with_reducible repeat (first | apply Kd.R_alloc | apply Kd.R_drewN | apply Kd.R_drew)); exact HO_126001.out)⟩; have n2_ : Aside0 (w41.heap[gb119]? = some (.cells #[.int .i64 0, .slice none 0 0, .string (⟨#[]⟩ : ByteArray), .bool false] 45 (0, 0))) := ⟨by rw [← hq_]; exact (by (with_reducible repeat (first | refine blk_drewN ?_ _ | refine blk_drew ?_ | refine blk_alloc ?_ _)); exact BK119.out)⟩; have n3_ : Aside0 (w41.heap[gb125]? = some (.cells #[.int .i64 (rd y120 t123), u126001, .string (⟨#[]⟩ : ByteArray), .bool false] 45 (0, 0))) := ⟨by rw [← hq_]; exact (by (with_reducible repeat (first | refine blk_drewN ?_ _ | refine blk_drew ?_ | refine blk_alloc ?_ _)); exact BK125.out)⟩; have n4_ : Aside0 (Below w.heap.size w w41) := ⟨by rw [← hq_]; exact (by repeat (first | (with_reducible first | exact HB.out | apply below_alloc | apply pw_below_drewN | apply below_drew1 | refine below_set ?_ GE119.out | refine below_set ?_ GE125.out) | exact HB.out))⟩; clear HO139 HO_126001 BK119 BK125 HB hq_; have HO139 := n0_; have HO_126001 := n1_; have BK119 := n2_; have BK125 := n3_; have HB := n4_; clear n0_ n1_ n2_ n3_ n4_)); obtain ⟨Ao43, co43, eo43⟩ := Kd.R_slice HO139.out; subst eo43; have p141 : 0 ≤ (t140 : Int) := of_decide_eq_true (by first | (with_reducible assumption) | assumption); have q141 : t140 < (y137.length : Int) := of_decide_eq_true (by first | (with_reducible assumption) | assumption); obtain ⟨ad141, e141, hx141_0⟩ := Kd.at_int (Kd.R_reads' HO139.out).2.2 t140 p141 q141; cases e141; replace p141 := eq_true p141; replace q141 := eq_true q141) | ((with_reducible refine gate_callee (f := 50) rfl ?_); refine goesL_ (some 59) rfl rfl Tryd.func50 (by kernel_rfl) rfl #[.int .i64 99, .int .i64 (rd y137 t140)] rfl (by (try simp only [List.map_toArray, List.map_cons, List.map_nil]); first | done | rfl | (simp only [List.length_drop, List.length_take]; rfl)) ?_; (with_reducible refine (postilionplay_Bytes.calls kj26 99 (rd y137 t140) t142 _ A38.out).mono ?_); rintro e w44 ⟨v143, rfl, ho0, hb⟩; refine ⟨_, rfl, ?_⟩; have n0_ := Aside0.mk (Kd.R_below (by (with_reducible repeat (first | apply Kd.R_alloc | apply Kd.R_drewN | apply Kd.R_drew)); exact HO_126001.out) hb); have n1_ := Aside0.mk (Kd.R_below (by (with_reducible repeat (first | apply Kd.R_alloc | apply Kd.R_drewN | apply Kd.R_drew)); exact HO139.out) hb); have n2_ := Aside0.mk (Kd.R_lower ho0 (below_size (by repeat (first | (with_reducible first | exact HB.out | apply below_alloc | apply pw_below_drewN | apply below_drew1 | refine below_set ?_ GE119.out | refine below_set ?_ GE125.out) | exact HB.out)))); have n3_ := Aside0.mk (blk_below (g := gb119) (o := .cells #[.int .i64 0, .slice none 0 0, .string (⟨#[]⟩ : ByteArray), .bool false] 45 (0, 0)) (by (with_reducible repeat (first | refine blk_drewN ?_ _ | refine blk_drew ?_ | refine blk_alloc ?_ _)); exact BK119.out) hb); have n4_ := Aside0.mk (blk_below (g := gb125) (o := .cells #[.int .i64 (rd y120 t123), u126001, .string (⟨#[]⟩ : ByteArray), .bool false] 45 (0, 0)) (by (with_reducible repeat (first | refine blk_drewN ?_ _ | refine blk_drew ?_ | refine blk_alloc ?_ _)); exact BK125.out) hb); have n5_ := Aside0.mk (below_step (by repeat (first | (with_reducible first | exact HB.out | apply below_alloc | apply pw_below_drewN | apply below_drew1 | refine below_set ?_ GE119.out | refine below_set ?_ GE125.out) | exact HB.out)) hb); clear HO_126001; clear HO139; clear BK119; clear BK125; clear HB; have HO_126001 := n0_; have HO139 := n1_; have HO144 := n2_; have BK119 := n3_; have BK125 := n4_; have HB := n5_; clear n0_ n1_ n2_ n3_ n4_ n5_; (try clear hb); (try clear hb2); (try clear hk); (try clear hi); (try clear ho0); have hcv45 := own_string (P := Tryd.prog) Tryd.underlying66 Tryd.underlying5 Tryd.underlying9 (Kd.own_of_R HO144.out); have hnb46 := NB125_119.out; have hnc46 := NB119_125.out; have hcz47_0 : w44.cell? ⟨gb125, 0, none⟩ = some (.int .i64 (rd y120 t123)) := (blk_cell BK125.out 0).trans rfl; have hcz47_1 : w44.cell? ⟨gb125, 1, none⟩ = some (u126001) := (blk_cell BK125.out 1).trans rfl; have hcz47_2 : w44.cell? ⟨gb125, 2, none⟩ = some (.string (⟨#[]⟩ : ByteArray)) := (blk_cell BK125.out 2).trans rfl; have hcz47_3 : w44.cell? ⟨gb125, 3, none⟩ = some (.bool false) := (blk_cell BK125.out 3).trans rfl; have hfz47_0 := blk_frozen BK125.out 0; have hfz47_1 := blk_frozen BK125.out 1; have hfz47_2 := blk_frozen BK125.out 2; have hfz47_3 := blk_frozen BK125.out 3) | ((with_reducible refine gate_calleeV (t := 62) rfl ?_); refine goesV_ (f := 12) (some 64) rfl rfl Tryd.func12 (by kernel_rfl) rfl #[.int .i64 a0, .int .i64 50] rfl (by rfl) (by (try simp only [List.map_toArray, List.map_cons, List.map_nil]); first | done | rfl | (simp only [List.length_drop, List.length_take]; rfl)) ?_; (with_reducible refine (postilionkeep_Within.calls a0 50 t145 _ A39.out).mono ?_); rintro e w' ⟨rfl, ⟨nd, rfl⟩⟩; refine ⟨_, rfl, ?_⟩; have hcz48_0 : w44.cell? ⟨gb119, 0, none⟩ = some (.int .i64 0) := (blk_cell BK119.out 0).trans rfl; have hcz48_1 : w44.cell? ⟨gb119, 1, none⟩ = some (.slice none 0 0) := (blk_cell BK119.out 1).trans rfl; have hcz48_2 : w44.cell? ⟨gb119, 2, none⟩ = some (.string (⟨#[]⟩ : ByteArray)) := (blk_cell BK119.out 2).trans rfl; have hcz48_3 : w44.cell? ⟨gb119, 3, none⟩ = some (.bool false) := (blk_cell BK119.out 3).trans rfl; have hfz48_0 := blk_frozen BK119.out 0; have hfz48_1 := blk_frozen BK119.out 1; have hfz48_2 := blk_frozen BK119.out 2; have hfz48_3 := blk_frozen BK119.out 3; obtain ⟨Ao49, co49, eo49⟩ := Kd.R_slice HO_126001.out; subst eo49))
                    refine bodyPost_ret (results_cell_row rfl _ _ gb119 45 #[.int .i64 (rd y120 t123), .slice Ao49 x126001_26.length co49, .string a2, .bool false] (0, 0) _ rfl (by (with_reducible repeat (first | refine blk_drewN ?_ _ | refine blk_drew ?_ | refine blk_alloc ?_ _)); refine blk_put (cs := #[.int .i64 (rd y120 t123), .slice Ao49 x126001_26.length co49, .string a2, .bool false]) ?_ 3 _ rfl; (with_reducible repeat (first | refine blk_drewN ?_ _ | refine blk_drew ?_ | refine blk_alloc ?_ _)); refine blk_put (cs := #[.int .i64 (rd y120 t123), .slice Ao49 x126001_26.length co49, .string (⟨#[]⟩ : ByteArray), .bool false]) ?_ 2 _ rfl; (with_reducible repeat (first | refine blk_drewN ?_ _ | refine blk_drew ?_ | refine blk_alloc ?_ _)); refine blk_put (cs := #[.int .i64 (rd y120 t123), .slice none 0 0, .string (⟨#[]⟩ : ByteArray), .bool false]) ?_ 1 _ rfl; (with_reducible repeat (first | refine blk_drewN ?_ _ | refine blk_drew ?_ | refine blk_alloc ?_ _)); refine blk_put (cs := #[.int .i64 0, .slice none 0 0, .string (⟨#[]⟩ : ByteArray), .bool false]) ?_ 0 _ rfl; (with_reducible repeat (first | refine blk_drewN ?_ _ | refine blk_drew ?_ | refine blk_alloc ?_ _)); refine blk_far ?_ NB119_125.out _; (with_reducible repeat (first | refine blk_drewN ?_ _ | refine blk_drew ?_ | refine blk_alloc ?_ _)); refine blk_far ?_ NB119_125.out _; (with_reducible repeat (first | refine blk_drewN ?_ _ | refine blk_drew ?_ | refine blk_alloc ?_ _)); exact BK119.out) Tryd.underlying45 rfl (by kernel_rfl)) rfl ?_
                    exact ⟨_, by first | rfl | (simp [errW_none, errW_some] <;> rfl) | (simp [*, errW_none, errW_some] <;> rfl), by (with_reducible repeat (first | apply Kd.R_alloc | apply Kd.R_drewN | apply Kd.R_drew)); exact Kd.R_mono (Kd.R_far (p := ⟨gb119, 3, none⟩) (Kd.R_far (p := ⟨gb119, 2, none⟩) (Kd.R_far (p := ⟨gb119, 1, none⟩) (Kd.R_far (p := ⟨gb119, 0, none⟩) (Kd.R_far (p := ⟨gb125, 2, none⟩) (Kd.R_far (p := ⟨gb125, 2, none⟩) (Kd.R_types (Kd.R_types HO_126001.out BK125.out (by decide)) BK119.out (by decide)) (fun _ hk => hk.1.2) (.string (strOfNums t142))) (fun _ hk => hk.1.2) (.string a2)) (fun _ hk => hk.2) (.int .i64 (rd y120 t123))) (fun _ hk => hk.2) (.slice Ao49 x126001_26.length co49)) (fun _ hk => hk.2) (.string a2)) (fun _ hk => hk.2) (.bool false)) (fun _ hk => trivial), by repeat (first | (with_reducible first | exact HB.out | apply below_alloc | apply pw_below_drewN | apply below_drew1 | refine below_set ?_ GE119.out | refine below_set ?_ GE125.out) | exact HB.out)⟩
                  · rw [if_neg c40] at H
                    have c40b0 : (t145 == 49) = false := beq_eq_false_iff_ne.mpr c40
                    have c40b1 : (t145 != 49) = true := bne_iff_ne.mpr c40
                    simp only [Option.some.injEq, Prod.mk.injEq] at H
                    obtain ⟨rfl, rfl, rfl, rfl⟩ := H
                    go_wp2_with (first | ((with_reducible refine gate_dst (N := 52) rfl ?_); refine Kd.R_lit (Kd.int .i64) _ 3 ?hg (N := 52) ?hd (xs := ([0, 5, 8, 3, 30, 49, 60] : List Int)) (inner := [.int .i64 0, .int .i64 5, .int .i64 8, .int .i64 3, .int .i64 30, .int .i64 49, .int .i64 60]) (ok := fun _ => True) (okp := fun _ => True) ?hr ?hp (fun _ hk => hk) trivial (Below.refl _ _) (Nat.le_refl _) (by simp) ?_; (case hd => rfl); (case hg => rfl); (case hr => first | (go_simp; done) | (go_simp; rfl)); (case hp => exact (Reps.one (show Kd.M (Kd.int .i64) _ _ _ 0 [.int .i64 0] from rfl) (Reps.one (show Kd.M (Kd.int .i64) _ _ _ 5 [.int .i64 5] from rfl) (Reps.one (show Kd.M (Kd.int .i64) _ _ _ 8 [.int .i64 8] from rfl) (Reps.one (show Kd.M (Kd.int .i64) _ _ _ 3 [.int .i64 3] from rfl) (Reps.one (show Kd.M (Kd.int .i64) _ _ _ 30 [.int .i64 30] from rfl) (Reps.one (show Kd.M (Kd.int .i64) _ _ _ 49 [.int .i64 49] from rfl) (Reps.one (show Kd.M (Kd.int .i64) _ _ _ 60 [.int .i64 60] from rfl) (Reps.none _ _))))))))); intro v138 w50 ho51 hb hg_ hnew_; clear hg_ hnew_; (first | rw [← Ny137.out] at ho51 | (simp only [Int.reduceToNat] at ho51; rw [← Ny137.out] at ho51)); have n0_ := Aside0.mk (Kd.R_below (by (with_reducible repeat (first | apply Kd.R_alloc | apply Kd.R_drewN | apply Kd.R_drew)); exact HO_126001.out) hb); have n1_ := Aside0.mk (Kd.R_lower ho51 (below_size (by repeat (first | (with_reducible first | exact HB.out | apply below_alloc | apply pw_below_drewN | apply below_drew1 | refine below_set ?_ GE119.out | refine below_set ?_ GE125.out) | exact HB.out)))); have n2_ := Aside0.mk (blk_below (g := gb119) (o := .cells #[.int .i64 0, .slice none 0 0, .string (⟨#[]⟩ : ByteArray), .bool false] 45 (0, 0)) (by (with_reducible repeat (first | refine blk_drewN ?_ _ | refine blk_drew ?_ | refine blk_alloc ?_ _)); exact BK119.out) hb); have n3_ := Aside0.mk (blk_below (g := gb125) (o := .cells #[.int .i64 (rd y120 t123), u126001, .string (⟨#[]⟩ : ByteArray), .bool false] 45 (0, 0)) (by (with_reducible repeat (first | refine blk_drewN ?_ _ | refine blk_drew ?_ | refine blk_alloc ?_ _)); exact BK125.out) hb); have n4_ := Aside0.mk (below_step (by repeat (first | (with_reducible first | exact HB.out | apply below_alloc | apply pw_below_drewN | apply below_drew1 | refine below_set ?_ GE119.out | refine below_set ?_ GE125.out) | exact HB.out)) hb); clear HO_126001; clear BK119; clear BK125; clear HB; have HO_126001 := n0_; have HO139 := n1_; have BK119 := n2_; have BK125 := n3_; have HB := n4_; clear n0_ n1_ n2_ n3_ n4_; clear hb ho51) | ((with_reducible refine gate_calleeV (t := 53) rfl ?_); refine goesV_ (f := 12) (some 56) rfl rfl Tryd.func12 (by kernel_rfl) rfl #[.int .i64 (wrap64 (Int.tdiv a0 5)), .int .i64 7] rfl (by rfl) (by (try simp only [List.map_toArray, List.map_cons, List.map_nil]); first | done | rfl | (simp only [List.length_drop, List.length_take]; rfl)) ?_; (with_reducible refine (postilionkeep_Within.calls (wrap64 (Int.tdiv a0 5)) 7 t140 _ A35.out).mono ?_); rintro e w' ⟨rfl, ⟨nd, rfl⟩⟩; refine ⟨_, rfl, ?_⟩; (try (rw [drewN_self w50]; generalize hq_ : World.drewN w50 _ = w50; have n0_ : Aside0 (Kd.R (Kd.int .i64) 3 w50 w.heap.size (fun _ => True) v138 y137) := ⟨by rw [← hq_]; exact (by (with_reducible repeat (first | apply Kd.R_alloc | apply Kd.R_drewN | apply Kd.R_drew)); exact HO139.out)⟩; have n1_ : Aside0 (Kd.R k27 27 w50 w.heap.size (fun _ => True) u126001 x126001_26) := ⟨by rw [← hq_]; exact (by (with_reducible repeat (first | apply Kd.R_alloc | apply Kd.R_drewN | apply Kd.R_drew)); exact HO_126001.out)⟩; have n2_ : Aside0 (w50.heap[gb119]? = some (.cells #[.int .i64 0, .slice none 0 0, .string (⟨#[]⟩ : ByteArray), .bool false] 45 (0, 0))) := ⟨by rw [← hq_]; exact (by (with_reducible repeat (first | refine blk_drewN ?_ _ | refine blk_drew ?_ | refine blk_alloc ?_ _)); exact BK119.out)⟩; have n3_ : Aside0 (w50.heap[gb125]? = some (.cells #[.int .i64 (rd y120 t123), u126001, .string (⟨#[]⟩ : ByteArray), .bool false] 45 (0, 0))) := ⟨by rw [← hq_]; exact (by (with_reducible repeat (first | refine blk_drewN ?_ _ | refine blk_drew ?_ | refine blk_alloc ?_ _)); exact BK125.out)⟩; have n4_ : Aside0 (Below w.heap.size w w50) := ⟨by rw [← hq_]; exact (by repeat (first | (with_reducible first | exact HB.out | apply below_alloc | apply pw_below_drewN | apply below_drew1 | refine below_set ?_ GE119.out | refine below_set ?_ GE125.out) | exact HB.out))⟩; clear HO139 HO_126001 BK119 BK125 HB hq_; have HO139 := n0_; have HO_126001 := n1_; have BK119 := n2_; have BK125 := n3_; have HB := n4_; clear n0_ n1_ n2_ n3_ n4_)); obtain ⟨Ao52, co52, eo52⟩ := Kd.R_slice HO139.out; subst eo52; have p141 : 0 ≤ (t140 : Int) := of_decide_eq_true (by first | (with_reducible assumption) | assumption); have q141 : t140 < (y137.length : Int) := of_decide_eq_true (by first | (with_reducible assumption) | assumption); obtain ⟨ad141, e141, hx141_0⟩ := Kd.at_int (Kd.R_reads' HO139.out).2.2 t140 p141 q141; cases e141; replace p141 := eq_true p141; replace q141 := eq_true q141) | ((with_reducible refine gate_callee (f := 50) rfl ?_); refine goesL_ (some 59) rfl rfl Tryd.func50 (by kernel_rfl) rfl #[.int .i64 99, .int .i64 (rd y137 t140)] rfl (by (try simp only [List.map_toArray, List.map_cons, List.map_nil]); first | done | rfl | (simp only [List.length_drop, List.length_take]; rfl)) ?_; (with_reducible refine (postilionplay_Bytes.calls kj26 99 (rd y137 t140) t142 _ A38.out).mono ?_); rintro e w53 ⟨v143, rfl, ho0, hb⟩; refine ⟨_, rfl, ?_⟩; have n0_ := Aside0.mk (Kd.R_below (by (with_reducible repeat (first | apply Kd.R_alloc | apply Kd.R_drewN | apply Kd.R_drew)); exact HO_126001.out) hb); have n1_ := Aside0.mk (Kd.R_below (by (with_reducible repeat (first | apply Kd.R_alloc | apply Kd.R_drewN | apply Kd.R_drew)); exact HO139.out) hb); have n2_ := Aside0.mk (Kd.R_lower ho0 (below_size (by repeat (first | (with_reducible first | exact HB.out | apply below_alloc | apply pw_below_drewN | apply below_drew1 | refine below_set ?_ GE119.out | refine below_set ?_ GE125.out) | exact HB.out)))); have n3_ := Aside0.mk (blk_below (g := gb119) (o := .cells #[.int .i64 0, .slice none 0 0, .string (⟨#[]⟩ : ByteArray), .bool false] 45 (0, 0)) (by (with_reducible repeat (first | refine blk_drewN ?_ _ | refine blk_drew ?_ | refine blk_alloc ?_ _)); exact BK119.out) hb); have n4_ := Aside0.mk (blk_below (g := gb125) (o := .cells #[.int .i64 (rd y120 t123), u126001, .string (⟨#[]⟩ : ByteArray), .bool false] 45 (0, 0)) (by (with_reducible repeat (first | refine blk_drewN ?_ _ | refine blk_drew ?_ | refine blk_alloc ?_ _)); exact BK125.out) hb); have n5_ := Aside0.mk (below_step (by repeat (first | (with_reducible first | exact HB.out | apply below_alloc | apply pw_below_drewN | apply below_drew1 | refine below_set ?_ GE119.out | refine below_set ?_ GE125.out) | exact HB.out)) hb); clear HO_126001; clear HO139; clear BK119; clear BK125; clear HB; have HO_126001 := n0_; have HO139 := n1_; have HO144 := n2_; have BK119 := n3_; have BK125 := n4_; have HB := n5_; clear n0_ n1_ n2_ n3_ n4_ n5_; (try clear hb); (try clear hb2); (try clear hk); (try clear hi); (try clear ho0); have hcv54 := own_string (P := Tryd.prog) Tryd.underlying66 Tryd.underlying5 Tryd.underlying9 (Kd.own_of_R HO144.out); have hnb55 := NB125_119.out; have hnc55 := NB119_125.out; have hcz56_0 : w53.cell? ⟨gb125, 0, none⟩ = some (.int .i64 (rd y120 t123)) := (blk_cell BK125.out 0).trans rfl; have hcz56_1 : w53.cell? ⟨gb125, 1, none⟩ = some (u126001) := (blk_cell BK125.out 1).trans rfl; have hcz56_2 : w53.cell? ⟨gb125, 2, none⟩ = some (.string (⟨#[]⟩ : ByteArray)) := (blk_cell BK125.out 2).trans rfl; have hcz56_3 : w53.cell? ⟨gb125, 3, none⟩ = some (.bool false) := (blk_cell BK125.out 3).trans rfl; have hfz56_0 := blk_frozen BK125.out 0; have hfz56_1 := blk_frozen BK125.out 1; have hfz56_2 := blk_frozen BK125.out 2; have hfz56_3 := blk_frozen BK125.out 3) | ((with_reducible refine gate_calleeV (t := 62) rfl ?_); refine goesV_ (f := 12) (some 64) rfl rfl Tryd.func12 (by kernel_rfl) rfl #[.int .i64 a0, .int .i64 50] rfl (by rfl) (by (try simp only [List.map_toArray, List.map_cons, List.map_nil]); first | done | rfl | (simp only [List.length_drop, List.length_take]; rfl)) ?_; (with_reducible refine (postilionkeep_Within.calls a0 50 t145 _ A39.out).mono ?_); rintro e w' ⟨rfl, ⟨nd, rfl⟩⟩; refine ⟨_, rfl, ?_⟩; have hcz57_0 : w53.cell? ⟨gb119, 0, none⟩ = some (.int .i64 0) := (blk_cell BK119.out 0).trans rfl; have hcz57_1 : w53.cell? ⟨gb119, 1, none⟩ = some (.slice none 0 0) := (blk_cell BK119.out 1).trans rfl; have hcz57_2 : w53.cell? ⟨gb119, 2, none⟩ = some (.string (⟨#[]⟩ : ByteArray)) := (blk_cell BK119.out 2).trans rfl; have hcz57_3 : w53.cell? ⟨gb119, 3, none⟩ = some (.bool false) := (blk_cell BK119.out 3).trans rfl; have hfz57_0 := blk_frozen BK119.out 0; have hfz57_1 := blk_frozen BK119.out 1; have hfz57_2 := blk_frozen BK119.out 2; have hfz57_3 := blk_frozen BK119.out 3; obtain ⟨Ao58, co58, eo58⟩ := Kd.R_slice HO_126001.out; subst eo58))
                    refine bodyPost_ret (results_cell_row rfl _ _ gb119 45 #[.int .i64 (rd y120 t123), .slice Ao58 x126001_26.length co58, .string (strOfNums t142), .bool false] (0, 0) _ rfl (by (with_reducible repeat (first | refine blk_drewN ?_ _ | refine blk_drew ?_ | refine blk_alloc ?_ _)); refine blk_put (cs := #[.int .i64 (rd y120 t123), .slice Ao58 x126001_26.length co58, .string (strOfNums t142), .bool false]) ?_ 3 _ rfl; (with_reducible repeat (first | refine blk_drewN ?_ _ | refine blk_drew ?_ | refine blk_alloc ?_ _)); refine blk_put (cs := #[.int .i64 (rd y120 t123), .slice Ao58 x126001_26.length co58, .string (⟨#[]⟩ : ByteArray), .bool false]) ?_ 2 _ rfl; (with_reducible repeat (first | refine blk_drewN ?_ _ | refine blk_drew ?_ | refine blk_alloc ?_ _)); refine blk_put (cs := #[.int .i64 (rd y120 t123), .slice none 0 0, .string (⟨#[]⟩ : ByteArray), .bool false]) ?_ 1 _ rfl; (with_reducible repeat (first | refine blk_drewN ?_ _ | refine blk_drew ?_ | refine blk_alloc ?_ _)); refine blk_put (cs := #[.int .i64 0, .slice none 0 0, .string (⟨#[]⟩ : ByteArray), .bool false]) ?_ 0 _ rfl; (with_reducible repeat (first | refine blk_drewN ?_ _ | refine blk_drew ?_ | refine blk_alloc ?_ _)); refine blk_far ?_ NB119_125.out _; (with_reducible repeat (first | refine blk_drewN ?_ _ | refine blk_drew ?_ | refine blk_alloc ?_ _)); exact BK119.out) Tryd.underlying45 rfl (by kernel_rfl)) rfl ?_
                    exact ⟨_, by first | rfl | (simp [errW_none, errW_some] <;> rfl) | (simp [*, errW_none, errW_some] <;> rfl), by (with_reducible repeat (first | apply Kd.R_alloc | apply Kd.R_drewN | apply Kd.R_drew)); exact Kd.R_mono (Kd.R_far (p := ⟨gb119, 3, none⟩) (Kd.R_far (p := ⟨gb119, 2, none⟩) (Kd.R_far (p := ⟨gb119, 1, none⟩) (Kd.R_far (p := ⟨gb119, 0, none⟩) (Kd.R_far (p := ⟨gb125, 2, none⟩) (Kd.R_types (Kd.R_types HO_126001.out BK125.out (by decide)) BK119.out (by decide)) (fun _ hk => hk.1.2) (.string (strOfNums t142))) (fun _ hk => hk.2) (.int .i64 (rd y120 t123))) (fun _ hk => hk.2) (.slice Ao58 x126001_26.length co58)) (fun _ hk => hk.2) (.string (strOfNums t142))) (fun _ hk => hk.2) (.bool false)) (fun _ hk => trivial), by repeat (first | (with_reducible first | exact HB.out | apply below_alloc | apply pw_below_drewN | apply below_drew1 | refine below_set ?_ GE119.out | refine below_set ?_ GE125.out) | exact HB.out)⟩
                · rw [if_neg c37] at H
                  exact absurd H (by simp)
              · rw [if_neg c36] at H
                exact absurd H (by simp)
    · rw [if_neg c6] at H
      exact absurd H (by simp)
  · rw [if_neg c5] at H
    exact absurd H (by simp)

/-! ### postilionplay_Heads: function 23 -/
mutual
def postilionplay_Heads.j1 : Nat → Int → List (S27) → List (S27) → Option ((List (S27)))
  | 0, _, _, _ => none
  | k + 1, x0, x6, x8 => (postilionkeep_Within.f (wrap64 (Int.tdiv x0 9)) 20).bind fun t158 => (if t158 = 18 then ((postilionkeep_Within.f x0 (x6.length : Int)).bind fun t159 => (if 0 ≤ t159 then (if t159 < (x6.length : Int) then (if x8.length < 4398046511104 then (some (x8 ++ [(⟨(rd_T27 x6 t159).f0, (rd_T27 x6 t159).f1⟩ : S27)])) else (none)) else (none)) else (none))) else (if t158 = 19 then (if x8.length + x8.length < 4398046511104 then (some (x8 ++ x8)) else (none)) else (some x8)))
def postilionplay_Heads.l0 : Nat → Int → List (S27) → List (S27) → List (S27) → Int → Option ((List (S27)))
  | 0, _, _, _, _, _ => none
  | k + 1, x0, x5, x6, x8, x9 => (postilionkeep_Within.f x0 4).bind fun t152 => (if x9 < t152 then (if x9 < 2 then ((postilionkeep_Within.f (wrap64 ((wrap64 (Int.tdiv x0 4)) + (wrap64 (x9 * (wrap64 (1 + (Int.tmod (wrap64 (Int.tdiv x0 64)) 5))))))) (x5.length : Int)).bind fun t153 => (if 0 ≤ t153 then (if t153 < (x5.length : Int) then (if x8.length < 4398046511104 then (postilionplay_Heads.l0 k x0 x5 x6 (x8 ++ [(⟨(rd_T27 x5 t153).f0, (rd_T27 x5 t153).f1⟩ : S27)]) (wrap64 (x9 + 1))) else (none)) else (none)) else (none))) else (postilionplay_Heads.j1 k x0 x6 x8)) else (postilionplay_Heads.j1 k x0 x6 x8))
end
def postilionplay_Heads.f (k : Nat) (a0 : Int) (a1 : ByteArray) : Option ((List (S27))) := postilionplay_Heads.l0 k a0 (([(⟨(⟨#[65, 99, 99, 101, 112, 116]⟩ : ByteArray), (⟨#[120, 47, 121]⟩ : ByteArray)⟩ : S27), (⟨(⟨#[88, 45, 79, 110, 101]⟩ : ByteArray), (⟨#[49]⟩ : ByteArray)⟩ : S27), (⟨(⟨#[67, 111, 110, 116, 101, 110, 116, 45, 84, 121, 112, 101]⟩ : ByteArray), (⟨#[116, 101, 120, 116, 47, 112, 108, 97, 105, 110, 59, 32, 117]⟩ : ByteArray)⟩ : S27), (⟨(⟨#[99, 111, 110, 116, 101, 110, 116, 45, 116, 121, 112, 101]⟩ : ByteArray), (⟨#[97, 47, 106, 115, 111, 110]⟩ : ByteArray)⟩ : S27), (⟨(⟨#[120, 45, 116, 119, 111]⟩ : ByteArray), (⟨#[]⟩ : ByteArray)⟩ : S27), (⟨(⟨#[97, 99, 99, 101, 112, 116, 45, 76, 65, 78, 71]⟩ : ByteArray), (⟨#[100, 101]⟩ : ByteArray)⟩ : S27), (⟨(⟨#[120, 45, 111, 110, 101]⟩ : ByteArray), (⟨#[50]⟩ : ByteArray)⟩ : S27)] : List (S27))) (([(⟨(⟨#[72, 111, 115, 116]⟩ : ByteArray), (⟨#[120]⟩ : ByteArray)⟩ : S27), (⟨(⟨#[67, 111, 111, 107, 105, 101]⟩ : ByteArray), (⟨#[49]⟩ : ByteArray)⟩ : S27), (⟨(⟨#[115, 101, 99, 45, 120]⟩ : ByteArray), (⟨#[49]⟩ : ByteArray)⟩ : S27), (⟨(⟨#[80, 114, 111, 120, 121, 45, 121]⟩ : ByteArray), (⟨#[49]⟩ : ByteArray)⟩ : S27), (⟨(⟨#[]⟩ : ByteArray), (⟨#[49]⟩ : ByteArray)⟩ : S27), (⟨(⟨#[97, 32, 98]⟩ : ByteArray), (⟨#[49]⟩ : ByteArray)⟩ : S27), (⟨(⟨#[120]⟩ : ByteArray), (⟨#[32, 49]⟩ : ByteArray)⟩ : S27), (⟨(⟨#[120]⟩ : ByteArray), (⟨#[49, 50, 51, 52, 53, 54, 55, 56, 57, 48, 49, 50, 51, 52, 53, 54, 32, 55]⟩ : ByteArray)⟩ : S27), (⟨(⟨#[97, 98, 99, 100, 101, 102, 103, 104, 105, 106, 107, 108, 109]⟩ : ByteArray), (⟨#[49]⟩ : ByteArray)⟩ : S27), (⟨(⟨#[120]⟩ : ByteArray), a1⟩ : S27), (⟨a1, (⟨#[49]⟩ : ByteArray)⟩ : S27), (⟨(⟨#[120]⟩ : ByteArray), (⟨#[195, 169]⟩ : ByteArray)⟩ : S27)] : List (S27))) ([] : List (S27)) 0
theorem postilionplay_Heads.mono_l : ∀ k, (∀ y0 y1 y2, LeO (postilionplay_Heads.j1 k y0 y1 y2) (postilionplay_Heads.j1 (k + 1) y0 y1 y2)) ∧ (∀ y0 y1 y2 y3 y4, LeO (postilionplay_Heads.l0 k y0 y1 y2 y3 y4) (postilionplay_Heads.l0 (k + 1) y0 y1 y2 y3 y4))
  | 0 => ⟨fun _ _ _ r h => by simp [postilionplay_Heads.j1] at h, fun _ _ _ _ _ r h => by simp [postilionplay_Heads.l0] at h⟩
  | k + 1 => by
    obtain ⟨ih0, ih1⟩ := postilionplay_Heads.mono_l k
    refine ⟨?_, ?_⟩
    · intro y0 y1 y2
      unfold postilionplay_Heads.j1
      repeat' first
      | (with_reducible exact ih0 _ _ _)
      | (with_reducible exact ih1 _ _ _ _ _)
      | (with_reducible exact LeO.refl _)
      | (with_reducible exact LeO.none _)
      | (with_reducible refine LeO.ite ?_ ?_)
      | (with_reducible refine LeO.bind ?_ (fun _ => ?_))
      | exact ih0 _ _ _
      | exact ih1 _ _ _ _ _
      | exact LeO.none _
      | refine LeO.ite ?_ ?_
      | refine LeO.bind ?_ (fun _ => ?_)
    · intro y0 y1 y2 y3 y4
      unfold postilionplay_Heads.l0
      repeat' first
      | (with_reducible exact ih0 _ _ _)
      | (with_reducible exact ih1 _ _ _ _ _)
      | (with_reducible exact LeO.refl _)
      | (with_reducible exact LeO.none _)
      | (with_reducible refine LeO.ite ?_ ?_)
      | (with_reducible refine LeO.bind ?_ (fun _ => ?_))
      | exact ih0 _ _ _
      | exact ih1 _ _ _ _ _
      | exact LeO.none _
      | refine LeO.ite ?_ ?_
      | refine LeO.bind ?_ (fun _ => ?_)
theorem postilionplay_Heads.mono : ∀ a0 a1 k, LeO (postilionplay_Heads.f k a0 a1) (postilionplay_Heads.f (k + 1) a0 a1) := by
  intro a0 a1 k
  obtain ⟨ih0, ih1⟩ := postilionplay_Heads.mono_l k
  unfold postilionplay_Heads.f
  repeat' first
      | (with_reducible exact ih0 _ _ _)
      | (with_reducible exact ih1 _ _ _ _ _)
      | (with_reducible exact LeO.refl _)
      | (with_reducible exact LeO.none _)
      | (with_reducible refine LeO.ite ?_ ?_)
      | (with_reducible refine LeO.bind ?_ (fun _ => ?_))
      | exact ih0 _ _ _
      | exact ih1 _ _ _ _ _
      | exact LeO.none _
      | refine LeO.ite ?_ ?_
      | refine LeO.bind ?_ (fun _ => ?_)
set_option maxHeartbeats 8000000 in
set_option maxRecDepth 100000 in
theorem postilionplay_Heads.calls (k : Nat) (a0 : Int) (a1 : ByteArray) (r : List (S27)) (w : World) (h : postilionplay_Heads.f k a0 a1 = some r) :
    Calls Tryd.prog 23 #[.int .i64 a0, .string a1] w fun e w' => ∃ v0_ : Value, e = .returned (v0_) ∧ Kd.R k27 27 w' w.heap.size (fun _ => True) v0_ r ∧ Below w.heap.size w w' := by
  have hu27 := Tryd.underlying27
  have HB := Aside0.mk (Below.refl w.heap.size w)
  have H : (postilionplay_Heads.l0 k a0 (([(⟨(⟨#[65, 99, 99, 101, 112, 116]⟩ : ByteArray), (⟨#[120, 47, 121]⟩ : ByteArray)⟩ : S27), (⟨(⟨#[88, 45, 79, 110, 101]⟩ : ByteArray), (⟨#[49]⟩ : ByteArray)⟩ : S27), (⟨(⟨#[67, 111, 110, 116, 101, 110, 116, 45, 84, 121, 112, 101]⟩ : ByteArray), (⟨#[116, 101, 120, 116, 47, 112, 108, 97, 105, 110, 59, 32, 117]⟩ : ByteArray)⟩ : S27), (⟨(⟨#[99, 111, 110, 116, 101, 110, 116, 45, 116, 121, 112, 101]⟩ : ByteArray), (⟨#[97, 47, 106, 115, 111, 110]⟩ : ByteArray)⟩ : S27), (⟨(⟨#[120, 45, 116, 119, 111]⟩ : ByteArray), (⟨#[]⟩ : ByteArray)⟩ : S27), (⟨(⟨#[97, 99, 99, 101, 112, 116, 45, 76, 65, 78, 71]⟩ : ByteArray), (⟨#[100, 101]⟩ : ByteArray)⟩ : S27), (⟨(⟨#[120, 45, 111, 110, 101]⟩ : ByteArray), (⟨#[50]⟩ : ByteArray)⟩ : S27)] : List (S27))) (([(⟨(⟨#[72, 111, 115, 116]⟩ : ByteArray), (⟨#[120]⟩ : ByteArray)⟩ : S27), (⟨(⟨#[67, 111, 111, 107, 105, 101]⟩ : ByteArray), (⟨#[49]⟩ : ByteArray)⟩ : S27), (⟨(⟨#[115, 101, 99, 45, 120]⟩ : ByteArray), (⟨#[49]⟩ : ByteArray)⟩ : S27), (⟨(⟨#[80, 114, 111, 120, 121, 45, 121]⟩ : ByteArray), (⟨#[49]⟩ : ByteArray)⟩ : S27), (⟨(⟨#[]⟩ : ByteArray), (⟨#[49]⟩ : ByteArray)⟩ : S27), (⟨(⟨#[97, 32, 98]⟩ : ByteArray), (⟨#[49]⟩ : ByteArray)⟩ : S27), (⟨(⟨#[120]⟩ : ByteArray), (⟨#[32, 49]⟩ : ByteArray)⟩ : S27), (⟨(⟨#[120]⟩ : ByteArray), (⟨#[49, 50, 51, 52, 53, 54, 55, 56, 57, 48, 49, 50, 51, 52, 53, 54, 32, 55]⟩ : ByteArray)⟩ : S27), (⟨(⟨#[97, 98, 99, 100, 101, 102, 103, 104, 105, 106, 107, 108, 109]⟩ : ByteArray), (⟨#[49]⟩ : ByteArray)⟩ : S27), (⟨(⟨#[120]⟩ : ByteArray), a1⟩ : S27), (⟨a1, (⟨#[49]⟩ : ByteArray)⟩ : S27), (⟨(⟨#[120]⟩ : ByteArray), (⟨#[195, 169]⟩ : ByteArray)⟩ : S27)] : List (S27))) ([] : List (S27)) 0) = some r := h
  clear h
  obtain ⟨y146, hy146⟩ : ∃ y_ : List (S27), y_ = (([(⟨(⟨#[65, 99, 99, 101, 112, 116]⟩ : ByteArray), (⟨#[120, 47, 121]⟩ : ByteArray)⟩ : S27), (⟨(⟨#[88, 45, 79, 110, 101]⟩ : ByteArray), (⟨#[49]⟩ : ByteArray)⟩ : S27), (⟨(⟨#[67, 111, 110, 116, 101, 110, 116, 45, 84, 121, 112, 101]⟩ : ByteArray), (⟨#[116, 101, 120, 116, 47, 112, 108, 97, 105, 110, 59, 32, 117]⟩ : ByteArray)⟩ : S27), (⟨(⟨#[99, 111, 110, 116, 101, 110, 116, 45, 116, 121, 112, 101]⟩ : ByteArray), (⟨#[97, 47, 106, 115, 111, 110]⟩ : ByteArray)⟩ : S27), (⟨(⟨#[120, 45, 116, 119, 111]⟩ : ByteArray), (⟨#[]⟩ : ByteArray)⟩ : S27), (⟨(⟨#[97, 99, 99, 101, 112, 116, 45, 76, 65, 78, 71]⟩ : ByteArray), (⟨#[100, 101]⟩ : ByteArray)⟩ : S27), (⟨(⟨#[120, 45, 111, 110, 101]⟩ : ByteArray), (⟨#[50]⟩ : ByteArray)⟩ : S27)] : List (S27))) := ⟨_, rfl⟩
  replace H : (postilionplay_Heads.l0 k a0 y146 (([(⟨(⟨#[72, 111, 115, 116]⟩ : ByteArray), (⟨#[120]⟩ : ByteArray)⟩ : S27), (⟨(⟨#[67, 111, 111, 107, 105, 101]⟩ : ByteArray), (⟨#[49]⟩ : ByteArray)⟩ : S27), (⟨(⟨#[115, 101, 99, 45, 120]⟩ : ByteArray), (⟨#[49]⟩ : ByteArray)⟩ : S27), (⟨(⟨#[80, 114, 111, 120, 121, 45, 121]⟩ : ByteArray), (⟨#[49]⟩ : ByteArray)⟩ : S27), (⟨(⟨#[]⟩ : ByteArray), (⟨#[49]⟩ : ByteArray)⟩ : S27), (⟨(⟨#[97, 32, 98]⟩ : ByteArray), (⟨#[49]⟩ : ByteArray)⟩ : S27), (⟨(⟨#[120]⟩ : ByteArray), (⟨#[32, 49]⟩ : ByteArray)⟩ : S27), (⟨(⟨#[120]⟩ : ByteArray), (⟨#[49, 50, 51, 52, 53, 54, 55, 56, 57, 48, 49, 50, 51, 52, 53, 54, 32, 55]⟩ : ByteArray)⟩ : S27), (⟨(⟨#[97, 98, 99, 100, 101, 102, 103, 104, 105, 106, 107, 108, 109]⟩ : ByteArray), (⟨#[49]⟩ : ByteArray)⟩ : S27), (⟨(⟨#[120]⟩ : ByteArray), a1⟩ : S27), (⟨a1, (⟨#[49]⟩ : ByteArray)⟩ : S27), (⟨(⟨#[120]⟩ : ByteArray), (⟨#[195, 169]⟩ : ByteArray)⟩ : S27)] : List (S27))) ([] : List (S27)) 0) = some r := by first | (rw [hy146]; with_reducible exact H) | (have H2_ := (Option.bind_some _ _).symm.trans H; rw [hy146]; with_reducible exact H2_) | (have H2_ := (Option.bind_some _ _).symm.trans H; with_reducible exact H2_) | with_reducible exact H | (rw [hy146]; exact H) | exact H
  have Ny146 := Aside0.mk hy146
  clear hy146
  obtain ⟨y149, hy149⟩ : ∃ y_ : List (S27), y_ = (([(⟨(⟨#[72, 111, 115, 116]⟩ : ByteArray), (⟨#[120]⟩ : ByteArray)⟩ : S27), (⟨(⟨#[67, 111, 111, 107, 105, 101]⟩ : ByteArray), (⟨#[49]⟩ : ByteArray)⟩ : S27), (⟨(⟨#[115, 101, 99, 45, 120]⟩ : ByteArray), (⟨#[49]⟩ : ByteArray)⟩ : S27), (⟨(⟨#[80, 114, 111, 120, 121, 45, 121]⟩ : ByteArray), (⟨#[49]⟩ : ByteArray)⟩ : S27), (⟨(⟨#[]⟩ : ByteArray), (⟨#[49]⟩ : ByteArray)⟩ : S27), (⟨(⟨#[97, 32, 98]⟩ : ByteArray), (⟨#[49]⟩ : ByteArray)⟩ : S27), (⟨(⟨#[120]⟩ : ByteArray), (⟨#[32, 49]⟩ : ByteArray)⟩ : S27), (⟨(⟨#[120]⟩ : ByteArray), (⟨#[49, 50, 51, 52, 53, 54, 55, 56, 57, 48, 49, 50, 51, 52, 53, 54, 32, 55]⟩ : ByteArray)⟩ : S27), (⟨(⟨#[97, 98, 99, 100, 101, 102, 103, 104, 105, 106, 107, 108, 109]⟩ : ByteArray), (⟨#[49]⟩ : ByteArray)⟩ : S27), (⟨(⟨#[120]⟩ : ByteArray), a1⟩ : S27), (⟨a1, (⟨#[49]⟩ : ByteArray)⟩ : S27), (⟨(⟨#[120]⟩ : ByteArray), (⟨#[195, 169]⟩ : ByteArray)⟩ : S27)] : List (S27))) := ⟨_, rfl⟩
  replace H : (postilionplay_Heads.l0 k a0 y146 y149 ([] : List (S27)) 0) = some r := by first | (rw [hy149]; with_reducible exact H) | (have H2_ := (Option.bind_some _ _).symm.trans H; rw [hy149]; with_reducible exact H2_) | (have H2_ := (Option.bind_some _ _).symm.trans H; with_reducible exact H2_) | with_reducible exact H | (rw [hy149]; exact H) | exact H
  have Ny149 := Aside0.mk hy149
  clear hy149
  have HC3 := Aside0.mk H
  clear H
  go_enter Tryd.func23, Tryd.ntmps23
  go_upto_block 0 with (first | ((with_reducible refine gate_dst (N := 17) rfl ?_); refine Kd.R_lit k27 _ 27 ?hg (N := 17) ?hd (xs := ([(⟨(⟨#[65, 99, 99, 101, 112, 116]⟩ : ByteArray), (⟨#[120, 47, 121]⟩ : ByteArray)⟩ : S27), (⟨(⟨#[88, 45, 79, 110, 101]⟩ : ByteArray), (⟨#[49]⟩ : ByteArray)⟩ : S27), (⟨(⟨#[67, 111, 110, 116, 101, 110, 116, 45, 84, 121, 112, 101]⟩ : ByteArray), (⟨#[116, 101, 120, 116, 47, 112, 108, 97, 105, 110, 59, 32, 117]⟩ : ByteArray)⟩ : S27), (⟨(⟨#[99, 111, 110, 116, 101, 110, 116, 45, 116, 121, 112, 101]⟩ : ByteArray), (⟨#[97, 47, 106, 115, 111, 110]⟩ : ByteArray)⟩ : S27), (⟨(⟨#[120, 45, 116, 119, 111]⟩ : ByteArray), (⟨#[]⟩ : ByteArray)⟩ : S27), (⟨(⟨#[97, 99, 99, 101, 112, 116, 45, 76, 65, 78, 71]⟩ : ByteArray), (⟨#[100, 101]⟩ : ByteArray)⟩ : S27), (⟨(⟨#[120, 45, 111, 110, 101]⟩ : ByteArray), (⟨#[50]⟩ : ByteArray)⟩ : S27)] : List (S27))) (inner := [.string (⟨#[65, 99, 99, 101, 112, 116]⟩ : ByteArray), .string (⟨#[120, 47, 121]⟩ : ByteArray), .string (⟨#[88, 45, 79, 110, 101]⟩ : ByteArray), .string (⟨#[49]⟩ : ByteArray), .string (⟨#[67, 111, 110, 116, 101, 110, 116, 45, 84, 121, 112, 101]⟩ : ByteArray), .string (⟨#[116, 101, 120, 116, 47, 112, 108, 97, 105, 110, 59, 32, 117]⟩ : ByteArray), .string (⟨#[99, 111, 110, 116, 101, 110, 116, 45, 116, 121, 112, 101]⟩ : ByteArray), .string (⟨#[97, 47, 106, 115, 111, 110]⟩ : ByteArray), .string (⟨#[120, 45, 116, 119, 111]⟩ : ByteArray), .string (⟨#[]⟩ : ByteArray), .string (⟨#[97, 99, 99, 101, 112, 116, 45, 76, 65, 78, 71]⟩ : ByteArray), .string (⟨#[100, 101]⟩ : ByteArray), .string (⟨#[120, 45, 111, 110, 101]⟩ : ByteArray), .string (⟨#[50]⟩ : ByteArray)]) (ok := fun _ => True) (okp := fun _ => True) ?hr ?hp (fun _ hk => hk) trivial (Below.refl _ _) (Nat.le_refl _) (by simp) ?_; (case hd => rfl); (case hg => rfl); (case hr => first | (go_simp; done) | (go_simp; rfl)); (case hp => exact (Reps.c2 (show Kd.M k27 _ _ _ (⟨(⟨#[65, 99, 99, 101, 112, 116]⟩ : ByteArray), (⟨#[120, 47, 121]⟩ : ByteArray)⟩ : S27) [.string (⟨#[65, 99, 99, 101, 112, 116]⟩ : ByteArray), .string (⟨#[120, 47, 121]⟩ : ByteArray)] from (k27_mkM _ _ _ (⟨(⟨#[65, 99, 99, 101, 112, 116]⟩ : ByteArray), (⟨#[120, 47, 121]⟩ : ByteArray)⟩ : S27) )) (Reps.c2 (show Kd.M k27 _ _ _ (⟨(⟨#[88, 45, 79, 110, 101]⟩ : ByteArray), (⟨#[49]⟩ : ByteArray)⟩ : S27) [.string (⟨#[88, 45, 79, 110, 101]⟩ : ByteArray), .string (⟨#[49]⟩ : ByteArray)] from (k27_mkM _ _ _ (⟨(⟨#[88, 45, 79, 110, 101]⟩ : ByteArray), (⟨#[49]⟩ : ByteArray)⟩ : S27) )) (Reps.c2 (show Kd.M k27 _ _ _ (⟨(⟨#[67, 111, 110, 116, 101, 110, 116, 45, 84, 121, 112, 101]⟩ : ByteArray), (⟨#[116, 101, 120, 116, 47, 112, 108, 97, 105, 110, 59, 32, 117]⟩ : ByteArray)⟩ : S27) [.string (⟨#[67, 111, 110, 116, 101, 110, 116, 45, 84, 121, 112, 101]⟩ : ByteArray), .string (⟨#[116, 101, 120, 116, 47, 112, 108, 97, 105, 110, 59, 32, 117]⟩ : ByteArray)] from (k27_mkM _ _ _ (⟨(⟨#[67, 111, 110, 116, 101, 110, 116, 45, 84, 121, 112, 101]⟩ : ByteArray), (⟨#[116, 101, 120, 116, 47, 112, 108, 97, 105, 110, 59, 32, 117]⟩ : ByteArray)⟩ : S27) )) (Reps.c2 (show Kd.M k27 _ _ _ (⟨(⟨#[99, 111, 110, 116, 101, 110, 116, 45, 116, 121, 112, 101]⟩ : ByteArray), (⟨#[97, 47, 106, 115, 111, 110]⟩ : ByteArray)⟩ : S27) [.string (⟨#[99, 111, 110, 116, 101, 110, 116, 45, 116, 121, 112, 101]⟩ : ByteArray), .string (⟨#[97, 47, 106, 115, 111, 110]⟩ : ByteArray)] from (k27_mkM _ _ _ (⟨(⟨#[99, 111, 110, 116, 101, 110, 116, 45, 116, 121, 112, 101]⟩ : ByteArray), (⟨#[97, 47, 106, 115, 111, 110]⟩ : ByteArray)⟩ : S27) )) (Reps.c2 (show Kd.M k27 _ _ _ (⟨(⟨#[120, 45, 116, 119, 111]⟩ : ByteArray), (⟨#[]⟩ : ByteArray)⟩ : S27) [.string (⟨#[120, 45, 116, 119, 111]⟩ : ByteArray), .string (⟨#[]⟩ : ByteArray)] from (k27_mkM _ _ _ (⟨(⟨#[120, 45, 116, 119, 111]⟩ : ByteArray), (⟨#[]⟩ : ByteArray)⟩ : S27) )) (Reps.c2 (show Kd.M k27 _ _ _ (⟨(⟨#[97, 99, 99, 101, 112, 116, 45, 76, 65, 78, 71]⟩ : ByteArray), (⟨#[100, 101]⟩ : ByteArray)⟩ : S27) [.string (⟨#[97, 99, 99, 101, 112, 116, 45, 76, 65, 78, 71]⟩ : ByteArray), .string (⟨#[100, 101]⟩ : ByteArray)] from (k27_mkM _ _ _ (⟨(⟨#[97, 99, 99, 101, 112, 116, 45, 76, 65, 78, 71]⟩ : ByteArray), (⟨#[100, 101]⟩ : ByteArray)⟩ : S27) )) (Reps.c2 (show Kd.M k27 _ _ _ (⟨(⟨#[120, 45, 111, 110, 101]⟩ : ByteArray), (⟨#[50]⟩ : ByteArray)⟩ : S27) [.string (⟨#[120, 45, 111, 110, 101]⟩ : ByteArray), .string (⟨#[50]⟩ : ByteArray)] from (k27_mkM _ _ _ (⟨(⟨#[120, 45, 111, 110, 101]⟩ : ByteArray), (⟨#[50]⟩ : ByteArray)⟩ : S27) )) (Reps.none _ _))))))))); intro v147 w4 ho5 hb hg_ hnew_; clear hg_ hnew_; (first | rw [← Ny146.out] at ho5 | (simp only [Int.reduceToNat] at ho5; rw [← Ny146.out] at ho5)); have n0_ := Aside0.mk (Kd.R_lower ho5 (below_size (by repeat (first | (with_reducible first | exact HB.out | apply below_alloc | apply pw_below_drewN | apply below_drew1) | exact HB.out)))); have n1_ := Aside0.mk (below_step (by repeat (first | (with_reducible first | exact HB.out | apply below_alloc | apply pw_below_drewN | apply below_drew1) | exact HB.out)) hb); clear HB; have HO148 := n0_; have HB := n1_; clear n0_ n1_; clear hb ho5) | ((with_reducible refine gate_dst (N := 32) rfl ?_); refine Kd.R_lit k27 _ 27 ?hg (N := 32) ?hd (xs := ([(⟨(⟨#[72, 111, 115, 116]⟩ : ByteArray), (⟨#[120]⟩ : ByteArray)⟩ : S27), (⟨(⟨#[67, 111, 111, 107, 105, 101]⟩ : ByteArray), (⟨#[49]⟩ : ByteArray)⟩ : S27), (⟨(⟨#[115, 101, 99, 45, 120]⟩ : ByteArray), (⟨#[49]⟩ : ByteArray)⟩ : S27), (⟨(⟨#[80, 114, 111, 120, 121, 45, 121]⟩ : ByteArray), (⟨#[49]⟩ : ByteArray)⟩ : S27), (⟨(⟨#[]⟩ : ByteArray), (⟨#[49]⟩ : ByteArray)⟩ : S27), (⟨(⟨#[97, 32, 98]⟩ : ByteArray), (⟨#[49]⟩ : ByteArray)⟩ : S27), (⟨(⟨#[120]⟩ : ByteArray), (⟨#[32, 49]⟩ : ByteArray)⟩ : S27), (⟨(⟨#[120]⟩ : ByteArray), (⟨#[49, 50, 51, 52, 53, 54, 55, 56, 57, 48, 49, 50, 51, 52, 53, 54, 32, 55]⟩ : ByteArray)⟩ : S27), (⟨(⟨#[97, 98, 99, 100, 101, 102, 103, 104, 105, 106, 107, 108, 109]⟩ : ByteArray), (⟨#[49]⟩ : ByteArray)⟩ : S27), (⟨(⟨#[120]⟩ : ByteArray), a1⟩ : S27), (⟨a1, (⟨#[49]⟩ : ByteArray)⟩ : S27), (⟨(⟨#[120]⟩ : ByteArray), (⟨#[195, 169]⟩ : ByteArray)⟩ : S27)] : List (S27))) (inner := [.string (⟨#[72, 111, 115, 116]⟩ : ByteArray), .string (⟨#[120]⟩ : ByteArray), .string (⟨#[67, 111, 111, 107, 105, 101]⟩ : ByteArray), .string (⟨#[49]⟩ : ByteArray), .string (⟨#[115, 101, 99, 45, 120]⟩ : ByteArray), .string (⟨#[49]⟩ : ByteArray), .string (⟨#[80, 114, 111, 120, 121, 45, 121]⟩ : ByteArray), .string (⟨#[49]⟩ : ByteArray), .string (⟨#[]⟩ : ByteArray), .string (⟨#[49]⟩ : ByteArray), .string (⟨#[97, 32, 98]⟩ : ByteArray), .string (⟨#[49]⟩ : ByteArray), .string (⟨#[120]⟩ : ByteArray), .string (⟨#[32, 49]⟩ : ByteArray), .string (⟨#[120]⟩ : ByteArray), .string (⟨#[49, 50, 51, 52, 53, 54, 55, 56, 57, 48, 49, 50, 51, 52, 53, 54, 32, 55]⟩ : ByteArray), .string (⟨#[97, 98, 99, 100, 101, 102, 103, 104, 105, 106, 107, 108, 109]⟩ : ByteArray), .string (⟨#[49]⟩ : ByteArray), .string (⟨#[120]⟩ : ByteArray), .string a1, .string a1, .string (⟨#[49]⟩ : ByteArray), .string (⟨#[120]⟩ : ByteArray), .string (⟨#[195, 169]⟩ : ByteArray)]) (ok := fun _ => True) (okp := fun _ => True) ?hr ?hp (fun _ hk => hk) trivial (Below.refl _ _) (Nat.le_refl _) (by simp) ?_; (case hd => rfl); (case hg => rfl); (case hr => first | (go_simp; done) | (go_simp; rfl)); (case hp => exact (Reps.c2 (show Kd.M k27 _ _ _ (⟨(⟨#[72, 111, 115, 116]⟩ : ByteArray), (⟨#[120]⟩ : ByteArray)⟩ : S27) [.string (⟨#[72, 111, 115, 116]⟩ : ByteArray), .string (⟨#[120]⟩ : ByteArray)] from (k27_mkM _ _ _ (⟨(⟨#[72, 111, 115, 116]⟩ : ByteArray), (⟨#[120]⟩ : ByteArray)⟩ : S27) )) (Reps.c2 (show Kd.M k27 _ _ _ (⟨(⟨#[67, 111, 111, 107, 105, 101]⟩ : ByteArray), (⟨#[49]⟩ : ByteArray)⟩ : S27) [.string (⟨#[67, 111, 111, 107, 105, 101]⟩ : ByteArray), .string (⟨#[49]⟩ : ByteArray)] from (k27_mkM _ _ _ (⟨(⟨#[67, 111, 111, 107, 105, 101]⟩ : ByteArray), (⟨#[49]⟩ : ByteArray)⟩ : S27) )) (Reps.c2 (show Kd.M k27 _ _ _ (⟨(⟨#[115, 101, 99, 45, 120]⟩ : ByteArray), (⟨#[49]⟩ : ByteArray)⟩ : S27) [.string (⟨#[115, 101, 99, 45, 120]⟩ : ByteArray), .string (⟨#[49]⟩ : ByteArray)] from (k27_mkM _ _ _ (⟨(⟨#[115, 101, 99, 45, 120]⟩ : ByteArray), (⟨#[49]⟩ : ByteArray)⟩ : S27) )) (Reps.c2 (show Kd.M k27 _ _ _ (⟨(⟨#[80, 114, 111, 120, 121, 45, 121]⟩ : ByteArray), (⟨#[49]⟩ : ByteArray)⟩ : S27) [.string (⟨#[80, 114, 111, 120, 121, 45, 121]⟩ : ByteArray), .string (⟨#[49]⟩ : ByteArray)] from (k27_mkM _ _ _ (⟨(⟨#[80, 114, 111, 120, 121, 45, 121]⟩ : ByteArray), (⟨#[49]⟩ : ByteArray)⟩ : S27) )) (Reps.c2 (show Kd.M k27 _ _ _ (⟨(⟨#[]⟩ : ByteArray), (⟨#[49]⟩ : ByteArray)⟩ : S27) [.string (⟨#[]⟩ : ByteArray), .string (⟨#[49]⟩ : ByteArray)] from (k27_mkM _ _ _ (⟨(⟨#[]⟩ : ByteArray), (⟨#[49]⟩ : ByteArray)⟩ : S27) )) (Reps.c2 (show Kd.M k27 _ _ _ (⟨(⟨#[97, 32, 98]⟩ : ByteArray), (⟨#[49]⟩ : ByteArray)⟩ : S27) [.string (⟨#[97, 32, 98]⟩ : ByteArray), .string (⟨#[49]⟩ : ByteArray)] from (k27_mkM _ _ _ (⟨(⟨#[97, 32, 98]⟩ : ByteArray), (⟨#[49]⟩ : ByteArray)⟩ : S27) )) (Reps.c2 (show Kd.M k27 _ _ _ (⟨(⟨#[120]⟩ : ByteArray), (⟨#[32, 49]⟩ : ByteArray)⟩ : S27) [.string (⟨#[120]⟩ : ByteArray), .string (⟨#[32, 49]⟩ : ByteArray)] from (k27_mkM _ _ _ (⟨(⟨#[120]⟩ : ByteArray), (⟨#[32, 49]⟩ : ByteArray)⟩ : S27) )) (Reps.c2 (show Kd.M k27 _ _ _ (⟨(⟨#[120]⟩ : ByteArray), (⟨#[49, 50, 51, 52, 53, 54, 55, 56, 57, 48, 49, 50, 51, 52, 53, 54, 32, 55]⟩ : ByteArray)⟩ : S27) [.string (⟨#[120]⟩ : ByteArray), .string (⟨#[49, 50, 51, 52, 53, 54, 55, 56, 57, 48, 49, 50, 51, 52, 53, 54, 32, 55]⟩ : ByteArray)] from (k27_mkM _ _ _ (⟨(⟨#[120]⟩ : ByteArray), (⟨#[49, 50, 51, 52, 53, 54, 55, 56, 57, 48, 49, 50, 51, 52, 53, 54, 32, 55]⟩ : ByteArray)⟩ : S27) )) (Reps.c2 (show Kd.M k27 _ _ _ (⟨(⟨#[97, 98, 99, 100, 101, 102, 103, 104, 105, 106, 107, 108, 109]⟩ : ByteArray), (⟨#[49]⟩ : ByteArray)⟩ : S27) [.string (⟨#[97, 98, 99, 100, 101, 102, 103, 104, 105, 106, 107, 108, 109]⟩ : ByteArray), .string (⟨#[49]⟩ : ByteArray)] from (k27_mkM _ _ _ (⟨(⟨#[97, 98, 99, 100, 101, 102, 103, 104, 105, 106, 107, 108, 109]⟩ : ByteArray), (⟨#[49]⟩ : ByteArray)⟩ : S27) )) (Reps.c2 (show Kd.M k27 _ _ _ (⟨(⟨#[120]⟩ : ByteArray), a1⟩ : S27) [.string (⟨#[120]⟩ : ByteArray), .string a1] from (k27_mkM _ _ _ (⟨(⟨#[120]⟩ : ByteArray), a1⟩ : S27) )) (Reps.c2 (show Kd.M k27 _ _ _ (⟨a1, (⟨#[49]⟩ : ByteArray)⟩ : S27) [.string a1, .string (⟨#[49]⟩ : ByteArray)] from (k27_mkM _ _ _ (⟨a1, (⟨#[49]⟩ : ByteArray)⟩ : S27) )) (Reps.c2 (show Kd.M k27 _ _ _ (⟨(⟨#[120]⟩ : ByteArray), (⟨#[195, 169]⟩ : ByteArray)⟩ : S27) [.string (⟨#[120]⟩ : ByteArray), .string (⟨#[195, 169]⟩ : ByteArray)] from (k27_mkM _ _ _ (⟨(⟨#[120]⟩ : ByteArray), (⟨#[195, 169]⟩ : ByteArray)⟩ : S27) )) (Reps.none _ _)))))))))))))); intro v150 w6 ho7 hb hg_ hnew_; clear hg_ hnew_; (first | rw [← Ny149.out] at ho7 | (simp only [Int.reduceToNat] at ho7; rw [← Ny149.out] at ho7)); have n0_ := Aside0.mk (Kd.R_elder' (by (with_reducible repeat (first | apply Kd.R_alloc | apply Kd.R_drewN | apply Kd.R_drew)); exact HO148.out) (Kd.R_base ho7) hb); have n1_ := Aside0.mk (Kd.R_lower (Kd.R_new' ho7 (Kd.R_lt (by (with_reducible repeat (first | apply Kd.R_alloc | apply Kd.R_drewN | apply Kd.R_drew)); exact HO148.out))) (below_size (by repeat (first | (with_reducible first | exact HB.out | apply below_alloc | apply pw_below_drewN | apply below_drew1) | exact HB.out)))); have n2_ := Aside0.mk (below_step (by repeat (first | (with_reducible first | exact HB.out | apply below_alloc | apply pw_below_drewN | apply below_drew1) | exact HB.out)) hb); clear HO148; clear HB; have HO148 := n0_; have HO151 := n1_; have HB := n2_; clear n0_ n1_ n2_; clear hb ho7))
  (try simp only [Act.put, List.setIfInBounds_toArray, List.set_cons_zero, List.set_cons_succ])
  go_cut [8] (fun v8 wc => ∃ (kq : Nat) (x8_2 : List (S27)), Aside0 (postilionplay_Heads.j1 kq a0 y149 x8_2 = some r) ∧ Aside0 (kq ≤ k) ∧ Aside0 (Kd.R k27 27 wc w.heap.size (fun k_ => some k_ ≠ (v8 : Value).ownBlock) v150 y149) ∧ Aside0 (Kd.R k27 27 wc w.heap.size (fun k_ => some k_ ≠ (v150 : Value).ownBlock) v8 x8_2) ∧ Aside0 (Below w.heap.size w wc))
  case first =>
    have H := HC3.out
    clear HC3
    have H' := Aside0.mk H
    clear H
    go_wp2
    go_loopg [8, 9] k (fun kq v8 v9 w' => ∃ (x8_1 : List (S27)) (x9_1 : Int), v9 = .int .i64 x9_1 ∧ Aside0 (postilionplay_Heads.l0 kq a0 y146 y149 x8_1 x9_1 = some r) ∧ Aside0 (kq ≤ k) ∧ Aside0 (Kd.R k27 27 w' w.heap.size (fun k_ => some k_ ≠ (v150 : Value).ownBlock ∧ some k_ ≠ (v8 : Value).ownBlock) v147 y146) ∧ Aside0 (Kd.R k27 27 w' w.heap.size (fun k_ => some k_ ≠ (v147 : Value).ownBlock ∧ some k_ ≠ (v8 : Value).ownBlock) v150 y149) ∧ Aside0 (Kd.R k27 27 w' w.heap.size (fun k_ => some k_ ≠ (v147 : Value).ownBlock ∧ some k_ ≠ (v150 : Value).ownBlock) v8 x8_1) ∧ Aside0 (Below w.heap.size w w'))
    case atStart => exact ⟨(([] : List (S27))), (0), (by first | rfl | (simp; done) | (simp [*]; done)), H', ⟨Nat.le_refl _⟩, ⟨by (with_reducible repeat (first | apply Kd.R_alloc | apply Kd.R_drewN | apply Kd.R_drew)); exact Kd.R_mono HO148.out (fun _ hk => ⟨hk.2, (by simp [Value.ownBlock])⟩)⟩, ⟨by (with_reducible repeat (first | apply Kd.R_alloc | apply Kd.R_drewN | apply Kd.R_drew)); exact Kd.R_mono HO151.out (fun _ hk => ⟨hk.2, (by simp [Value.ownBlock])⟩)⟩, ⟨by first | exact Kd.R_nil _ _ _ _ _ | exact Kd.N_nil _ _ _ _ _ | exact Kd.V_nil _ _ _ _ _ | exact Kd.Q_nil _ _ _ _ _ | exact Kd.S_nil _ _ _ _ _⟩, ⟨by repeat (first | (with_reducible first | exact HB.out | apply below_alloc | apply pw_below_drewN | apply below_drew1) | exact HB.out)⟩⟩
    case round =>
      clear H'
      try clear c2
      try clear p2
      obtain ⟨x8_1, x9_1, rfl, HA, HK1, HO_5, HO_6, HO_8, HB⟩ := hrel
      cases gk with
      | zero => exact absurd HA.out (by simp [postilionplay_Heads.l0])
      | succ k1 =>
        have H := HA.out
        clear HA
        simp only [postilionplay_Heads.l0] at H
        replace H := Option.bind_eq_some_iff.mp H
        obtain ⟨t152, A80, H⟩ := H
        replace H : (if x9_1 < t152 then (if x9_1 < 2 then ((postilionkeep_Within.f (wrap64 ((wrap64 (Int.tdiv a0 4)) + (wrap64 (x9_1 * (wrap64 (1 + (Int.tmod (wrap64 (Int.tdiv a0 64)) 5))))))) (y146.length : Int)).bind fun t153 => (if 0 ≤ t153 then (if t153 < (y146.length : Int) then (if x8_1.length < 4398046511104 then (postilionplay_Heads.l0 k1 a0 y146 y149 (x8_1 ++ [(⟨(rd_T27 y146 t153).f0, (rd_T27 y146 t153).f1⟩ : S27)]) (wrap64 (x9_1 + 1))) else (none)) else (none)) else (none))) else (postilionplay_Heads.j1 k1 a0 y149 x8_1)) else (postilionplay_Heads.j1 k1 a0 y149 x8_1)) = some r := H
        have A8 := Aside0.mk A80
        clear A80
        by_cases c9 : x9_1 < t152
        · rw [if_pos c9] at H
          have c9b0 : decide (x9_1 < t152) = true := decide_eq_true c9
          clear c9
          (first | rw [c9b0] | (simp only [i64_w, i32_w]; rw [c9b0]) | skip)
          by_cases c10 : x9_1 < 2
          · rw [if_pos c10] at H
            have c10b0 : decide (x9_1 < 2) = true := decide_eq_true c10
            clear c10
            replace H := Option.bind_eq_some_iff.mp H
            obtain ⟨t153, A110, H⟩ := H
            replace H : (if 0 ≤ t153 then (if t153 < (y146.length : Int) then (if x8_1.length < 4398046511104 then (postilionplay_Heads.l0 k1 a0 y146 y149 (x8_1 ++ [(⟨(rd_T27 y146 t153).f0, (rd_T27 y146 t153).f1⟩ : S27)]) (wrap64 (x9_1 + 1))) else (none)) else (none)) else (none)) = some r := H
            have A11 := Aside0.mk A110
            clear A110
            by_cases c12 : 0 ≤ t153
            · rw [if_pos c12] at H
              have c12b0 : decide (0 ≤ t153) = true := decide_eq_true c12
              clear c12
              by_cases c13 : t153 < (y146.length : Int)
              · rw [if_pos c13] at H
                have c13b0 : decide (t153 < (y146.length : Int)) = true := decide_eq_true c13
                clear c13
                by_cases c14 : x8_1.length < 4398046511104
                · rw [if_pos c14] at H
                  have LMc14 := Aside0.mk c14
                  clear c14
                  obtain ⟨y155, hy155⟩ : ∃ y_ : List (S27), y_ = (x8_1 ++ [(⟨(rd_T27 y146 t153).f0, (rd_T27 y146 t153).f1⟩ : S27)]) := ⟨_, rfl⟩
                  replace H : (postilionplay_Heads.l0 k1 a0 y146 y149 y155 (wrap64 (x9_1 + 1))) = some r := by first | (rw [hy155]; with_reducible exact H) | (have H2_ := (Option.bind_some _ _).symm.trans H; rw [hy155]; with_reducible exact H2_) | (have H2_ := (Option.bind_some _ _).symm.trans H; with_reducible exact H2_) | with_reducible exact H | (rw [hy155]; exact H) | exact H
                  have Ny155 := Aside0.mk hy155
                  clear hy155
                  have H' := Aside0.mk H
                  clear H
                  go_wp2_with (first | ((with_reducible refine gate_calleeV (t := 34) rfl ?_); refine goesV_ (f := 12) (some 36) rfl rfl Tryd.func12 (by kernel_rfl) rfl #[.int .i64 a0, .int .i64 4] rfl (by rfl) (by (try simp only [List.map_toArray, List.map_cons, List.map_nil]); first | done | rfl | (simp only [List.length_drop, List.length_take]; rfl)) ?_; (with_reducible refine (postilionkeep_Within.calls a0 4 t152 _ A8.out).mono ?_); rintro e w' ⟨rfl, ⟨nd, rfl⟩⟩; refine ⟨_, rfl, ?_⟩; obtain ⟨Ao15, co15, eo15⟩ := Kd.R_slice HO_5.out; subst eo15) | ((with_reducible refine gate_calleeV (t := 46) rfl ?_); refine goesV_ (f := 12) (some 58) rfl rfl Tryd.func12 (by kernel_rfl) rfl #[.int .i64 (wrap64 ((wrap64 (Int.tdiv a0 4)) + (wrap64 (x9_1 * (wrap64 (1 + (Int.tmod (wrap64 (Int.tdiv a0 64)) 5))))))), .int .i64 (y146.length : Int)] rfl (by rfl) (by (try simp only [List.map_toArray, List.map_cons, List.map_nil]); first | done | rfl | (simp only [List.length_drop, List.length_take]; rfl)) ?_; (with_reducible refine (postilionkeep_Within.calls (wrap64 ((wrap64 (Int.tdiv a0 4)) + (wrap64 (x9_1 * (wrap64 (1 + (Int.tmod (wrap64 (Int.tdiv a0 64)) 5))))))) (y146.length : Int) t153 _ A11.out).mono ?_); rintro e w' ⟨rfl, ⟨nd, rfl⟩⟩; refine ⟨_, rfl, ?_⟩; have p154 : 0 ≤ (t153 : Int) := of_decide_eq_true (by first | (with_reducible assumption) | assumption); have q154 : t153 < (y146.length : Int) := of_decide_eq_true (by first | (with_reducible assumption) | assumption); obtain ⟨ad154, e154, hx154_0, hx154_1⟩ := at_T27 (Kd.R_reads' HO_5.out).2.2 t153 p154 q154; cases e154; replace p154 := eq_true p154; replace q154 := eq_true q154) | ((with_reducible refine gate_builtin (b := .append) (xs := #[.tmp 44, .tmp 61]) rfl ?_); at_builtin; refine Kd.R_append k27 (w0 := w) w.heap.size rfl (.tmp 44) (.tmp 61) 23 27 (.agg #[(.string ⟨#[]⟩), (.string ⟨#[]⟩)]) 32 rfl Tryd.underlying23 info27 rfl (by decide) (by omega) u8 x8_1 (⟨(rd_T27 y146 t153).f0, (rd_T27 y146 t153).f1⟩ : S27) [.string ((rd_T27 y146 t153).f0), .string ((rd_T27 y146 t153).f1)] (fun k_ => some k_ ≠ (.slice (some ad154) y146.length co15 : Value).ownBlock ∧ some k_ ≠ (v150 : Value).ownBlock) (fun _ => False) rfl rfl ?aP (fun _ hk => hk.elim) ?aF ?aO ?aB ?aS ?aL ?_; (case aP => exact k27_mkM _ _ _ (⟨(rd_T27 y146 t153).f0, (rd_T27 y146 t153).f1⟩ : S27)); (case aB => exact (by repeat (first | (with_reducible first | exact HB.out | apply below_alloc | apply pw_below_drewN | apply below_drew1) | exact HB.out))); (case aF => exact (fun k_ hk => ⟨Kd.fresh' (Kd.R_lt (by (with_reducible repeat (first | apply Kd.R_alloc | apply Kd.R_drewN | apply Kd.R_drew)); exact HO_5.out)) k_ hk, Kd.fresh' (Kd.R_lt (by (with_reducible repeat (first | apply Kd.R_alloc | apply Kd.R_drewN | apply Kd.R_drew)); exact HO_6.out)) k_ hk⟩)); (case aO => exact (by (with_reducible repeat (first | apply Kd.R_alloc | apply Kd.R_drewN | apply Kd.R_drew)); exact HO_8.out)); (case aS => exact (below_size (by repeat (first | (with_reducible first | exact HB.out | apply below_alloc | apply pw_below_drewN | apply below_drew1) | exact HB.out)))); (case aL => have := LMc14.out; omega); intro v156 w16 ho hb hg hat; rw [← Ny155.out] at ho; have n0_ := Aside0.mk (Kd.R_after (ok := (fun k_ => some k_ ≠ (v150 : Value).ownBlock)) (by (with_reducible repeat (first | apply Kd.R_alloc | apply Kd.R_drewN | apply Kd.R_drew)); exact HO_5.out) hg hat); have n1_ := Aside0.mk (Kd.R_after (ok := (fun k_ => some k_ ≠ (.slice (some ad154) y146.length co15 : Value).ownBlock)) (by (with_reducible repeat (first | apply Kd.R_alloc | apply Kd.R_drewN | apply Kd.R_drew)); exact HO_6.out) hg hat); have n2_ := Aside0.mk (hb); have n3_ := Aside0.mk (ho); clear HO_5; clear HO_6; clear HB; clear HO_8; have HO_5 := n0_; have HO_6 := n1_; have HB := n2_; have HO157 := n3_; clear n0_ n1_ n2_ n3_; clear ho hb hg hat))
                  go_roundg k1
                  case measure => have := HK1.out; omega
                  case rel => exact ⟨(y155), (wrap64 (x9_1 + 1)), (by first | rfl | (simp; done) | (simp [*]; done)), H', ⟨by have := HK1.out; omega⟩, ⟨by (with_reducible repeat (first | apply Kd.R_alloc | apply Kd.R_drewN | apply Kd.R_drew)); exact HO_5.out⟩, ⟨by (with_reducible repeat (first | apply Kd.R_alloc | apply Kd.R_drewN | apply Kd.R_drew)); exact HO_6.out⟩, ⟨by (with_reducible repeat (first | apply Kd.R_alloc | apply Kd.R_drewN | apply Kd.R_drew)); exact HO157.out⟩, ⟨by repeat (first | (with_reducible first | exact HB.out | apply below_alloc | apply pw_below_drewN | apply below_drew1) | exact HB.out)⟩⟩
                · rw [if_neg c14] at H
                  exact absurd H (by simp)
              · rw [if_neg c13] at H
                exact absurd H (by simp)
            · rw [if_neg c12] at H
              exact absurd H (by simp)
          · rw [if_neg c10] at H
            have c10b0 : decide (x9_1 < 2) = false := decide_eq_false c10
            clear c10
            have H' := Aside0.mk H
            clear H
            go_wp2_with (first | ((with_reducible refine gate_calleeV (t := 34) rfl ?_); refine goesV_ (f := 12) (some 36) rfl rfl Tryd.func12 (by kernel_rfl) rfl #[.int .i64 a0, .int .i64 4] rfl (by rfl) (by (try simp only [List.map_toArray, List.map_cons, List.map_nil]); first | done | rfl | (simp only [List.length_drop, List.length_take]; rfl)) ?_; (with_reducible refine (postilionkeep_Within.calls a0 4 t152 _ A8.out).mono ?_); rintro e w' ⟨rfl, ⟨nd, rfl⟩⟩; refine ⟨_, rfl, ?_⟩))
            go_meet
            case rel => exact ⟨_, (x8_1), H', ⟨by have := HK1.out; first | omega | exact Nat.le_refl _⟩, ⟨by (with_reducible repeat (first | apply Kd.R_alloc | apply Kd.R_drewN | apply Kd.R_drew)); exact Kd.R_mono HO_6.out (fun _ hk => hk.2)⟩, ⟨by (with_reducible repeat (first | apply Kd.R_alloc | apply Kd.R_drewN | apply Kd.R_drew)); exact Kd.R_mono HO_8.out (fun _ hk => hk.2)⟩, ⟨by repeat (first | (with_reducible first | exact HB.out | apply below_alloc | apply pw_below_drewN | apply below_drew1) | exact HB.out)⟩⟩
        · rw [if_neg c9] at H
          have c9b0 : decide (x9_1 < t152) = false := decide_eq_false c9
          clear c9
          (first | rw [c9b0] | (simp only [i64_w, i32_w]; rw [c9b0]) | skip)
          have H' := Aside0.mk H
          clear H
          go_wp2_with (first | ((with_reducible refine gate_calleeV (t := 34) rfl ?_); refine goesV_ (f := 12) (some 36) rfl rfl Tryd.func12 (by kernel_rfl) rfl #[.int .i64 a0, .int .i64 4] rfl (by rfl) (by (try simp only [List.map_toArray, List.map_cons, List.map_nil]); first | done | rfl | (simp only [List.length_drop, List.length_take]; rfl)) ?_; (with_reducible refine (postilionkeep_Within.calls a0 4 t152 _ A8.out).mono ?_); rintro e w' ⟨rfl, ⟨nd, rfl⟩⟩; refine ⟨_, rfl, ?_⟩))
          go_meet
          case rel => exact ⟨_, (x8_1), H', ⟨by have := HK1.out; first | omega | exact Nat.le_refl _⟩, ⟨by (with_reducible repeat (first | apply Kd.R_alloc | apply Kd.R_drewN | apply Kd.R_drew)); exact Kd.R_mono HO_6.out (fun _ hk => hk.2)⟩, ⟨by (with_reducible repeat (first | apply Kd.R_alloc | apply Kd.R_drewN | apply Kd.R_drew)); exact Kd.R_mono HO_8.out (fun _ hk => hk.2)⟩, ⟨by repeat (first | (with_reducible first | exact HB.out | apply below_alloc | apply pw_below_drewN | apply below_drew1) | exact HB.out)⟩⟩
  case rest =>
    clear HC3
    try clear c1
    try clear p1
    try clear q1
    try clear hx1
    try clear c2
    try clear p2
    try clear p6
    try clear c9
    try clear c9b0
    try clear c10
    try clear c10b0
    try clear c12
    try clear c12b0
    try clear c13
    try clear c13b0
    try clear c14
    try clear p15
    try clear q15
    try clear hx15
    try clear hx154_0
    try clear hx154_1
    try clear p154
    try clear p2
    try clear q154
    obtain ⟨kq, x8_2, HA, HJ2, HO_6, HO_8, HB⟩ := hcut
    cases kq with
    | zero => exact absurd HA.out (by simp [postilionplay_Heads.j1])
    | succ kj2 =>
      have H := HA.out
      clear HA
      simp only [postilionplay_Heads.j1] at H
      replace H := Option.bind_eq_some_iff.mp H
      obtain ⟨t158, A170, H⟩ := H
      replace H : (if t158 = 18 then ((postilionkeep_Within.f a0 (y149.length : Int)).bind fun t159 => (if 0 ≤ t159 then (if t159 < (y149.length : Int) then (if x8_2.length < 4398046511104 then (some (x8_2 ++ [(⟨(rd_T27 y149 t159).f0, (rd_T27 y149 t159).f1⟩ : S27)])) else (none)) else (none)) else (none))) else (if t158 = 19 then (if x8_2.length + x8_2.length < 4398046511104 then (some (x8_2 ++ x8_2)) else (none)) else (some x8_2))) = some r := H
      have A17 := Aside0.mk A170
      clear A170
      by_cases c18 : t158 = 18
      · rw [if_pos c18] at H
        have c18b0 : (t158 == 18) = true := beq_iff_eq.mpr c18
        have c18b1 : (t158 != 18) = false := bne_eq_false_iff_eq.mpr c18
        clear c18
        replace H := Option.bind_eq_some_iff.mp H
        obtain ⟨t159, A190, H⟩ := H
        replace H : (if 0 ≤ t159 then (if t159 < (y149.length : Int) then (if x8_2.length < 4398046511104 then (some (x8_2 ++ [(⟨(rd_T27 y149 t159).f0, (rd_T27 y149 t159).f1⟩ : S27)])) else (none)) else (none)) else (none)) = some r := H
        have A19 := Aside0.mk A190
        clear A190
        by_cases c20 : 0 ≤ t159
        · rw [if_pos c20] at H
          have c20b0 : decide (0 ≤ t159) = true := decide_eq_true c20
          clear c20
          by_cases c21 : t159 < (y149.length : Int)
          · rw [if_pos c21] at H
            have c21b0 : decide (t159 < (y149.length : Int)) = true := decide_eq_true c21
            clear c21
            by_cases c22 : x8_2.length < 4398046511104
            · rw [if_pos c22] at H
              have LMc22 := Aside0.mk c22
              clear c22
              obtain ⟨y161, hy161⟩ : ∃ y_ : List (S27), y_ = (x8_2 ++ [(⟨(rd_T27 y149 t159).f0, (rd_T27 y149 t159).f1⟩ : S27)]) := ⟨_, rfl⟩
              replace H : (some y161) = some r := by first | (rw [hy161]; with_reducible exact H) | (have H2_ := (Option.bind_some _ _).symm.trans H; rw [hy161]; with_reducible exact H2_) | (have H2_ := (Option.bind_some _ _).symm.trans H; with_reducible exact H2_) | with_reducible exact H | (rw [hy161]; exact H) | exact H
              have Ny161 := Aside0.mk hy161
              clear hy161
              obtain rfl := Option.some.inj H
              go_wp2_with (first | ((with_reducible refine gate_calleeV (t := 63) rfl ?_); refine goesV_ (f := 12) (some 66) rfl rfl Tryd.func12 (by kernel_rfl) rfl #[.int .i64 (wrap64 (Int.tdiv a0 9)), .int .i64 20] rfl (by rfl) (by (try simp only [List.map_toArray, List.map_cons, List.map_nil]); first | done | rfl | (simp only [List.length_drop, List.length_take]; rfl)) ?_; (with_reducible refine (postilionkeep_Within.calls (wrap64 (Int.tdiv a0 9)) 20 t158 _ A17.out).mono ?_); rintro e w' ⟨rfl, ⟨nd, rfl⟩⟩; refine ⟨_, rfl, ?_⟩; obtain ⟨Ao23, co23, eo23⟩ := Kd.R_slice HO_6.out; subst eo23) | ((with_reducible refine gate_calleeV (t := 71) rfl ?_); refine goesV_ (f := 12) (some 75) rfl rfl Tryd.func12 (by kernel_rfl) rfl #[.int .i64 a0, .int .i64 (y149.length : Int)] rfl (by rfl) (by (try simp only [List.map_toArray, List.map_cons, List.map_nil]); first | done | rfl | (simp only [List.length_drop, List.length_take]; rfl)) ?_; (with_reducible refine (postilionkeep_Within.calls a0 (y149.length : Int) t159 _ A19.out).mono ?_); rintro e w' ⟨rfl, ⟨nd, rfl⟩⟩; refine ⟨_, rfl, ?_⟩; have p160 : 0 ≤ (t159 : Int) := of_decide_eq_true (by first | (with_reducible assumption) | assumption); have q160 : t159 < (y149.length : Int) := of_decide_eq_true (by first | (with_reducible assumption) | assumption); obtain ⟨ad160, e160, hx160_0, hx160_1⟩ := at_T27 (Kd.R_reads' HO_6.out).2.2 t159 p160 q160; cases e160; replace p160 := eq_true p160; replace q160 := eq_true q160) | ((with_reducible refine gate_builtin (b := .append) (xs := #[.tmp 69, .tmp 78]) rfl ?_); at_builtin; refine Kd.R_append k27 (w0 := w) w.heap.size rfl (.tmp 69) (.tmp 78) 23 27 (.agg #[(.string ⟨#[]⟩), (.string ⟨#[]⟩)]) 32 rfl Tryd.underlying23 info27 rfl (by decide) (by omega) u8 x8_2 (⟨(rd_T27 y149 t159).f0, (rd_T27 y149 t159).f1⟩ : S27) [.string ((rd_T27 y149 t159).f0), .string ((rd_T27 y149 t159).f1)] (fun k_ => some k_ ≠ (.slice (some ad160) y149.length co23 : Value).ownBlock) (fun _ => False) rfl rfl ?aP (fun _ hk => hk.elim) ?aF ?aO ?aB ?aS ?aL ?_; (case aP => exact k27_mkM _ _ _ (⟨(rd_T27 y149 t159).f0, (rd_T27 y149 t159).f1⟩ : S27)); (case aB => exact (by repeat (first | (with_reducible first | exact HB.out | apply below_alloc | apply pw_below_drewN | apply below_drew1) | exact HB.out))); (case aF => exact (fun k_ hk => Kd.fresh' (Kd.R_lt (by (with_reducible repeat (first | apply Kd.R_alloc | apply Kd.R_drewN | apply Kd.R_drew)); exact HO_6.out)) k_ hk)); (case aO => exact (by (with_reducible repeat (first | apply Kd.R_alloc | apply Kd.R_drewN | apply Kd.R_drew)); exact HO_8.out)); (case aS => exact (below_size (by repeat (first | (with_reducible first | exact HB.out | apply below_alloc | apply pw_below_drewN | apply below_drew1) | exact HB.out)))); (case aL => have := LMc22.out; omega); intro v162 w24 ho hb hg hat; rw [← Ny161.out] at ho; have n0_ := Aside0.mk (Kd.R_after (ok := (fun _ => True)) (by (with_reducible repeat (first | apply Kd.R_alloc | apply Kd.R_drewN | apply Kd.R_drew)); exact Kd.R_mono HO_6.out (fun _ hk => ⟨trivial, hk⟩)) hg hat); have n1_ := Aside0.mk (hb); have n2_ := Aside0.mk (ho); clear HO_6; clear HB; clear HO_8; have HO_6 := n0_; have HB := n1_; have HO163 := n2_; clear n0_ n1_ n2_; clear ho hb hg hat))
              go_ret
              exact ⟨_, by first | rfl | (simp [errW_none, errW_some] <;> rfl) | (simp [*, errW_none, errW_some] <;> rfl), by (with_reducible repeat (first | apply Kd.R_alloc | apply Kd.R_drewN | apply Kd.R_drew)); exact Kd.R_mono HO163.out (fun _ hk => trivial), by repeat (first | (with_reducible first | exact HB.out | apply below_alloc | apply pw_below_drewN | apply below_drew1) | exact HB.out)⟩
            · rw [if_neg c22] at H
              exact absurd H (by simp)
          · rw [if_neg c21] at H
            exact absurd H (by simp)
        · rw [if_neg c20] at H
          exact absurd H (by simp)
      · rw [if_neg c18] at H
        have c18b0 : (t158 == 18) = false := beq_eq_false_iff_ne.mpr c18
        have c18b1 : (t158 != 18) = true := bne_iff_ne.mpr c18
        by_cases c25 : t158 = 19
        · rw [if_pos c25] at H
          have c25b0 : (t158 == 19) = true := beq_iff_eq.mpr c25
          have c25b1 : (t158 != 19) = false := bne_eq_false_iff_eq.mpr c25
          clear c25
          by_cases c26 : x8_2.length + x8_2.length < 4398046511104
          · rw [if_pos c26] at H
            have LMc26 := Aside0.mk c26
            clear c26
            obtain ⟨y164, hy164⟩ : ∃ y_ : List (S27), y_ = (x8_2 ++ x8_2) := ⟨_, rfl⟩
            replace H : (some y164) = some r := by first | (rw [hy164]; with_reducible exact H) | (have H2_ := (Option.bind_some _ _).symm.trans H; rw [hy164]; with_reducible exact H2_) | (have H2_ := (Option.bind_some _ _).symm.trans H; with_reducible exact H2_) | with_reducible exact H | (rw [hy164]; exact H) | exact H
            have Ny164 := Aside0.mk hy164
            clear hy164
            obtain rfl := Option.some.inj H
            go_wp2_with (first | ((with_reducible refine gate_calleeV (t := 63) rfl ?_); refine goesV_ (f := 12) (some 66) rfl rfl Tryd.func12 (by kernel_rfl) rfl #[.int .i64 (wrap64 (Int.tdiv a0 9)), .int .i64 20] rfl (by rfl) (by (try simp only [List.map_toArray, List.map_cons, List.map_nil]); first | done | rfl | (simp only [List.length_drop, List.length_take]; rfl)) ?_; (with_reducible refine (postilionkeep_Within.calls (wrap64 (Int.tdiv a0 9)) 20 t158 _ A17.out).mono ?_); rintro e w' ⟨rfl, ⟨nd, rfl⟩⟩; refine ⟨_, rfl, ?_⟩; obtain ⟨Ao28, co28, eo28⟩ := Kd.R_slice HO_8.out; subst eo28) | ((with_reducible refine gate_builtin (b := .append) (xs := #[.tmp 82, .tmp 83]) rfl ?_); at_builtin; refine Kd.R_append_rows k27 (w0 := w) w.heap.size rfl (.tmp 82) (.tmp 83) 23 27 (.agg #[(.string ⟨#[]⟩), (.string ⟨#[]⟩)]) 32 rfl Tryd.underlying23 info27 rfl (by decide) (by omega) (.slice Ao28 x8_2.length co28) x8_2 x8_2 _ _ _ (fun k_ => some k_ ≠ (v150 : Value).ownBlock) (fun _ => False) rfl rfl ?aO ?aR (fun _ _ h => h) (fun _ h => h.elim) ?aF ?aB ?aS ?aL ?_; (case aR => repeat (first | exact (Kd.R_reads' HO_8.out).2.2 | (with_reducible refine Kd.C_alloc ?_ _) | (with_reducible refine Kd.C_drewN ?_ _) | (with_reducible refine Kd.C_drew ?_))); (case aB => exact (by repeat (first | (with_reducible first | exact HB.out | apply below_alloc | apply pw_below_drewN | apply below_drew1) | exact HB.out))); (case aF => exact (fun k_ hk => Kd.fresh' (Kd.R_lt (by (with_reducible repeat (first | apply Kd.R_alloc | apply Kd.R_drewN | apply Kd.R_drew)); exact HO_6.out)) k_ hk)); (case aO => exact (by (with_reducible repeat (first | apply Kd.R_alloc | apply Kd.R_drewN | apply Kd.R_drew)); exact HO_8.out)); (case aS => exact (below_size (by repeat (first | (with_reducible first | exact HB.out | apply below_alloc | apply pw_below_drewN | apply below_drew1) | exact HB.out)))); (case aL => have := LMc26.out; omega); intro v165 w27 ho hb hg hat; rw [← Ny164.out] at ho; have n0_ := Aside0.mk (Kd.R_after (ok := (fun _ => True)) (by (with_reducible repeat (first | apply Kd.R_alloc | apply Kd.R_drewN | apply Kd.R_drew)); exact Kd.R_mono HO_6.out (fun _ hk => ⟨trivial, hk⟩)) hg hat); have n1_ := Aside0.mk (hb); have n2_ := Aside0.mk (ho); clear HO_6; clear HB; clear HO_8; have HO_6 := n0_; have HB := n1_; have HO166 := n2_; clear n0_ n1_ n2_; clear ho hb hg hat))
            go_ret
            exact ⟨_, by first | rfl | (simp [errW_none, errW_some] <;> rfl) | (simp [*, errW_none, errW_some] <;> rfl), by (with_reducible repeat (first | apply Kd.R_alloc | apply Kd.R_drewN | apply Kd.R_drew)); exact Kd.R_mono HO166.out (fun _ hk => trivial), by repeat (first | (with_reducible first | exact HB.out | apply below_alloc | apply pw_below_drewN | apply below_drew1) | exact HB.out)⟩
          · rw [if_neg c26] at H
            exact absurd H (by simp)
        · rw [if_neg c25] at H
          have c25b0 : (t158 == 19) = false := beq_eq_false_iff_ne.mpr c25
          have c25b1 : (t158 != 19) = true := bne_iff_ne.mpr c25
          obtain rfl := Option.some.inj H
          go_wp2_with (first | ((with_reducible refine gate_calleeV (t := 63) rfl ?_); refine goesV_ (f := 12) (some 66) rfl rfl Tryd.func12 (by kernel_rfl) rfl #[.int .i64 (wrap64 (Int.tdiv a0 9)), .int .i64 20] rfl (by rfl) (by (try simp only [List.map_toArray, List.map_cons, List.map_nil]); first | done | rfl | (simp only [List.length_drop, List.length_take]; rfl)) ?_; (with_reducible refine (postilionkeep_Within.calls (wrap64 (Int.tdiv a0 9)) 20 t158 _ A17.out).mono ?_); rintro e w' ⟨rfl, ⟨nd, rfl⟩⟩; refine ⟨_, rfl, ?_⟩))
          go_ret
          exact ⟨_, by first | rfl | (simp [errW_none, errW_some] <;> rfl) | (simp [*, errW_none, errW_some] <;> rfl), by (with_reducible repeat (first | apply Kd.R_alloc | apply Kd.R_drewN | apply Kd.R_drew)); exact Kd.R_mono HO_8.out (fun _ hk => trivial), by repeat (first | (with_reducible first | exact HB.out | apply below_alloc | apply pw_below_drewN | apply below_drew1) | exact HB.out)⟩

end Go.Proofs.YtllblgjhoeopjaaDoor.GCorsTells
