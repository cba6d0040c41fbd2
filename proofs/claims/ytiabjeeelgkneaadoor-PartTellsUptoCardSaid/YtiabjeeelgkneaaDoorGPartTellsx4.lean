-- Made by this session's changed copy of the kit's printer (wip/myprint). Not trusted: Lean checks it.
import Derived.Test.YtiabjeeelgkneaaDoorGPartTellsx0
import Derived.Test.YtiabjeeelgkneaaDoorGPartTellsx2
import Derived.Test.YtiabjeeelgkneaaDoorGPartTellsx3
import Derived.Test.YtiabjeeelgkneaaDoorGivP
namespace Go.Proofs.YtiabjeeelgkneaaDoor.GPartTells
open Go.RowKit Go.Proofs.YtiabjeeelgkneaaDoor.GivP Go.Proofs.YtiabjeeelgkneaaDoor.Mw Go.Proofs.YtiabjeeelgkneaaDoorW.PrintWords Go.Proofs.YtiabjeeelgkneaaDoorW.PrintLast Go.Proofs.YtiabjeeelgkneaaDoorW.PrintMore
attribute [local go_sem] max2_int min2_int max_two min_two max_three min_three max_four min_four   -- for this text's walks alone
set_option linter.unusedVariables false
set_option linter.unusedSimpArgs false
set_option hygiene false in
local macro "hb1_" : tactic => `(tactic| (repeat (first | (with_reducible first | exact HB.out | apply below_alloc | apply pw_below_drewN | apply below_drew1 | refine below_set ?_ GE151.out | refine below_set ?_ GE157.out) | exact HB.out)))
set_option hygiene false in
local macro "hb2_" : tactic => `(tactic| (repeat (first | (with_reducible first | exact HB.out | apply below_alloc | apply pw_below_drewN | apply below_drew1 | refine below_set ?_ GE151.out) | exact HB.out)))
set_option hygiene false in
local macro "hb3_" : tactic => `(tactic| (repeat (first | (with_reducible first | exact HB.out | apply below_alloc | apply pw_below_drewN | apply below_drew1) | exact HB.out)))

/-! ### postilionplay_Reply: function 16 -/
mutual
def postilionplay_Reply.j1 : Nat → Int → ByteArray → Int → List (S26) → ByteArray → Bool → Option (Int × (List (S26)) × ByteArray × Bool)
  | 0, _, _, _, _, _, _ => none
  | k + 1, x0, x2, x158000, x158001, x158002, x158003 => (postilionkeep_Within.f (wrap64 (Int.tdiv x0 7)) 3).bind fun t165 => (if t165 > 0 then (if x158001.length < 4398046511104 then (postilionplay_Reply.j2 k x0 x2 x158000 (x158001 ++ [(⟨(⟨#[97, 108, 108, 111, 119, 45, 111, 114, 105, 103, 105, 110]⟩ : ByteArray), (⟨#[42]⟩ : ByteArray)⟩ : S26)]) x158002 x158003) else (none)) else (postilionplay_Reply.j2 k x0 x2 x158000 x158001 x158002 x158003))
def postilionplay_Reply.j2 : Nat → Int → ByteArray → Int → List (S26) → ByteArray → Bool → Option (Int × (List (S26)) × ByteArray × Bool)
  | 0, _, _, _, _, _, _ => none
  | k + 1, x0, x2, x158000, x158001, x158002, x158003 => (some (([0, 5, 8, 3, 30, 49, 60] : List Int) : List Int)).bind fun y169 => ((postilionkeep_Within.f (wrap64 (Int.tdiv x0 5)) 7).bind fun t172 => (if 0 ≤ t172 then (if t172 < (y169.length : Int) then ((postilionplay_Bytes.f k 99 (rd y169 t172)).bind fun t174 => ((postilionkeep_Within.f x0 50).bind fun t177 => (if t177 = 49 then (some (x158000, x158001, x2, x158003)) else (some (x158000, x158001, strOfNums t174, x158003))))) else (none)) else (none)))
def postilionplay_Reply.l0 : Nat → Int → List Int → ByteArray → Int → Int → List (S26) → ByteArray → Bool → Option (Int × (List (S26)) × ByteArray × Bool)
  | 0, _, _, _, _, _, _, _, _ => none
  | k + 1, x0, x1, x2, x9, x158000, x158001, x158002, x158003 => if x9 < (x1.length : Int) then ((postilionkeep_Within.f (wrap64 (Int.tdiv x0 21)) 6).bind fun t158 => (if x9 < t158 then (if 0 ≤ x9 then ((postilionplay_head.f (rd x1 x9) (⟨#[]⟩ : ByteArray)).bind fun bt160 => (if x158001.length < 4398046511104 then (postilionplay_Reply.l0 k x0 x1 x2 (wrap64 (x9 + 1)) x158000 (x158001 ++ [(⟨bt160.1, bt160.2⟩ : S26)]) x158002 x158003) else (none))) else (none)) else (postilionplay_Reply.j1 k x0 x2 x158000 x158001 x158002 x158003))) else (postilionplay_Reply.j1 k x0 x2 x158000 x158001 x158002 x158003)
end
def postilionplay_Reply.f (k : Nat) (a0 : Int) (l1 : List Int) (a2 : ByteArray) : Option (Int × (List (S26)) × ByteArray × Bool) := (some (([200, 200, 200, 206, 301, 302, 303, 307, 308, 404, 416, 429, 500, 503, 204, 100, 599, 400, 201, 416, 206] : List Int) : List Int)).bind fun y152 => ((postilionkeep_Within.f a0 21).bind fun t155 => (if 0 ≤ t155 then (if t155 < (y152.length : Int) then (postilionplay_Reply.l0 k a0 l1 a2 0 (rd y152 t155) ([] : List (S26)) (⟨#[]⟩ : ByteArray) false) else (none)) else (none)))
theorem postilionplay_Reply.mono_l : ∀ k, (∀ y0 y1 y2 y3 y4 y5, LeO (postilionplay_Reply.j1 k y0 y1 y2 y3 y4 y5) (postilionplay_Reply.j1 (k + 1) y0 y1 y2 y3 y4 y5)) ∧ (∀ y0 y1 y2 y3 y4 y5, LeO (postilionplay_Reply.j2 k y0 y1 y2 y3 y4 y5) (postilionplay_Reply.j2 (k + 1) y0 y1 y2 y3 y4 y5)) ∧ (∀ y0 y1 y2 y3 y4 y5 y6 y7, LeO (postilionplay_Reply.l0 k y0 y1 y2 y3 y4 y5 y6 y7) (postilionplay_Reply.l0 (k + 1) y0 y1 y2 y3 y4 y5 y6 y7))
  | 0 => ⟨fun _ _ _ _ _ _ r h => by simp [postilionplay_Reply.j1] at h, fun _ _ _ _ _ _ r h => by simp [postilionplay_Reply.j2] at h, fun _ _ _ _ _ _ _ _ r h => by simp [postilionplay_Reply.l0] at h⟩
  | k + 1 => by
    obtain ⟨ih0, ih1, ih2⟩ := postilionplay_Reply.mono_l k
    refine ⟨?_, ?_, ?_⟩
    · intro y0 y1 y2 y3 y4 y5
      unfold postilionplay_Reply.j1
      repeat' first
      | (with_reducible exact ih0 _ _ _ _ _ _)
      | (with_reducible exact ih1 _ _ _ _ _ _)
      | (with_reducible exact ih2 _ _ _ _ _ _ _ _)
      | (with_reducible exact postilionplay_Bytes.mono _ _ _)
      | (with_reducible exact LeO.refl _)
      | (with_reducible exact LeO.none _)
      | (with_reducible refine LeO.ite ?_ ?_)
      | (with_reducible refine LeO.bind ?_ (fun _ => ?_))
      | exact ih0 _ _ _ _ _ _
      | exact ih1 _ _ _ _ _ _
      | exact ih2 _ _ _ _ _ _ _ _
      | exact postilionplay_Bytes.mono _ _ _
      | exact LeO.none _
      | refine LeO.ite ?_ ?_
      | refine LeO.bind ?_ (fun _ => ?_)
    · intro y0 y1 y2 y3 y4 y5
      unfold postilionplay_Reply.j2
      repeat' first
      | (with_reducible exact ih0 _ _ _ _ _ _)
      | (with_reducible exact ih1 _ _ _ _ _ _)
      | (with_reducible exact ih2 _ _ _ _ _ _ _ _)
      | (with_reducible exact postilionplay_Bytes.mono _ _ _)
      | (with_reducible exact LeO.refl _)
      | (with_reducible exact LeO.none _)
      | (with_reducible refine LeO.ite ?_ ?_)
      | (with_reducible refine LeO.bind ?_ (fun _ => ?_))
      | exact ih0 _ _ _ _ _ _
      | exact ih1 _ _ _ _ _ _
      | exact ih2 _ _ _ _ _ _ _ _
      | exact postilionplay_Bytes.mono _ _ _
      | exact LeO.none _
      | refine LeO.ite ?_ ?_
      | refine LeO.bind ?_ (fun _ => ?_)
    · intro y0 y1 y2 y3 y4 y5 y6 y7
      unfold postilionplay_Reply.l0
      repeat' first
      | (with_reducible exact ih0 _ _ _ _ _ _)
      | (with_reducible exact ih1 _ _ _ _ _ _)
      | (with_reducible exact ih2 _ _ _ _ _ _ _ _)
      | (with_reducible exact postilionplay_Bytes.mono _ _ _)
      | (with_reducible exact LeO.refl _)
      | (with_reducible exact LeO.none _)
      | (with_reducible refine LeO.ite ?_ ?_)
      | (with_reducible refine LeO.bind ?_ (fun _ => ?_))
      | exact ih0 _ _ _ _ _ _
      | exact ih1 _ _ _ _ _ _
      | exact ih2 _ _ _ _ _ _ _ _
      | exact postilionplay_Bytes.mono _ _ _
      | exact LeO.none _
      | refine LeO.ite ?_ ?_
      | refine LeO.bind ?_ (fun _ => ?_)
theorem postilionplay_Reply.mono : ∀ a0 a1 a2 k, LeO (postilionplay_Reply.f k a0 a1 a2) (postilionplay_Reply.f (k + 1) a0 a1 a2) := by
  intro a0 a1 a2 k
  obtain ⟨ih0, ih1, ih2⟩ := postilionplay_Reply.mono_l k
  unfold postilionplay_Reply.f
  repeat' first
      | (with_reducible exact ih0 _ _ _ _ _ _)
      | (with_reducible exact ih1 _ _ _ _ _ _)
      | (with_reducible exact ih2 _ _ _ _ _ _ _ _)
      | (with_reducible exact postilionplay_Bytes.mono _ _ _)
      | (with_reducible exact LeO.refl _)
      | (with_reducible exact LeO.none _)
      | (with_reducible refine LeO.ite ?_ ?_)
      | (with_reducible refine LeO.bind ?_ (fun _ => ?_))
      | exact ih0 _ _ _ _ _ _
      | exact ih1 _ _ _ _ _ _
      | exact ih2 _ _ _ _ _ _ _ _
      | exact postilionplay_Bytes.mono _ _ _
      | exact LeO.none _
      | refine LeO.ite ?_ ?_
      | refine LeO.bind ?_ (fun _ => ?_)
def postilionplay_Reply.T6 : Bool × List (List Nat × List Nat) := (true, [([], []), ([0], [0]), ([], []), ([], []), ([2, 3], [2, 3]), ([4], [4]), ([5], [5]), ([6], [6]), ([1, 7, 6], [1, 7]), ([0, 1, 2, 3, 4, 5, 6, 7, 8], []), ([9, 8, 8, 0, 1, 2, 3, 4, 5, 6, 7, 8], [8, 9])])
def postilionplay_Reply.B6 : List Nat := [0, 1, 0, 0, 12, 28, 60, 124, 255, 511, 1023]
theorem postilionplay_Reply.tab6 : rtab .any (opsOf Tryd.f16 6) = postilionplay_Reply.T6 := by kernel_rfl
theorem postilionplay_Reply.bits6 : waitsOk postilionplay_Reply.T6.2 postilionplay_Reply.B6 = true := by kernel_rfl
set_option maxHeartbeats 8000000 in
set_option maxRecDepth 100000 in
theorem postilionplay_Reply.calls (k : Nat) (a0 : Int) (A1 : Option Addr) (c1 : Nat) (l1 : List Int) (a2 : ByteArray) (r1 : Int) (r2 : List (S26)) (r3 : ByteArray) (r4 : Bool) (w : World) (hr1 : Kd.C (Kd.int .i64) w A1 l1.length l1) (hc1 : l1.length ≤ c1) (h : postilionplay_Reply.f k a0 l1 a2 = some (r1, r2, r3, r4)) :
    Calls Tryd.prog 16 #[.int .i64 a0, .slice A1 l1.length c1, .string a2] w fun e w' => ∃ v1_ : Value, e = .returned (.agg #[.int .i64 r1, v1_, .string r3, .bool r4]) ∧ Kd.R k26 26 w' w.heap.size (fun _ => True) v1_ r2 ∧ Below w.heap.size w w' := by
  have hu40 := Tryd.underlying40
  have hu26 := Tryd.underlying26
  have HR1 := Aside0.mk hr1
  have HC1 := Aside0.mk hc1
  clear hr1 hc1
  have HB := Aside0.mk (Below.refl w.heap.size w)
  have H : ((some (([200, 200, 200, 206, 301, 302, 303, 307, 308, 404, 416, 429, 500, 503, 204, 100, 599, 400, 201, 416, 206] : List Int) : List Int)).bind fun y152 => ((postilionkeep_Within.f a0 21).bind fun t155 => (if 0 ≤ t155 then (if t155 < (y152.length : Int) then (postilionplay_Reply.l0 k a0 l1 a2 0 (rd y152 t155) ([] : List (S26)) (⟨#[]⟩ : ByteArray) false) else (none)) else (none)))) = some (r1, r2, r3, r4) := h
  clear h
  obtain ⟨y152, hy152⟩ : ∃ y_ : List Int, y_ = (([200, 200, 200, 206, 301, 302, 303, 307, 308, 404, 416, 429, 500, 503, 204, 100, 599, 400, 201, 416, 206] : List Int)) := ⟨_, rfl⟩
  replace H : ((postilionkeep_Within.f a0 21).bind fun t155 => (if 0 ≤ t155 then (if t155 < (y152.length : Int) then (postilionplay_Reply.l0 k a0 l1 a2 0 (rd y152 t155) ([] : List (S26)) (⟨#[]⟩ : ByteArray) false) else (none)) else (none))) = some (r1, r2, r3, r4) := by first | (rw [hy152]; with_reducible exact H) | (have H2_ := (Option.bind_some _ _).symm.trans H; rw [hy152]; with_reducible exact H2_) | (have H2_ := (Option.bind_some _ _).symm.trans H; with_reducible exact H2_) | with_reducible exact H | (rw [hy152]; exact H) | exact H
  have Ny152 := Aside0.mk hy152
  clear hy152
  replace H := Option.bind_eq_some_iff.mp H
  obtain ⟨t155, A40, H⟩ := H
  replace H : (if 0 ≤ t155 then (if t155 < (y152.length : Int) then (postilionplay_Reply.l0 k a0 l1 a2 0 (rd y152 t155) ([] : List (S26)) (⟨#[]⟩ : ByteArray) false) else (none)) else (none)) = some (r1, r2, r3, r4) := H
  have A4 := Aside0.mk A40
  clear A40
  by_cases c5 : 0 ≤ t155
  · rw [if_pos c5] at H
    have c5b0 : decide (0 ≤ t155) = true := decide_eq_true c5
    clear c5
    by_cases c6 : t155 < (y152.length : Int)
    · rw [if_pos c6] at H
      have c6b0 : decide (t155 < (y152.length : Int)) = true := decide_eq_true c6
      clear c6
      have HC7 := Aside0.mk H
      clear H
      go_enter Tryd.func16, Tryd.ntmps16
      go_upto_block 0 with (first | ((with_reducible refine gate_dst (N := 6) rfl ?_); refine box_event ?hg (N := 6) ?hd (cs := #[.int .i64 0, .slice none 0 0, .string (⟨#[]⟩ : ByteArray), .bool false]) (t := 40) ?hr ?_; (case hd => rfl); (case hg => rfl); (case hr => first | (go_simp; done) | (go_simp; rfl)); intro gb151 hg w8 hbox hb; have n0_ := Aside0.mk (below_step (by hb3_) hb); have n1_ := Aside0.mk (hbox); have n2_ := Aside0.mk ((by rw [hg]; exact (below_size (by hb3_)) : w.heap.size ≤ gb151)); have n3_ := Aside0.mk ((by rw [hg]; exact (below_size (by hb3_)) : w.heap.size ≤ gb151)); clear HB; have HB := n0_; have BK151 := n1_; have GW151 := n2_; have GE151 := n3_; clear n0_ n1_ n2_ n3_; clear hb hbox hg) | ((with_reducible refine gate_dst (N := 10) rfl ?_); refine Kd.R_lit (Kd.int .i64) _ 3 ?hg (N := 10) ?hd (xs := ([200, 200, 200, 206, 301, 302, 303, 307, 308, 404, 416, 429, 500, 503, 204, 100, 599, 400, 201, 416, 206] : List Int)) (inner := [.int .i64 200, .int .i64 200, .int .i64 200, .int .i64 206, .int .i64 301, .int .i64 302, .int .i64 303, .int .i64 307, .int .i64 308, .int .i64 404, .int .i64 416, .int .i64 429, .int .i64 500, .int .i64 503, .int .i64 204, .int .i64 100, .int .i64 599, .int .i64 400, .int .i64 201, .int .i64 416, .int .i64 206]) (ok := fun _ => True) (okp := fun _ => True) ?hr ?hp (fun _ hk => hk) trivial (Below.refl _ _) (Nat.le_refl _) (by simp) ?_; (case hd => rfl); (case hg => rfl); (case hr => first | (go_simp; done) | (go_simp; rfl)); (case hp => exact (Reps.one (show Kd.M (Kd.int .i64) _ _ _ 200 [.int .i64 200] from rfl) (Reps.one (show Kd.M (Kd.int .i64) _ _ _ 200 [.int .i64 200] from rfl) (Reps.one (show Kd.M (Kd.int .i64) _ _ _ 200 [.int .i64 200] from rfl) (Reps.one (show Kd.M (Kd.int .i64) _ _ _ 206 [.int .i64 206] from rfl) (Reps.one (show Kd.M (Kd.int .i64) _ _ _ 301 [.int .i64 301] from rfl) (Reps.one (show Kd.M (Kd.int .i64) _ _ _ 302 [.int .i64 302] from rfl) (Reps.one (show Kd.M (Kd.int .i64) _ _ _ 303 [.int .i64 303] from rfl) (Reps.one (show Kd.M (Kd.int .i64) _ _ _ 307 [.int .i64 307] from rfl) (Reps.one (show Kd.M (Kd.int .i64) _ _ _ 308 [.int .i64 308] from rfl) (Reps.one (show Kd.M (Kd.int .i64) _ _ _ 404 [.int .i64 404] from rfl) (Reps.one (show Kd.M (Kd.int .i64) _ _ _ 416 [.int .i64 416] from rfl) (Reps.one (show Kd.M (Kd.int .i64) _ _ _ 429 [.int .i64 429] from rfl) (Reps.one (show Kd.M (Kd.int .i64) _ _ _ 500 [.int .i64 500] from rfl) (Reps.one (show Kd.M (Kd.int .i64) _ _ _ 503 [.int .i64 503] from rfl) (Reps.one (show Kd.M (Kd.int .i64) _ _ _ 204 [.int .i64 204] from rfl) (Reps.one (show Kd.M (Kd.int .i64) _ _ _ 100 [.int .i64 100] from rfl) (Reps.one (show Kd.M (Kd.int .i64) _ _ _ 599 [.int .i64 599] from rfl) (Reps.one (show Kd.M (Kd.int .i64) _ _ _ 400 [.int .i64 400] from rfl) (Reps.one (show Kd.M (Kd.int .i64) _ _ _ 201 [.int .i64 201] from rfl) (Reps.one (show Kd.M (Kd.int .i64) _ _ _ 416 [.int .i64 416] from rfl) (Reps.one (show Kd.M (Kd.int .i64) _ _ _ 206 [.int .i64 206] from rfl) (Reps.none _ _))))))))))))))))))))))); intro v153 w9 ho10 hb hg_ hnew_; clear hg_ hnew_; (first | rw [← Ny152.out] at ho10 | (simp only [Int.reduceToNat] at ho10; rw [← Ny152.out] at ho10)); have n0_ := Aside0.mk (Kd.R_lower ho10 (below_size (by hb2_))); have n1_ := Aside0.mk (blk_below (g := gb151) (o := .cells #[.int .i64 0, .slice none 0 0, .string (⟨#[]⟩ : ByteArray), .bool false] 40 (0, 0)) (by (pw_b); exact BK151.out) hb); have n2_ := Aside0.mk (below_step (by hb2_) hb); clear BK151; clear HB; have HO154 := n0_; have BK151 := n1_; have HB := n2_; clear n0_ n1_ n2_; clear hb ho10) | ((with_reducible refine gate_calleeV (t := 11) rfl ?_); refine goesV_ (f := 11) (some 13) rfl rfl Tryd.func11 (by kernel_rfl) rfl #[.int .i64 a0, .int .i64 21] rfl (by rfl) (by (pw_m); first | done | rfl | (simp only [List.length_drop, List.length_take]; rfl)) ?_; (with_reducible refine (postilionkeep_Within.calls a0 21 t155 _ A4.out).mono ?_); rintro e w' ⟨rfl, ⟨nd, rfl⟩⟩; refine ⟨_, rfl, ?_⟩; (try (rw [drewN_self w9]; generalize hq_ : World.drewN w9 _ = w9; have n0_ : Aside0 (Kd.R (Kd.int .i64) 3 w9 w.heap.size (fun _ => True) v153 y152) := ⟨by rw [← hq_]; exact (by (pw_r); exact HO154.out)⟩; have n1_ : Aside0 (w9.heap[gb151]? = some (.cells #[.int .i64 0, .slice none 0 0, .string (⟨#[]⟩ : ByteArray), .bool false] 40 (0, 0))) := ⟨by rw [← hq_]; exact (by (pw_b); exact BK151.out)⟩; have n2_ : Aside0 (Below w.heap.size w w9) := ⟨by rw [← hq_]; exact (by hb2_)⟩; clear HO154 BK151 HB hq_; have HO154 := n0_; have BK151 := n1_; have HB := n2_; clear n0_ n1_ n2_)); obtain ⟨Ao11, co11, eo11⟩ := Kd.R_slice HO154.out; subst eo11; have p156 : 0 ≤ (t155 : Int) := of_decide_eq_true (by pw_d); have q156 : t155 < (y152.length : Int) := of_decide_eq_true (by pw_d); obtain ⟨ad156, e156, hx156_0⟩ := Kd.at_int (Kd.R_reads' HO154.out).2.2 t155 p156 q156; cases e156; replace p156 := eq_true p156; replace q156 := eq_true q156) | ((with_reducible refine gate_dst (N := 8) rfl ?_); refine box_event ?hg (N := 8) ?hd (cs := #[.int .i64 0, .slice none 0 0, .string (⟨#[]⟩ : ByteArray), .bool false]) (t := 40) ?hr ?_; (case hd => rfl); (case hg => rfl); (case hr => first | (go_simp; done) | (go_simp; rfl)); intro gb157 hg w12 hbox hb; have n0_ := Aside0.mk (Kd.R_below (by (pw_r); exact HO154.out) hb); have n1_ := Aside0.mk (blk_below (g := gb151) (o := .cells #[.int .i64 0, .slice none 0 0, .string (⟨#[]⟩ : ByteArray), .bool false] 40 (0, 0)) (by (pw_b); exact BK151.out) hb); have n2_ := Aside0.mk (below_step (by hb2_) hb); have n3_ := Aside0.mk (hbox); have n4_ := Aside0.mk ((by rw [hg]; exact (below_size (by hb2_)) : w.heap.size ≤ gb157)); have n5_ := Aside0.mk ((by rw [hg]; exact (below_size (by hb2_)) : w.heap.size ≤ gb157)); have n6_ := Aside0.mk ((by rw [hg]; exact Nat.ne_of_lt (blk_lt (g := gb151) (o := .cells #[.int .i64 0, .slice none 0 0, .string (⟨#[]⟩ : ByteArray), .bool false] 40 (0, 0)) (by (pw_b); exact BK151.out)) : gb151 ≠ gb157)); have n7_ := Aside0.mk ((by rw [hg]; exact Nat.ne_of_gt (blk_lt (g := gb151) (o := .cells #[.int .i64 0, .slice none 0 0, .string (⟨#[]⟩ : ByteArray), .bool false] 40 (0, 0)) (by (pw_b); exact BK151.out)) : gb157 ≠ gb151)); clear HO154; clear BK151; clear HB; have HO154 := n0_; have BK151 := n1_; have HB := n2_; have BK157 := n3_; have GW157 := n4_; have GE157 := n5_; have NB151_157 := n6_; have NB157_151 := n7_; clear n0_ n1_ n2_ n3_ n4_ n5_ n6_ n7_; clear hb hbox hg; have hnb13 := NB157_151.out; have hnc13 := NB151_157.out; have hcz14_0 : w12.cell? ⟨gb157, 0, none⟩ = some (.int .i64 0) := (blk_cell BK157.out 0).trans rfl; have hcz14_1 : w12.cell? ⟨gb157, 1, none⟩ = some (.slice none 0 0) := (blk_cell BK157.out 1).trans rfl; have hcz14_2 : w12.cell? ⟨gb157, 2, none⟩ = some (.string (⟨#[]⟩ : ByteArray)) := (blk_cell BK157.out 2).trans rfl; have hcz14_3 : w12.cell? ⟨gb157, 3, none⟩ = some (.bool false) := (blk_cell BK157.out 3).trans rfl; have hfz14_0 := blk_frozen BK157.out 0; have hfz14_1 := blk_frozen BK157.out 1; have hfz14_2 := blk_frozen BK157.out 2; have hfz14_3 := blk_frozen BK157.out 3))
      (try simp only [Act.put, List.setIfInBounds_toArray, List.set_cons_zero, List.set_cons_succ])
      go_cut [] (fun wc => ∃ (kq : Nat) (x158001_6 : List (S26)) (u158001 : Value), Aside0 (postilionplay_Reply.j1 kq a0 a2 (rd y152 t155) x158001_6 (⟨#[]⟩ : ByteArray) false = some (r1, r2, r3, r4)) ∧ Aside0 (kq ≤ k) ∧ Aside0 (Kd.R k26 26 wc w.heap.size (fun _ => True) u158001 x158001_6) ∧ Aside0 (wc.heap[gb151]? = some (.cells #[.int .i64 0, (.slice none 0 0), .string (⟨#[]⟩ : ByteArray), .bool false] 40 (0, 0))) ∧ Aside0 (wc.heap[gb157]? = some (.cells #[.int .i64 (rd y152 t155), u158001, .string (⟨#[]⟩ : ByteArray), .bool false] 40 (0, 0))) ∧ Aside0 (Below w.heap.size w wc))
      case first =>
        have H := HC7.out
        clear HC7
        have H' := Aside0.mk H
        clear H
        go_wp2
        go_loopg [9] k (fun kq v9 w' => ∃ (x9_1 : Int) (x158001_1 : List (S26)) (u158001 : Value), v9 = .int .i64 x9_1 ∧ Aside0 (postilionplay_Reply.l0 kq a0 l1 a2 x9_1 (rd y152 t155) x158001_1 (⟨#[]⟩ : ByteArray) false = some (r1, r2, r3, r4)) ∧ Aside0 (kq ≤ k) ∧ Aside0 (Kd.R k26 26 w' w.heap.size (fun _ => True) u158001 x158001_1) ∧ Aside0 (w'.heap[gb151]? = some (.cells #[.int .i64 0, (.slice none 0 0), .string (⟨#[]⟩ : ByteArray), .bool false] 40 (0, 0))) ∧ Aside0 (w'.heap[gb157]? = some (.cells #[.int .i64 (rd y152 t155), u158001, .string (⟨#[]⟩ : ByteArray), .bool false] 40 (0, 0))) ∧ Aside0 (Below w.heap.size w w'))
        case atStart => exact ⟨(0), (([] : List (S26))), (.slice none 0 0), (by first | rfl | (simp; done) | (simp [*]; done)), H', ⟨Nat.le_refl _⟩, ⟨by first | exact Kd.R_nil _ _ _ _ _ | exact Kd.N_nil _ _ _ _ _ | exact Kd.V_nil _ _ _ _ _ | exact Kd.Q_nil _ _ _ _ _ | exact Kd.S_nil _ _ _ _ _⟩, ⟨by (pw_b); refine blk_far ?_ NB151_157.out _; (pw_b); refine blk_far ?_ NB151_157.out _; (pw_b); refine blk_far ?_ NB151_157.out _; (pw_b); refine blk_far ?_ NB151_157.out _; (pw_b); exact BK151.out⟩, ⟨by (pw_b); refine blk_put (cs := #[.int .i64 (rd y152 t155), .slice none 0 0, .string (⟨#[]⟩ : ByteArray), .bool false]) ?_ 3 _ rfl; (pw_b); refine blk_put (cs := #[.int .i64 (rd y152 t155), .slice none 0 0, .string (⟨#[]⟩ : ByteArray), .bool false]) ?_ 2 _ rfl; (pw_b); refine blk_put (cs := #[.int .i64 (rd y152 t155), .slice none 0 0, .string (⟨#[]⟩ : ByteArray), .bool false]) ?_ 1 _ rfl; (pw_b); refine blk_put (cs := #[.int .i64 0, .slice none 0 0, .string (⟨#[]⟩ : ByteArray), .bool false]) ?_ 0 _ rfl; (pw_b); exact BK157.out⟩, ⟨by hb1_⟩⟩
        case round =>
          clear H'
          try clear c1
          try clear p1
          try clear q1
          try clear hx1
          try clear p2
          try clear c5
          try clear c5b0
          try clear c6
          try clear c6b0
          try clear c11
          try clear c13
          try clear hcz14_0
          try clear hcz14_1
          try clear hcz14_2
          try clear hcz14_3
          try clear hfz14_0
          try clear hfz14_1
          try clear hfz14_2
          try clear hfz14_3
          try clear hx156_0
          try clear p156
          try clear q156
          obtain ⟨x9_1, x158001_1, u158001, rfl, HA, HK1, HO_158001, BK151, BK157, HB⟩ := hrel
          cases gk with
          | zero => exact absurd HA.out (by simp [postilionplay_Reply.l0])
          | succ k1 =>
            have H := HA.out
            clear HA
            simp only [postilionplay_Reply.l0] at H
            by_cases c15 : x9_1 < (l1.length : Int)
            · rw [if_pos c15] at H
              have c15b0 : decide (x9_1 < (l1.length : Int)) = true := decide_eq_true c15
              clear c15
              (first | rw [c15b0] | (simp only [i64_w, i32_w]; rw [c15b0]) | skip)
              replace H := Option.bind_eq_some_iff.mp H
              obtain ⟨t158, A160, H⟩ := H
              replace H : (if x9_1 < t158 then (if 0 ≤ x9_1 then ((postilionplay_head.f (rd l1 x9_1) (⟨#[]⟩ : ByteArray)).bind fun bt160 => (if x158001_1.length < 4398046511104 then (postilionplay_Reply.l0 k1 a0 l1 a2 (wrap64 (x9_1 + 1)) (rd y152 t155) (x158001_1 ++ [(⟨bt160.1, bt160.2⟩ : S26)]) (⟨#[]⟩ : ByteArray) false) else (none))) else (none)) else (postilionplay_Reply.j1 k1 a0 a2 (rd y152 t155) x158001_1 (⟨#[]⟩ : ByteArray) false)) = some (r1, r2, r3, r4) := H
              have A16 := Aside0.mk A160
              clear A160
              by_cases c17 : x9_1 < t158
              · rw [if_pos c17] at H
                have c17b0 : decide (x9_1 < t158) = true := decide_eq_true c17
                clear c17
                by_cases c18 : 0 ≤ x9_1
                · rw [if_pos c18] at H
                  have c18b0 : decide (0 ≤ x9_1) = true := decide_eq_true c18
                  clear c18
                  replace H := Option.bind_eq_some_iff.mp H
                  obtain ⟨⟨t160, t161⟩, A190, H⟩ := H
                  replace H : (if x158001_1.length < 4398046511104 then (postilionplay_Reply.l0 k1 a0 l1 a2 (wrap64 (x9_1 + 1)) (rd y152 t155) (x158001_1 ++ [(⟨t160, t161⟩ : S26)]) (⟨#[]⟩ : ByteArray) false) else (none)) = some (r1, r2, r3, r4) := H
                  have A19 := Aside0.mk A190
                  clear A190
                  by_cases c20 : x158001_1.length < 4398046511104
                  · rw [if_pos c20] at H
                    have LMc20 := Aside0.mk c20
                    clear c20
                    obtain ⟨y162, hy162⟩ : ∃ y_ : List (S26), y_ = (x158001_1 ++ [(⟨t160, t161⟩ : S26)]) := ⟨_, rfl⟩
                    replace H : (postilionplay_Reply.l0 k1 a0 l1 a2 (wrap64 (x9_1 + 1)) (rd y152 t155) y162 (⟨#[]⟩ : ByteArray) false) = some (r1, r2, r3, r4) := by first | (rw [hy162]; with_reducible exact H) | (have H2_ := (Option.bind_some _ _).symm.trans H; rw [hy162]; with_reducible exact H2_) | (have H2_ := (Option.bind_some _ _).symm.trans H; with_reducible exact H2_) | with_reducible exact H | (rw [hy162]; exact H) | exact H
                    have Ny162 := Aside0.mk hy162
                    clear hy162
                    have H' := Aside0.mk H
                    clear H
                    try go_wp2_with (first | (go_at_call 11; (with_reducible refine (postilionkeep_Within.calls (wrap64 (Int.tdiv a0 21)) 6 t158 _ A16.out).mono ?_); rintro e w' ⟨rfl, ⟨nd, rfl⟩⟩; (try (rw [drewN_self wr]; generalize hq_ : World.drewN wr _ = wr; have n0_ : Aside0 (Kd.R k26 26 wr w.heap.size (fun _ => True) u158001 x158001_1) := ⟨by rw [← hq_]; exact (by (pw_r); exact HO_158001.out)⟩; have n1_ : Aside0 (wr.heap[gb151]? = some (.cells #[.int .i64 0, .slice none 0 0, .string (⟨#[]⟩ : ByteArray), .bool false] 40 (0, 0))) := ⟨by rw [← hq_]; exact (by (pw_b); exact BK151.out)⟩; have n2_ : Aside0 (wr.heap[gb157]? = some (.cells #[.int .i64 (rd y152 t155), u158001, .string (⟨#[]⟩ : ByteArray), .bool false] 40 (0, 0))) := ⟨by rw [← hq_]; exact (by (pw_b); exact BK157.out)⟩; have n3_ : Aside0 (Below w.heap.size w wr) := ⟨by rw [← hq_]; exact (by hb1_)⟩; clear HO_158001 BK151 BK157 HB hq_; have HO_158001 := n0_; have BK151 := n1_; have BK157 := n2_; have HB := n3_; clear n0_ n1_ n2_ n3_))))
                    have n0_ := Aside0.mk (Kd.R_drew HO_158001.out)
                    have n1_ := Aside0.mk (blk_drew BK151.out)
                    have n2_ := Aside0.mk (blk_drew BK157.out)
                    have n3_ := Aside0.mk (below_drew1 HB.out)
                    clear HO_158001
                    clear BK151
                    clear BK157
                    clear HB
                    have HO_158001 := n0_
                    have BK151 := n1_
                    have BK157 := n2_
                    have HB := n3_
                    clear n0_ n1_ n2_ n3_
                    have p159 : 0 ≤ (x9_1 : Int) := of_decide_eq_true (by pw_d)
                    have q159 : x9_1 < (l1.length : Int) := of_decide_eq_true (by pw_d)
                    obtain ⟨ad159, e159, hx159_0⟩ := Kd.at_int HR1.out x9_1 p159 q159
                    have hw159_0 := hx159_0
                    cases e159
                    replace hx159_0 := (HB.out.cell (World.block_lt_of_cell? w _ hx159_0)).trans hx159_0
                    replace p159 := eq_true p159
                    replace q159 := eq_true q159
                    refine start_ (n := 11) (S := fun w' => w'.cell? ⟨gb157, 0, none⟩ = some (.int .i64 (rd y152 t155)) ∧ w'.cell? ⟨gb157, 1, none⟩ = some (u158001) ∧ w'.cell? ⟨gb157, 2, none⟩ = some (.string (⟨#[]⟩ : ByteArray)) ∧ w'.cell? ⟨gb157, 3, none⟩ = some (.bool false) ∧ w'.cell? (ad159.add (x9_1).toNat) = some (.int .i64 (rd l1 x9_1))) (ds := [10]) #[false, false, false, false, false, false, false, false, false, false, false] (by kernel_rfl) rfl rfl ⟨(blk_cell BK157.out 0).trans rfl, (blk_cell BK157.out 1).trans rfl, (blk_cell BK157.out 2).trans rfl, (blk_cell BK157.out 3).trans rfl, ((HB.out.cell (World.block_lt_of_cell? w _ hw159_0)).trans hw159_0)⟩ (fun hHeld => ?_); refine with_tabW postilionplay_Reply.tab6 postilionplay_Reply.bits6 (fun HT_ HW_ => ?_)
                    generalize wr.drew = w21 at HO_158001 BK151 BK157 HB hx159_0 hHeld ⊢
                    refine pure_ (i := 0) (N := some 31) (v := ?_) (a' := ?_) #[true, false, false, false, false, false, false, false, false, false, false] rfl rfl (any_of HT_.out (by kernel_rfl)) (fun _ _ _ h => h) (Or.inl ⟨by rfl, ?_⟩) ?_ ?_
                    rotate_left
                    · intro w'
                      go_simp
                      with_reducible rfl
                    rotate_left
                    · pw_p
                      rfl
                    refine pure_ (i := 2) (N := some 33) (v := ?_) (a' := ?_) #[true, false, true, false, false, false, false, false, false, false, false] rfl rfl (any_of HT_.out (by kernel_rfl)) (fun _ _ _ h => h) (Or.inl ⟨by rfl, ?_⟩) ?_ ?_
                    rotate_left
                    · intro w'
                      go_simp
                      with_reducible rfl
                    rotate_left
                    · pw_p
                      rfl
                    refine pure_ (i := 3) (N := some 34) (v := ?_) (a' := ?_) #[true, false, true, true, false, false, false, false, false, false, false] rfl rfl (any_of HT_.out (by kernel_rfl)) (fun _ _ _ h => h) (Or.inl ⟨by rfl, ?_⟩) ?_ ?_
                    rotate_left
                    · intro w'
                      go_simp
                      with_reducible rfl
                    rotate_left
                    · pw_p
                      rfl
                    refine pure_ (i := 4) (N := some 35) (v := ?_) (a' := ?_) #[true, false, true, true, true, false, false, false, false, false, false] rfl rfl (any_of HT_.out (by kernel_rfl)) (fun _ _ _ h => h) (Or.inl ⟨by rfl, ?_⟩) ?_ ?_
                    rotate_left
                    · intro w'
                      go_simp
                      with_reducible rfl
                    rotate_left
                    · pw_p
                      rfl
                    refine take_ (i := 1) (N := some 32) (v := ?_) (a' := ?_) #[true, true, true, true, true, false, false, false, false, false, false] rfl rfl (take_ofW HT_.out HW_.out (by kernel_rfl)) (fun _ _ _ h => h) (Or.inl ⟨by rfl, ?_⟩) hHeld ?_ ?_
                    rotate_left
                    · rintro w' ⟨s0, s1, s2, s3, s4⟩
                      go_simp
                      with_reducible rfl
                    rotate_left
                    · pw_p
                      rfl
                    refine take_ (i := 5) (N := some 36) (v := ?_) (a' := ?_) #[true, true, true, true, true, true, false, false, false, false, false] rfl rfl (take_ofW HT_.out HW_.out (by kernel_rfl)) (fun _ _ _ h => h) (Or.inl ⟨by rfl, ?_⟩) hHeld ?_ ?_
                    rotate_left
                    · rintro w' ⟨s0, s1, s2, s3, s4⟩
                      go_simp
                      with_reducible rfl
                    rotate_left
                    · pw_p
                      rfl
                    refine one_ (i := 6) (N := some 37) #[true, true, true, true, true, true, true, false, false, false, false] rfl rfl (one_of HT_.out (by kernel_rfl)) (by decide) (fun K hK => ?_)
                    refine goes_ Tryd.func33 (by kernel_rfl) rfl #[.int .i64 (rd l1 x9_1), .string (⟨#[]⟩ : ByteArray)] (by rfl) rfl rfl (by (pw_m); first | done | rfl | (simp only [List.length_drop, List.length_take]; rfl)) ?_
                    with_reducible refine (postilionplay_head.calls (rd l1 x9_1) (⟨#[]⟩ : ByteArray) t160 t161 _ A19.out).mono ?_
                    rintro e w22 ⟨rfl, hb⟩
                    refine ⟨_, rfl, ?_⟩
                    have n0_ := Aside0.mk (Kd.R_below (by (pw_r); exact HO_158001.out) hb)
                    have n1_ := Aside0.mk (blk_below (g := gb151) (o := .cells #[.int .i64 0, .slice none 0 0, .string (⟨#[]⟩ : ByteArray), .bool false] 40 (0, 0)) (by (pw_b); exact BK151.out) hb)
                    have n2_ := Aside0.mk (blk_below (g := gb157) (o := .cells #[.int .i64 (rd y152 t155), u158001, .string (⟨#[]⟩ : ByteArray), .bool false] 40 (0, 0)) (by (pw_b); exact BK157.out) hb)
                    have n3_ := Aside0.mk (below_step (by hb1_) hb)
                    clear HO_158001
                    clear BK151
                    clear BK157
                    clear HB
                    have HO_158001 := n0_
                    have BK151 := n1_
                    have BK157 := n2_
                    have HB := n3_
                    clear n0_ n1_ n2_ n3_
                    (try clear hb)
                    (try clear hb2)
                    (try clear hk)
                    (try clear hi)
                    refine hK.out _ _ ⟨(blk_cell BK157.out 0).trans rfl, (blk_cell BK157.out 1).trans rfl, (blk_cell BK157.out 2).trans rfl, (blk_cell BK157.out 3).trans rfl, ((HB.out.cell (World.block_lt_of_cell? w _ hw159_0)).trans hw159_0)⟩ (fun hHeld => ?_)
                    clear hK K
                    refine norm_ (a' := ?_) ?_ ?_
                    rotate_left
                    · show Act.put _ (some 37) _ = _
                      pw_p
                      rfl
                    refine one_ (i := 7) (N := some 38) #[true, true, true, true, true, true, true, true, false, false, false] rfl rfl (one_of HT_.out (by kernel_rfl)) (by decide) (fun K hK => ?_)
                    refine value_ (w1 := ?_) (v := ?_) (by rfl) rfl ?_ ?_
                    rotate_left 2
                    · go_simp
                      constructor
                      · rfl
                      · rfl
                    refine hK.out _ _ ⟨(blk_cell (blk_alloc BK157.out _) 0).trans rfl, (blk_cell (blk_alloc BK157.out _) 1).trans rfl, (blk_cell (blk_alloc BK157.out _) 2).trans rfl, (blk_cell (blk_alloc BK157.out _) 3).trans rfl, (World.cell?_alloc_lt _ _ _ (World.block_lt_of_cell? _ _ (((HB.out.cell (World.block_lt_of_cell? w _ hw159_0)).trans hw159_0)))).trans (((HB.out.cell (World.block_lt_of_cell? w _ hw159_0)).trans hw159_0))⟩ (fun hHeld => ?_)
                    clear hK K
                    refine norm_ (a' := ?_) ?_ ?_
                    rotate_left
                    · show Act.put _ (some 38) _ = _
                      pw_p
                      rfl
                    refine one_ (i := 8) (N := some 39) #[true, true, true, true, true, true, true, true, true, false, false] rfl rfl (one_of HT_.out (by kernel_rfl)) (by decide) (fun K hK => ?_)
                    refine Kd.R_append_step k26 (w0 := w) w.heap.size (by rfl) (.tmp 32) (.tmp 38) 31 26 (.agg #[(.string ⟨#[]⟩), (.string ⟨#[]⟩)]) 32 rfl Tryd.underlying31 info26 rfl (by decide) (by omega) u158001 x158001_1 (⟨t160, t161⟩ : S26) [.string t160, .string t161] (fun _ => True) (fun _ => False) rfl rfl ?aP (fun _ hk => hk.elim) ?aF ?aO ?aB ?aS ?aL ?_
                    (case aP => exact k26_mkM _ _ _ (⟨t160, t161⟩ : S26))
                    (case aB => exact (by hb1_))
                    (case aF => exact (fun _ _ => trivial))
                    (case aO => exact (by (pw_r); exact HO_158001.out))
                    (case aS => exact (below_size (by hb1_)))
                    (case aL => have := LMc20.out; omega)
                    intro v163 w23 ho hb hg hat
                    rw [← Ny162.out] at ho
                    have n0_ := Aside0.mk (blk_grown (g := gb151) (o := .cells #[.int .i64 0, .slice none 0 0, .string (⟨#[]⟩ : ByteArray), .bool false] 40 (0, 0)) (by (pw_b); exact BK151.out) hg (Kd.R_ne HO_158001.out BK151.out (by decide)))
                    have n1_ := Aside0.mk (blk_grown (g := gb157) (o := .cells #[.int .i64 (rd y152 t155), u158001, .string (⟨#[]⟩ : ByteArray), .bool false] 40 (0, 0)) (by (pw_b); exact BK157.out) hg (Kd.R_ne HO_158001.out BK157.out (by decide)))
                    have n2_ := Aside0.mk (hb)
                    have n3_ := Aside0.mk (ho)
                    clear BK151
                    clear BK157
                    clear HB
                    clear HO_158001
                    have BK151 := n0_
                    have BK157 := n1_
                    have HB := n2_
                    have HO164 := n3_
                    clear n0_ n1_ n2_ n3_
                    clear ho hb hg hat
                    obtain ⟨Ao24, co24, eo24⟩ := Kd.R_slice HO164.out
                    (first | subst eo24 | (injection eo24 with f1_ f2_ f3_; have f4_ := f1_.symm; have f5_ := f3_.symm; clear f1_ f2_ f3_; subst f4_; subst f5_))
                    refine hK.out _ _ ⟨(blk_cell BK157.out 0).trans rfl, (blk_cell BK157.out 1).trans rfl, (blk_cell BK157.out 2).trans rfl, (blk_cell BK157.out 3).trans rfl, ((HB.out.cell (World.block_lt_of_cell? w _ hw159_0)).trans hw159_0)⟩ (fun hHeld => ?_)
                    clear hK K
                    refine norm_ (a' := ?_) ?_ ?_
                    rotate_left
                    · show Act.put _ (some 39) _ = _
                      pw_p
                      rfl
                    refine pure_ (i := 9) (N := some 40) (v := ?_) (a' := ?_) #[true, true, true, true, true, true, true, true, true, true, false] rfl rfl (any_of HT_.out (by kernel_rfl)) (fun _ _ _ h => h) (Or.inl ⟨by rfl, ?_⟩) ?_ ?_
                    rotate_left
                    · intro w'
                      go_simp
                      with_reducible rfl
                    rotate_left
                    · pw_p
                      rfl
                    refine last_ (i := 10) (N := none) #[true, true, true, true, true, true, true, true, true, true, true] rfl rfl (one_of HT_.out (by kernel_rfl)) (by decide) (fun K hK => ?_)
                    have hs25 : w23.cell? ⟨gb157, 1, none⟩ = some (u158001) := (blk_cell BK157.out 1).trans rfl
                    have hfs25 := blk_frozen BK157.out 1
                    have hns25_0 := NB151_157.out
                    have hms25_0 := NB157_151.out
                    refine skip_ (w1 := ?_) (by rfl) rfl ?_ ?_
                    rotate_left
                    · go_simp
                      rfl
                    refine hK.out _ _ ?_
                    clear hK K
                    refine done_ (done_of HT_.out (by kernel_rfl)) ?_
                    try go_wp2
                    go_roundg k1
                    case measure => have := HK1.out; omega
                    case rel => exact ⟨(wrap64 (x9_1 + 1)), (y162), (.slice Ao24 y162.length co24), (by first | rfl | (simp; done) | (simp [*]; done)), H', ⟨by have := HK1.out; omega⟩, ⟨by (pw_r); exact Kd.R_mono (Kd.R_far (p := ⟨gb157, 1, none⟩) (Kd.R_types HO164.out BK157.out (by decide)) (fun _ hk => hk.2) (.slice Ao24 y162.length co24)) (fun _ hk => trivial)⟩, ⟨by (pw_b); refine blk_far ?_ NB151_157.out _; (pw_b); exact BK151.out⟩, ⟨by (pw_b); refine blk_put (cs := #[.int .i64 (rd y152 t155), u158001, .string (⟨#[]⟩ : ByteArray), .bool false]) ?_ 1 _ rfl; (pw_b); exact BK157.out⟩, ⟨by hb1_⟩⟩
                  · rw [if_neg c20] at H
                    exact absurd H (by simp)
                · rw [if_neg c18] at H
                  exact absurd H (by simp)
              · rw [if_neg c17] at H
                have c17b0 : decide (x9_1 < t158) = false := decide_eq_false c17
                clear c17
                have H' := Aside0.mk H
                clear H
                go_wp2_with (first | (go_at_call 11; (with_reducible refine (postilionkeep_Within.calls (wrap64 (Int.tdiv a0 21)) 6 t158 _ A16.out).mono ?_); rintro e w' ⟨rfl, ⟨nd, rfl⟩⟩))
                go_meet
                case rel => exact ⟨_, (x158001_1), (u158001), H', ⟨by have := HK1.out; first | omega | exact Nat.le_refl _⟩, ⟨by (pw_r); exact HO_158001.out⟩, ⟨by (pw_b); exact BK151.out⟩, ⟨by (pw_b); exact BK157.out⟩, ⟨by hb1_⟩⟩
            · rw [if_neg c15] at H
              have c15b0 : decide (x9_1 < (l1.length : Int)) = false := decide_eq_false c15
              clear c15
              (first | rw [c15b0] | (simp only [i64_w, i32_w]; rw [c15b0]) | skip)
              have H' := Aside0.mk H
              clear H
              go_wp2
              go_meet
              case rel => exact ⟨_, (x158001_1), (u158001), H', ⟨by have := HK1.out; first | omega | exact Nat.le_refl _⟩, ⟨by (pw_r); exact HO_158001.out⟩, ⟨by (pw_b); exact BK151.out⟩, ⟨by (pw_b); exact BK157.out⟩, ⟨by hb1_⟩⟩
      case rest =>
        clear HC7
        try clear c1
        try clear p1
        try clear q1
        try clear hx1
        try clear c2
        try clear p2
        try clear c3
        try clear c5
        try clear c5b0
        try clear c6
        try clear c6b0
        try clear p6
        try clear c11
        try clear c13
        try clear c15
        try clear c15b0
        try clear p15
        try clear q15
        try clear hx15
        try clear c16
        try clear c17
        try clear c17b0
        try clear c18
        try clear c18b0
        try clear c20
        try clear hcz14_0
        try clear hcz14_1
        try clear hcz14_2
        try clear hcz14_3
        try clear hfz14_0
        try clear hfz14_1
        try clear hfz14_2
        try clear hfz14_3
        try clear hx156_0
        try clear hx159_0
        try clear p1
        try clear p156
        try clear p159
        try clear p2
        try clear q1
        try clear q156
        try clear q159
        obtain ⟨kq, x158001_6, u158001, HA, HJ6, HO_158001, BK151, BK157, HB⟩ := hcut
        cases kq with
        | zero => exact absurd HA.out (by simp [postilionplay_Reply.j1])
        | succ kj6 =>
          have H := HA.out
          clear HA
          simp only [postilionplay_Reply.j1] at H
          replace H := Option.bind_eq_some_iff.mp H
          obtain ⟨t165, A260, H⟩ := H
          replace H : (if t165 > 0 then (if x158001_6.length < 4398046511104 then (postilionplay_Reply.j2 kj6 a0 a2 (rd y152 t155) (x158001_6 ++ [(⟨(⟨#[97, 108, 108, 111, 119, 45, 111, 114, 105, 103, 105, 110]⟩ : ByteArray), (⟨#[42]⟩ : ByteArray)⟩ : S26)]) (⟨#[]⟩ : ByteArray) false) else (none)) else (postilionplay_Reply.j2 kj6 a0 a2 (rd y152 t155) x158001_6 (⟨#[]⟩ : ByteArray) false)) = some (r1, r2, r3, r4) := H
          have A26 := Aside0.mk A260
          clear A260
          have HC27 := Aside0.mk H
          clear H
          go_upto_if 45 with (first | ((with_reducible refine gate_calleeV (t := 41) rfl ?_); refine goesV_ (f := 11) (some 44) rfl rfl Tryd.func11 (by kernel_rfl) rfl #[.int .i64 (wrap64 (Int.tdiv a0 7)), .int .i64 3] rfl (by rfl) (by (pw_m); first | done | rfl | (simp only [List.length_drop, List.length_take]; rfl)) ?_; (with_reducible refine (postilionkeep_Within.calls (wrap64 (Int.tdiv a0 7)) 3 t165 _ A26.out).mono ?_); rintro e w' ⟨rfl, ⟨nd, rfl⟩⟩; refine ⟨_, rfl, ?_⟩))
          (try simp only [Act.put, List.setIfInBounds_toArray, List.set_cons_zero, List.set_cons_succ])
          go_cut [] (fun wc => ∃ (kq : Nat) (x158001_26 : List (S26)) (u158001 : Value), Aside0 (postilionplay_Reply.j2 kq a0 a2 (rd y152 t155) x158001_26 (⟨#[]⟩ : ByteArray) false = some (r1, r2, r3, r4)) ∧ Aside0 (kq ≤ kj6) ∧ Aside0 (Kd.R k26 26 wc w.heap.size (fun _ => True) u158001 x158001_26) ∧ Aside0 (wc.heap[gb151]? = some (.cells #[.int .i64 0, (.slice none 0 0), .string (⟨#[]⟩ : ByteArray), .bool false] 40 (0, 0))) ∧ Aside0 (wc.heap[gb157]? = some (.cells #[.int .i64 (rd y152 t155), u158001, .string (⟨#[]⟩ : ByteArray), .bool false] 40 (0, 0))) ∧ Aside0 (Below w.heap.size w wc))
          case first =>
            have H := HC27.out
            clear HC27
            by_cases c28 : t165 > 0
            · rw [if_pos c28] at H
              have c28b0 : decide (0 < t165) = true := decide_eq_true c28
              clear c28
              (first | rw [c28b0] | (simp only [i64_w, i32_w]; rw [c28b0]) | skip)
              by_cases c29 : x158001_6.length < 4398046511104
              · rw [if_pos c29] at H
                have LMc29 := Aside0.mk c29
                clear c29
                obtain ⟨y166, hy166⟩ : ∃ y_ : List (S26), y_ = (x158001_6 ++ [(⟨(⟨#[97, 108, 108, 111, 119, 45, 111, 114, 105, 103, 105, 110]⟩ : ByteArray), (⟨#[42]⟩ : ByteArray)⟩ : S26)]) := ⟨_, rfl⟩
                replace H : (postilionplay_Reply.j2 kj6 a0 a2 (rd y152 t155) y166 (⟨#[]⟩ : ByteArray) false) = some (r1, r2, r3, r4) := by first | (rw [hy166]; with_reducible exact H) | (have H2_ := (Option.bind_some _ _).symm.trans H; rw [hy166]; with_reducible exact H2_) | (have H2_ := (Option.bind_some _ _).symm.trans H; with_reducible exact H2_) | with_reducible exact H | (rw [hy166]; exact H) | exact H
                have Ny166 := Aside0.mk hy166
                clear hy166
                have H' := Aside0.mk H
                clear H
                have hnb30 := NB157_151.out
                have hnc30 := NB151_157.out
                have hcz31_0 : wc.cell? ⟨gb157, 0, none⟩ = some (.int .i64 (rd y152 t155)) := (blk_cell BK157.out 0).trans rfl
                have hcz31_1 : wc.cell? ⟨gb157, 1, none⟩ = some (u158001) := (blk_cell BK157.out 1).trans rfl
                have hcz31_2 : wc.cell? ⟨gb157, 2, none⟩ = some (.string (⟨#[]⟩ : ByteArray)) := (blk_cell BK157.out 2).trans rfl
                have hcz31_3 : wc.cell? ⟨gb157, 3, none⟩ = some (.bool false) := (blk_cell BK157.out 3).trans rfl
                have hfz31_0 := blk_frozen BK157.out 0
                have hfz31_1 := blk_frozen BK157.out 1
                have hfz31_2 := blk_frozen BK157.out 2
                have hfz31_3 := blk_frozen BK157.out 3
                go_wp2_with (first | ((with_reducible refine gate_builtin (b := .append) (xs := #[.tmp 47, .tmp 49]) rfl ?_); at_builtin; refine Kd.R_append k26 (w0 := w) w.heap.size rfl (.tmp 47) (.tmp 49) 31 26 (.agg #[(.string ⟨#[]⟩), (.string ⟨#[]⟩)]) 32 rfl Tryd.underlying31 info26 rfl (by decide) (by omega) u158001 x158001_6 (⟨(⟨#[97, 108, 108, 111, 119, 45, 111, 114, 105, 103, 105, 110]⟩ : ByteArray), (⟨#[42]⟩ : ByteArray)⟩ : S26) [.string (⟨#[97, 108, 108, 111, 119, 45, 111, 114, 105, 103, 105, 110]⟩ : ByteArray), .string (⟨#[42]⟩ : ByteArray)] (fun _ => True) (fun _ => False) rfl rfl ?aP (fun _ hk => hk.elim) ?aF ?aO ?aB ?aS ?aL ?_; (case aP => exact k26_mkM _ _ _ (⟨(⟨#[97, 108, 108, 111, 119, 45, 111, 114, 105, 103, 105, 110]⟩ : ByteArray), (⟨#[42]⟩ : ByteArray)⟩ : S26)); (case aB => exact (by hb1_)); (case aF => exact (fun _ _ => trivial)); (case aO => exact (by (pw_r); exact HO_158001.out)); (case aS => exact (below_size (by hb1_))); (case aL => have := LMc29.out; omega); intro v167 w32 ho hb hg hat; rw [← Ny166.out] at ho; have n0_ := Aside0.mk (blk_grown (g := gb151) (o := .cells #[.int .i64 0, .slice none 0 0, .string (⟨#[]⟩ : ByteArray), .bool false] 40 (0, 0)) (by (pw_b); exact BK151.out) hg (Kd.R_ne HO_158001.out BK151.out (by decide))); have n1_ := Aside0.mk (blk_grown (g := gb157) (o := .cells #[.int .i64 (rd y152 t155), u158001, .string (⟨#[]⟩ : ByteArray), .bool false] 40 (0, 0)) (by (pw_b); exact BK157.out) hg (Kd.R_ne HO_158001.out BK157.out (by decide))); have n2_ := Aside0.mk (hb); have n3_ := Aside0.mk (ho); clear BK151; clear BK157; clear HB; clear HO_158001; have BK151 := n0_; have BK157 := n1_; have HB := n2_; have HO168 := n3_; clear n0_ n1_ n2_ n3_; clear ho hb hg hat; obtain ⟨Ao33, co33, eo33⟩ := Kd.R_slice HO168.out; subst eo33; have hcz34_0 : w32.cell? ⟨gb157, 0, none⟩ = some (.int .i64 (rd y152 t155)) := (blk_cell BK157.out 0).trans rfl; have hcz34_1 : w32.cell? ⟨gb157, 1, none⟩ = some (u158001) := (blk_cell BK157.out 1).trans rfl; have hcz34_2 : w32.cell? ⟨gb157, 2, none⟩ = some (.string (⟨#[]⟩ : ByteArray)) := (blk_cell BK157.out 2).trans rfl; have hcz34_3 : w32.cell? ⟨gb157, 3, none⟩ = some (.bool false) := (blk_cell BK157.out 3).trans rfl; have hfz34_0 := blk_frozen BK157.out 0; have hfz34_1 := blk_frozen BK157.out 1; have hfz34_2 := blk_frozen BK157.out 2; have hfz34_3 := blk_frozen BK157.out 3))
                go_meet
                case rel => exact ⟨_, (y166), (.slice Ao33 y166.length co33), H', ⟨by have := HJ6.out; first | omega | exact Nat.le_refl _⟩, ⟨by (pw_r); exact Kd.R_mono (Kd.R_far (p := ⟨gb157, 1, none⟩) (Kd.R_types HO168.out BK157.out (by decide)) (fun _ hk => hk.2) (.slice Ao33 y166.length co33)) (fun _ hk => trivial)⟩, ⟨by (pw_b); refine blk_far ?_ NB151_157.out _; (pw_b); exact BK151.out⟩, ⟨by (pw_b); refine blk_put (cs := #[.int .i64 (rd y152 t155), u158001, .string (⟨#[]⟩ : ByteArray), .bool false]) ?_ 1 _ rfl; (pw_b); exact BK157.out⟩, ⟨by hb1_⟩⟩
              · rw [if_neg c29] at H
                exact absurd H (by simp)
            · rw [if_neg c28] at H
              have c28b0 : decide (0 < t165) = false := decide_eq_false c28
              clear c28
              (first | rw [c28b0] | (simp only [i64_w, i32_w]; rw [c28b0]) | skip)
              have H' := Aside0.mk H
              clear H
              go_wp2
              go_meet
              case rel => exact ⟨_, (x158001_6), (u158001), H', ⟨by have := HJ6.out; first | omega | exact Nat.le_refl _⟩, ⟨by (pw_r); exact HO_158001.out⟩, ⟨by (pw_b); exact BK151.out⟩, ⟨by (pw_b); exact BK157.out⟩, ⟨by hb1_⟩⟩
          case rest =>
            clear HC27
            try clear c1
            try clear p1
            try clear q1
            try clear hx1
            try clear c2
            try clear p2
            try clear c3
            try clear c5
            try clear c5b0
            try clear c6
            try clear c6b0
            try clear p6
            try clear c11
            try clear c13
            try clear c15
            try clear c15b0
            try clear p15
            try clear q15
            try clear hx15
            try clear c16
            try clear c17
            try clear c17b0
            try clear c18
            try clear c18b0
            try clear c20
            try clear c28
            try clear c28b0
            try clear c29
            try clear c30
            try clear c33
            try clear hcz14_0
            try clear hcz14_1
            try clear hcz14_2
            try clear hcz14_3
            try clear hcz31_0
            try clear hcz31_1
            try clear hcz31_2
            try clear hcz31_3
            try clear hcz34_0
            try clear hcz34_1
            try clear hcz34_2
            try clear hcz34_3
            try clear hfz14_0
            try clear hfz14_1
            try clear hfz14_2
            try clear hfz14_3
            try clear hfz31_0
            try clear hfz31_1
            try clear hfz31_2
            try clear hfz31_3
            try clear hfz34_0
            try clear hfz34_1
            try clear hfz34_2
            try clear hfz34_3
            try clear hx156_0
            try clear hx159_0
            try clear p1
            try clear p15
            try clear p156
            try clear p159
            try clear p2
            try clear p6
            try clear q1
            try clear q15
            try clear q156
            try clear q159
            obtain ⟨kq, x158001_26, u158001, HA, HJ26, HO_158001, BK151, BK157, HB⟩ := hcut
            cases kq with
            | zero => exact absurd HA.out (by simp [postilionplay_Reply.j2])
            | succ kj26 =>
              have H := HA.out
              clear HA
              simp only [postilionplay_Reply.j2] at H
              obtain ⟨y169, hy169⟩ : ∃ y_ : List Int, y_ = (([0, 5, 8, 3, 30, 49, 60] : List Int)) := ⟨_, rfl⟩
              replace H : ((postilionkeep_Within.f (wrap64 (Int.tdiv a0 5)) 7).bind fun t172 => (if 0 ≤ t172 then (if t172 < (y169.length : Int) then ((postilionplay_Bytes.f kj26 99 (rd y169 t172)).bind fun t174 => ((postilionkeep_Within.f a0 50).bind fun t177 => (if t177 = 49 then (some ((rd y152 t155), x158001_26, a2, false)) else (some ((rd y152 t155), x158001_26, strOfNums t174, false))))) else (none)) else (none))) = some (r1, r2, r3, r4) := by first | (rw [hy169]; with_reducible exact H) | (have H2_ := (Option.bind_some _ _).symm.trans H; rw [hy169]; with_reducible exact H2_) | (have H2_ := (Option.bind_some _ _).symm.trans H; with_reducible exact H2_) | with_reducible exact H | (rw [hy169]; exact H) | exact H
              have Ny169 := Aside0.mk hy169
              clear hy169
              replace H := Option.bind_eq_some_iff.mp H
              obtain ⟨t172, A350, H⟩ := H
              replace H : (if 0 ≤ t172 then (if t172 < (y169.length : Int) then ((postilionplay_Bytes.f kj26 99 (rd y169 t172)).bind fun t174 => ((postilionkeep_Within.f a0 50).bind fun t177 => (if t177 = 49 then (some ((rd y152 t155), x158001_26, a2, false)) else (some ((rd y152 t155), x158001_26, strOfNums t174, false))))) else (none)) else (none)) = some (r1, r2, r3, r4) := H
              have A35 := Aside0.mk A350
              clear A350
              by_cases c36 : 0 ≤ t172
              · rw [if_pos c36] at H
                have c36b0 : decide (0 ≤ t172) = true := decide_eq_true c36
                clear c36
                by_cases c37 : t172 < (y169.length : Int)
                · rw [if_pos c37] at H
                  have c37b0 : decide (t172 < (y169.length : Int)) = true := decide_eq_true c37
                  clear c37
                  replace H := Option.bind_eq_some_iff.mp H
                  obtain ⟨t174, A380, H⟩ := H
                  replace H : ((postilionkeep_Within.f a0 50).bind fun t177 => (if t177 = 49 then (some ((rd y152 t155), x158001_26, a2, false)) else (some ((rd y152 t155), x158001_26, strOfNums t174, false)))) = some (r1, r2, r3, r4) := H
                  have A38 := Aside0.mk A380
                  clear A380
                  replace H := Option.bind_eq_some_iff.mp H
                  obtain ⟨t177, A390, H⟩ := H
                  replace H : (if t177 = 49 then (some ((rd y152 t155), x158001_26, a2, false)) else (some ((rd y152 t155), x158001_26, strOfNums t174, false))) = some (r1, r2, r3, r4) := H
                  have A39 := Aside0.mk A390
                  clear A390
                  by_cases c40 : t177 = 49
                  · rw [if_pos c40] at H
                    have c40b0 : (t177 == 49) = true := beq_iff_eq.mpr c40
                    have c40b1 : (t177 != 49) = false := bne_eq_false_iff_eq.mpr c40
                    clear c40
                    simp only [Option.some.injEq, Prod.mk.injEq] at H
                    obtain ⟨rfl, rfl, rfl, rfl⟩ := H
                    go_wp2_with (first | ((with_reducible refine gate_dst (N := 52) rfl ?_); refine Kd.R_lit (Kd.int .i64) _ 3 ?hg (N := 52) ?hd (xs := ([0, 5, 8, 3, 30, 49, 60] : List Int)) (inner := [.int .i64 0, .int .i64 5, .int .i64 8, .int .i64 3, .int .i64 30, .int .i64 49, .int .i64 60]) (ok := fun _ => True) (okp := fun _ => True) ?hr ?hp (fun _ hk => hk) trivial (Below.refl _ _) (Nat.le_refl _) (by simp) ?_; (case hd => rfl); (case hg => rfl); (case hr => first | (go_simp; done) | (go_simp; rfl)); (case hp => exact (Reps.one (show Kd.M (Kd.int .i64) _ _ _ 0 [.int .i64 0] from rfl) (Reps.one (show Kd.M (Kd.int .i64) _ _ _ 5 [.int .i64 5] from rfl) (Reps.one (show Kd.M (Kd.int .i64) _ _ _ 8 [.int .i64 8] from rfl) (Reps.one (show Kd.M (Kd.int .i64) _ _ _ 3 [.int .i64 3] from rfl) (Reps.one (show Kd.M (Kd.int .i64) _ _ _ 30 [.int .i64 30] from rfl) (Reps.one (show Kd.M (Kd.int .i64) _ _ _ 49 [.int .i64 49] from rfl) (Reps.one (show Kd.M (Kd.int .i64) _ _ _ 60 [.int .i64 60] from rfl) (Reps.none _ _))))))))); intro v170 w41 ho42 hb hg_ hnew_; clear hg_ hnew_; (first | rw [← Ny169.out] at ho42 | (simp only [Int.reduceToNat] at ho42; rw [← Ny169.out] at ho42)); have n0_ := Aside0.mk (Kd.R_below (by (pw_r); exact HO_158001.out) hb); have n1_ := Aside0.mk (Kd.R_lower ho42 (below_size (by hb1_))); have n2_ := Aside0.mk (blk_below (g := gb151) (o := .cells #[.int .i64 0, .slice none 0 0, .string (⟨#[]⟩ : ByteArray), .bool false] 40 (0, 0)) (by (pw_b); exact BK151.out) hb); have n3_ := Aside0.mk (blk_below (g := gb157) (o := .cells #[.int .i64 (rd y152 t155), u158001, .string (⟨#[]⟩ : ByteArray), .bool false] 40 (0, 0)) (by (pw_b); exact BK157.out) hb); have n4_ := Aside0.mk (below_step (by hb1_) hb); clear HO_158001; clear BK151; clear BK157; clear HB; have HO_158001 := n0_; have HO171 := n1_; have BK151 := n2_; have BK157 := n3_; have HB := n4_; clear n0_ n1_ n2_ n3_ n4_; clear hb ho42) | ((with_reducible refine gate_calleeV (t := 53) rfl ?_); refine goesV_ (f := 11) (some 56) rfl rfl Tryd.func11 (by kernel_rfl) rfl #[.int .i64 (wrap64 (Int.tdiv a0 5)), .int .i64 7] rfl (by rfl) (by (pw_m); first | done | rfl | (simp only [List.length_drop, List.length_take]; rfl)) ?_; (with_reducible refine (postilionkeep_Within.calls (wrap64 (Int.tdiv a0 5)) 7 t172 _ A35.out).mono ?_); rintro e w' ⟨rfl, ⟨nd, rfl⟩⟩; refine ⟨_, rfl, ?_⟩; (try (rw [drewN_self w41]; generalize hq_ : World.drewN w41 _ = w41; have n0_ : Aside0 (Kd.R (Kd.int .i64) 3 w41 w.heap.size (fun _ => True) v170 y169) := ⟨by rw [← hq_]; exact (by (pw_r); exact HO171.out)⟩; have n1_ : Aside0 (Kd.R k26 26 w41 w.heap.size (fun _ => True) u158001 x158001_26) := ⟨by rw [← hq_]; exact (by (pw_r); exact HO_158001.out)⟩; have n2_ : Aside0 (w41.heap[gb151]? = some (.cells #[.int .i64 0, .slice none 0 0, .string (⟨#[]⟩ : ByteArray), .bool false] 40 (0, 0))) := ⟨by rw [← hq_]; exact (by (pw_b); exact BK151.out)⟩; have n3_ : Aside0 (w41.heap[gb157]? = some (.cells #[.int .i64 (rd y152 t155), u158001, .string (⟨#[]⟩ : ByteArray), .bool false] 40 (0, 0))) := ⟨by rw [← hq_]; exact (by (pw_b); exact BK157.out)⟩; have n4_ : Aside0 (Below w.heap.size w w41) := ⟨by rw [← hq_]; exact (by hb1_)⟩; clear HO171 HO_158001 BK151 BK157 HB hq_; have HO171 := n0_; have HO_158001 := n1_; have BK151 := n2_; have BK157 := n3_; have HB := n4_; clear n0_ n1_ n2_ n3_ n4_)); obtain ⟨Ao43, co43, eo43⟩ := Kd.R_slice HO171.out; subst eo43; have p173 : 0 ≤ (t172 : Int) := of_decide_eq_true (by pw_d); have q173 : t172 < (y169.length : Int) := of_decide_eq_true (by pw_d); obtain ⟨ad173, e173, hx173_0⟩ := Kd.at_int (Kd.R_reads' HO171.out).2.2 t172 p173 q173; cases e173; replace p173 := eq_true p173; replace q173 := eq_true q173) | ((with_reducible refine gate_callee (f := 23) rfl ?_); refine goesL_ (some 59) rfl rfl Tryd.func23 (by kernel_rfl) rfl #[.int .i64 99, .int .i64 (rd y169 t172)] rfl (by (pw_m); first | done | rfl | (simp only [List.length_drop, List.length_take]; rfl)) ?_; (with_reducible refine (postilionplay_Bytes.calls kj26 99 (rd y169 t172) t174 _ A38.out).mono ?_); rintro e w44 ⟨v175, rfl, ho0, hb⟩; refine ⟨_, rfl, ?_⟩; have n0_ := Aside0.mk (Kd.R_below (by (pw_r); exact HO_158001.out) hb); have n1_ := Aside0.mk (Kd.R_below (by (pw_r); exact HO171.out) hb); have n2_ := Aside0.mk (Kd.R_lower ho0 (below_size (by hb1_))); have n3_ := Aside0.mk (blk_below (g := gb151) (o := .cells #[.int .i64 0, .slice none 0 0, .string (⟨#[]⟩ : ByteArray), .bool false] 40 (0, 0)) (by (pw_b); exact BK151.out) hb); have n4_ := Aside0.mk (blk_below (g := gb157) (o := .cells #[.int .i64 (rd y152 t155), u158001, .string (⟨#[]⟩ : ByteArray), .bool false] 40 (0, 0)) (by (pw_b); exact BK157.out) hb); have n5_ := Aside0.mk (below_step (by hb1_) hb); clear HO_158001; clear HO171; clear BK151; clear BK157; clear HB; have HO_158001 := n0_; have HO171 := n1_; have HO176 := n2_; have BK151 := n3_; have BK157 := n4_; have HB := n5_; clear n0_ n1_ n2_ n3_ n4_ n5_; (try clear hb); (try clear hb2); (try clear hk); (try clear hi); (try clear ho0); have hcv45 := own_string (P := Tryd.prog) Tryd.underlying49 Tryd.underlying5 Tryd.underlying9 (Kd.own_of_R HO176.out); have hnb46 := NB157_151.out; have hnc46 := NB151_157.out; have hcz47_0 : w44.cell? ⟨gb157, 0, none⟩ = some (.int .i64 (rd y152 t155)) := (blk_cell BK157.out 0).trans rfl; have hcz47_1 : w44.cell? ⟨gb157, 1, none⟩ = some (u158001) := (blk_cell BK157.out 1).trans rfl; have hcz47_2 : w44.cell? ⟨gb157, 2, none⟩ = some (.string (⟨#[]⟩ : ByteArray)) := (blk_cell BK157.out 2).trans rfl; have hcz47_3 : w44.cell? ⟨gb157, 3, none⟩ = some (.bool false) := (blk_cell BK157.out 3).trans rfl; have hfz47_0 := blk_frozen BK157.out 0; have hfz47_1 := blk_frozen BK157.out 1; have hfz47_2 := blk_frozen BK157.out 2; have hfz47_3 := blk_frozen BK157.out 3) | ((with_reducible refine gate_calleeV (t := 62) rfl ?_); refine goesV_ (f := 11) (some 64) rfl rfl Tryd.func11 (by kernel_rfl) rfl #[.int .i64 a0, .int .i64 50] rfl (by rfl) (by (pw_m); first | done | rfl | (simp only [List.length_drop, List.length_take]; rfl)) ?_; (with_reducible refine (postilionkeep_Within.calls a0 50 t177 _ A39.out).mono ?_); rintro e w' ⟨rfl, ⟨nd, rfl⟩⟩; refine ⟨_, rfl, ?_⟩; have hcz48_0 : w44.cell? ⟨gb151, 0, none⟩ = some (.int .i64 0) := (blk_cell BK151.out 0).trans rfl; have hcz48_1 : w44.cell? ⟨gb151, 1, none⟩ = some (.slice none 0 0) := (blk_cell BK151.out 1).trans rfl; have hcz48_2 : w44.cell? ⟨gb151, 2, none⟩ = some (.string (⟨#[]⟩ : ByteArray)) := (blk_cell BK151.out 2).trans rfl; have hcz48_3 : w44.cell? ⟨gb151, 3, none⟩ = some (.bool false) := (blk_cell BK151.out 3).trans rfl; have hfz48_0 := blk_frozen BK151.out 0; have hfz48_1 := blk_frozen BK151.out 1; have hfz48_2 := blk_frozen BK151.out 2; have hfz48_3 := blk_frozen BK151.out 3; obtain ⟨Ao49, co49, eo49⟩ := Kd.R_slice HO_158001.out; subst eo49))
                    refine bodyPost_ret (results_cell_row rfl _ _ gb151 40 #[.int .i64 (rd y152 t155), .slice Ao49 x158001_26.length co49, .string a2, .bool false] (0, 0) _ rfl (by (pw_b); refine blk_put (cs := #[.int .i64 (rd y152 t155), .slice Ao49 x158001_26.length co49, .string a2, .bool false]) ?_ 3 _ rfl; (pw_b); refine blk_put (cs := #[.int .i64 (rd y152 t155), .slice Ao49 x158001_26.length co49, .string (⟨#[]⟩ : ByteArray), .bool false]) ?_ 2 _ rfl; (pw_b); refine blk_put (cs := #[.int .i64 (rd y152 t155), .slice none 0 0, .string (⟨#[]⟩ : ByteArray), .bool false]) ?_ 1 _ rfl; (pw_b); refine blk_put (cs := #[.int .i64 0, .slice none 0 0, .string (⟨#[]⟩ : ByteArray), .bool false]) ?_ 0 _ rfl; (pw_b); refine blk_far ?_ NB151_157.out _; (pw_b); refine blk_far ?_ NB151_157.out _; (pw_b); exact BK151.out) Tryd.underlying40 rfl (by kernel_rfl)) rfl ?_
                    exact ⟨_, by first | rfl | (simp [errW_none, errW_some] <;> rfl) | (simp [*, errW_none, errW_some] <;> rfl), by (pw_r); exact Kd.R_mono (Kd.R_far (p := ⟨gb151, 3, none⟩) (Kd.R_far (p := ⟨gb151, 2, none⟩) (Kd.R_far (p := ⟨gb151, 1, none⟩) (Kd.R_far (p := ⟨gb151, 0, none⟩) (Kd.R_far (p := ⟨gb157, 2, none⟩) (Kd.R_far (p := ⟨gb157, 2, none⟩) (Kd.R_types (Kd.R_types HO_158001.out BK157.out (by decide)) BK151.out (by decide)) (fun _ hk => hk.1.2) (.string (strOfNums t174))) (fun _ hk => hk.1.2) (.string a2)) (fun _ hk => hk.2) (.int .i64 (rd y152 t155))) (fun _ hk => hk.2) (.slice Ao49 x158001_26.length co49)) (fun _ hk => hk.2) (.string a2)) (fun _ hk => hk.2) (.bool false)) (fun _ hk => trivial), by hb1_⟩
                  · rw [if_neg c40] at H
                    have c40b0 : (t177 == 49) = false := beq_eq_false_iff_ne.mpr c40
                    have c40b1 : (t177 != 49) = true := bne_iff_ne.mpr c40
                    simp only [Option.some.injEq, Prod.mk.injEq] at H
                    obtain ⟨rfl, rfl, rfl, rfl⟩ := H
                    go_wp2_with (first | ((with_reducible refine gate_dst (N := 52) rfl ?_); refine Kd.R_lit (Kd.int .i64) _ 3 ?hg (N := 52) ?hd (xs := ([0, 5, 8, 3, 30, 49, 60] : List Int)) (inner := [.int .i64 0, .int .i64 5, .int .i64 8, .int .i64 3, .int .i64 30, .int .i64 49, .int .i64 60]) (ok := fun _ => True) (okp := fun _ => True) ?hr ?hp (fun _ hk => hk) trivial (Below.refl _ _) (Nat.le_refl _) (by simp) ?_; (case hd => rfl); (case hg => rfl); (case hr => first | (go_simp; done) | (go_simp; rfl)); (case hp => exact (Reps.one (show Kd.M (Kd.int .i64) _ _ _ 0 [.int .i64 0] from rfl) (Reps.one (show Kd.M (Kd.int .i64) _ _ _ 5 [.int .i64 5] from rfl) (Reps.one (show Kd.M (Kd.int .i64) _ _ _ 8 [.int .i64 8] from rfl) (Reps.one (show Kd.M (Kd.int .i64) _ _ _ 3 [.int .i64 3] from rfl) (Reps.one (show Kd.M (Kd.int .i64) _ _ _ 30 [.int .i64 30] from rfl) (Reps.one (show Kd.M (Kd.int .i64) _ _ _ 49 [.int .i64 49] from rfl) (Reps.one (show Kd.M (Kd.int .i64) _ _ _ 60 [.int .i64 60] from rfl) (Reps.none _ _))))))))); intro v170 w50 ho51 hb hg_ hnew_; clear hg_ hnew_; (first | rw [← Ny169.out] at ho51 | (simp only [Int.reduceToNat] at ho51; rw [← Ny169.out] at ho51)); have n0_ := Aside0.mk (Kd.R_below (by (pw_r); exact HO_158001.out) hb); have n1_ := Aside0.mk (Kd.R_lower ho51 (below_size (by hb1_))); have n2_ := Aside0.mk (blk_below (g := gb151) (o := .cells #[.int .i64 0, .slice none 0 0, .string (⟨#[]⟩ : ByteArray), .bool false] 40 (0, 0)) (by (pw_b); exact BK151.out) hb); have n3_ := Aside0.mk (blk_below (g := gb157) (o := .cells #[.int .i64 (rd y152 t155), u158001, .string (⟨#[]⟩ : ByteArray), .bool false] 40 (0, 0)) (by (pw_b); exact BK157.out) hb); have n4_ := Aside0.mk (below_step (by hb1_) hb); clear HO_158001; clear BK151; clear BK157; clear HB; have HO_158001 := n0_; have HO171 := n1_; have BK151 := n2_; have BK157 := n3_; have HB := n4_; clear n0_ n1_ n2_ n3_ n4_; clear hb ho51) | ((with_reducible refine gate_calleeV (t := 53) rfl ?_); refine goesV_ (f := 11) (some 56) rfl rfl Tryd.func11 (by kernel_rfl) rfl #[.int .i64 (wrap64 (Int.tdiv a0 5)), .int .i64 7] rfl (by rfl) (by (pw_m); first | done | rfl | (simp only [List.length_drop, List.length_take]; rfl)) ?_; (with_reducible refine (postilionkeep_Within.calls (wrap64 (Int.tdiv a0 5)) 7 t172 _ A35.out).mono ?_); rintro e w' ⟨rfl, ⟨nd, rfl⟩⟩; refine ⟨_, rfl, ?_⟩; (try (rw [drewN_self w50]; generalize hq_ : World.drewN w50 _ = w50; have n0_ : Aside0 (Kd.R (Kd.int .i64) 3 w50 w.heap.size (fun _ => True) v170 y169) := ⟨by rw [← hq_]; exact (by (pw_r); exact HO171.out)⟩; have n1_ : Aside0 (Kd.R k26 26 w50 w.heap.size (fun _ => True) u158001 x158001_26) := ⟨by rw [← hq_]; exact (by (pw_r); exact HO_158001.out)⟩; have n2_ : Aside0 (w50.heap[gb151]? = some (.cells #[.int .i64 0, .slice none 0 0, .string (⟨#[]⟩ : ByteArray), .bool false] 40 (0, 0))) := ⟨by rw [← hq_]; exact (by (pw_b); exact BK151.out)⟩; have n3_ : Aside0 (w50.heap[gb157]? = some (.cells #[.int .i64 (rd y152 t155), u158001, .string (⟨#[]⟩ : ByteArray), .bool false] 40 (0, 0))) := ⟨by rw [← hq_]; exact (by (pw_b); exact BK157.out)⟩; have n4_ : Aside0 (Below w.heap.size w w50) := ⟨by rw [← hq_]; exact (by hb1_)⟩; clear HO171 HO_158001 BK151 BK157 HB hq_; have HO171 := n0_; have HO_158001 := n1_; have BK151 := n2_; have BK157 := n3_; have HB := n4_; clear n0_ n1_ n2_ n3_ n4_)); obtain ⟨Ao52, co52, eo52⟩ := Kd.R_slice HO171.out; subst eo52; have p173 : 0 ≤ (t172 : Int) := of_decide_eq_true (by pw_d); have q173 : t172 < (y169.length : Int) := of_decide_eq_true (by pw_d); obtain ⟨ad173, e173, hx173_0⟩ := Kd.at_int (Kd.R_reads' HO171.out).2.2 t172 p173 q173; cases e173; replace p173 := eq_true p173; replace q173 := eq_true q173) | ((with_reducible refine gate_callee (f := 23) rfl ?_); refine goesL_ (some 59) rfl rfl Tryd.func23 (by kernel_rfl) rfl #[.int .i64 99, .int .i64 (rd y169 t172)] rfl (by (pw_m); first | done | rfl | (simp only [List.length_drop, List.length_take]; rfl)) ?_; (with_reducible refine (postilionplay_Bytes.calls kj26 99 (rd y169 t172) t174 _ A38.out).mono ?_); rintro e w53 ⟨v175, rfl, ho0, hb⟩; refine ⟨_, rfl, ?_⟩; have n0_ := Aside0.mk (Kd.R_below (by (pw_r); exact HO_158001.out) hb); have n1_ := Aside0.mk (Kd.R_below (by (pw_r); exact HO171.out) hb); have n2_ := Aside0.mk (Kd.R_lower ho0 (below_size (by hb1_))); have n3_ := Aside0.mk (blk_below (g := gb151) (o := .cells #[.int .i64 0, .slice none 0 0, .string (⟨#[]⟩ : ByteArray), .bool false] 40 (0, 0)) (by (pw_b); exact BK151.out) hb); have n4_ := Aside0.mk (blk_below (g := gb157) (o := .cells #[.int .i64 (rd y152 t155), u158001, .string (⟨#[]⟩ : ByteArray), .bool false] 40 (0, 0)) (by (pw_b); exact BK157.out) hb); have n5_ := Aside0.mk (below_step (by hb1_) hb); clear HO_158001; clear HO171; clear BK151; clear BK157; clear HB; have HO_158001 := n0_; have HO171 := n1_; have HO176 := n2_; have BK151 := n3_; have BK157 := n4_; have HB := n5_; clear n0_ n1_ n2_ n3_ n4_ n5_; (try clear hb); (try clear hb2); (try clear hk); (try clear hi); (try clear ho0); have hcv54 := own_string (P := Tryd.prog) Tryd.underlying49 Tryd.underlying5 Tryd.underlying9 (Kd.own_of_R HO176.out); have hnb55 := NB157_151.out; have hnc55 := NB151_157.out; have hcz56_0 : w53.cell? ⟨gb157, 0, none⟩ = some (.int .i64 (rd y152 t155)) := (blk_cell BK157.out 0).trans rfl; have hcz56_1 : w53.cell? ⟨gb157, 1, none⟩ = some (u158001) := (blk_cell BK157.out 1).trans rfl; have hcz56_2 : w53.cell? ⟨gb157, 2, none⟩ = some (.string (⟨#[]⟩ : ByteArray)) := (blk_cell BK157.out 2).trans rfl; have hcz56_3 : w53.cell? ⟨gb157, 3, none⟩ = some (.bool false) := (blk_cell BK157.out 3).trans rfl; have hfz56_0 := blk_frozen BK157.out 0; have hfz56_1 := blk_frozen BK157.out 1; have hfz56_2 := blk_frozen BK157.out 2; have hfz56_3 := blk_frozen BK157.out 3) | ((with_reducible refine gate_calleeV (t := 62) rfl ?_); refine goesV_ (f := 11) (some 64) rfl rfl Tryd.func11 (by kernel_rfl) rfl #[.int .i64 a0, .int .i64 50] rfl (by rfl) (by (pw_m); first | done | rfl | (simp only [List.length_drop, List.length_take]; rfl)) ?_; (with_reducible refine (postilionkeep_Within.calls a0 50 t177 _ A39.out).mono ?_); rintro e w' ⟨rfl, ⟨nd, rfl⟩⟩; refine ⟨_, rfl, ?_⟩; have hcz57_0 : w53.cell? ⟨gb151, 0, none⟩ = some (.int .i64 0) := (blk_cell BK151.out 0).trans rfl; have hcz57_1 : w53.cell? ⟨gb151, 1, none⟩ = some (.slice none 0 0) := (blk_cell BK151.out 1).trans rfl; have hcz57_2 : w53.cell? ⟨gb151, 2, none⟩ = some (.string (⟨#[]⟩ : ByteArray)) := (blk_cell BK151.out 2).trans rfl; have hcz57_3 : w53.cell? ⟨gb151, 3, none⟩ = some (.bool false) := (blk_cell BK151.out 3).trans rfl; have hfz57_0 := blk_frozen BK151.out 0; have hfz57_1 := blk_frozen BK151.out 1; have hfz57_2 := blk_frozen BK151.out 2; have hfz57_3 := blk_frozen BK151.out 3; obtain ⟨Ao58, co58, eo58⟩ := Kd.R_slice HO_158001.out; subst eo58))
                    refine bodyPost_ret (results_cell_row rfl _ _ gb151 40 #[.int .i64 (rd y152 t155), .slice Ao58 x158001_26.length co58, .string (strOfNums t174), .bool false] (0, 0) _ rfl (by (pw_b); refine blk_put (cs := #[.int .i64 (rd y152 t155), .slice Ao58 x158001_26.length co58, .string (strOfNums t174), .bool false]) ?_ 3 _ rfl; (pw_b); refine blk_put (cs := #[.int .i64 (rd y152 t155), .slice Ao58 x158001_26.length co58, .string (⟨#[]⟩ : ByteArray), .bool false]) ?_ 2 _ rfl; (pw_b); refine blk_put (cs := #[.int .i64 (rd y152 t155), .slice none 0 0, .string (⟨#[]⟩ : ByteArray), .bool false]) ?_ 1 _ rfl; (pw_b); refine blk_put (cs := #[.int .i64 0, .slice none 0 0, .string (⟨#[]⟩ : ByteArray), .bool false]) ?_ 0 _ rfl; (pw_b); refine blk_far ?_ NB151_157.out _; (pw_b); exact BK151.out) Tryd.underlying40 rfl (by kernel_rfl)) rfl ?_
                    exact ⟨_, by first | rfl | (simp [errW_none, errW_some] <;> rfl) | (simp [*, errW_none, errW_some] <;> rfl), by (pw_r); exact Kd.R_mono (Kd.R_far (p := ⟨gb151, 3, none⟩) (Kd.R_far (p := ⟨gb151, 2, none⟩) (Kd.R_far (p := ⟨gb151, 1, none⟩) (Kd.R_far (p := ⟨gb151, 0, none⟩) (Kd.R_far (p := ⟨gb157, 2, none⟩) (Kd.R_types (Kd.R_types HO_158001.out BK157.out (by decide)) BK151.out (by decide)) (fun _ hk => hk.1.2) (.string (strOfNums t174))) (fun _ hk => hk.2) (.int .i64 (rd y152 t155))) (fun _ hk => hk.2) (.slice Ao58 x158001_26.length co58)) (fun _ hk => hk.2) (.string (strOfNums t174))) (fun _ hk => hk.2) (.bool false)) (fun _ hk => trivial), by hb1_⟩
                · rw [if_neg c37] at H
                  exact absurd H (by simp)
              · rw [if_neg c36] at H
                exact absurd H (by simp)
    · rw [if_neg c6] at H
      exact absurd H (by simp)
  · rw [if_neg c5] at H
    exact absurd H (by simp)

/-! ### postilionref01_begins: function 34 -/
def postilionref01_begins.f (a0 : ByteArray) (a1 : ByteArray) : Option (Bool) := if (a0.size : Int) ≥ (a1.size : Int) then (if 0 ≤ (a1.size : Int) then (if (a1.size : Int) ≤ (a0.size : Int) then (some ((a0.extract 0 ((a1.size : Int) : Int).toNat).toList == a1.toList)) else (none)) else (none)) else (some false)
set_option maxHeartbeats 8000000 in
set_option maxRecDepth 100000 in
theorem postilionref01_begins.calls (a0 : ByteArray) (a1 : ByteArray) (r : Bool) (w : World) (h : postilionref01_begins.f a0 a1 = some r) :
    Calls Tryd.prog 34 #[.string a0, .string a1] w fun e w' => e = .returned (.bool r) ∧ Drawn0 w w' := by
  have H : (if (a0.size : Int) ≥ (a1.size : Int) then (if 0 ≤ (a1.size : Int) then (if (a1.size : Int) ≤ (a0.size : Int) then (some ((a0.extract 0 ((a1.size : Int) : Int).toNat).toList == a1.toList)) else (none)) else (none)) else (some false)) = some r := h
  clear h
  by_cases c3 : (a0.size : Int) ≥ (a1.size : Int)
  · rw [if_pos c3] at H
    have c3b0 : decide ((a1.size : Int) ≤ (a0.size : Int)) = true := decide_eq_true c3
    have c3b1 : decide (a1.size ≤ a0.size) = true := decide_eq_true (Int.ofNat_le.mp c3)
    clear c3
    by_cases c4 : 0 ≤ (a1.size : Int)
    · rw [if_pos c4] at H
      have c4b0 := eq_true c4
      have c4b1 : decide (0 ≤ (a1.size : Int)) = true := decide_eq_true c4
      clear c4
      by_cases c5 : (a1.size : Int) ≤ (a0.size : Int)
      · rw [if_pos c5] at H
        have c5b0 := eq_true c5
        have c5b1 : decide ((a1.size : Int) ≤ (a0.size : Int)) = true := decide_eq_true c5
        clear c5
        obtain rfl := Option.some.inj H
        go_enter Tryd.func34, Tryd.ntmps34
        go_wp2
        go_ret
        exact ⟨by first | rfl | (simp; done) | (simp [*]; done), by repeat (first | exact Drawn0.refl _ | apply Drawn0.step)⟩
      · rw [if_neg c5] at H
        exact absurd H (by simp)
    · rw [if_neg c4] at H
      exact absurd H (by simp)
  · rw [if_neg c3] at H
    have c3b0 : decide ((a1.size : Int) ≤ (a0.size : Int)) = false := decide_eq_false c3
    have c3b1 : decide (a1.size ≤ a0.size) = false := decide_eq_false (fun h => c3 (Int.ofNat_le.mpr h))
    clear c3
    obtain rfl := Option.some.inj H
    go_enter Tryd.func34, Tryd.ntmps34
    go_wp2
    go_ret
    exact ⟨by first | rfl | (simp; done) | (simp [*]; done), by repeat (first | exact Drawn0.refl _ | apply Drawn0.step)⟩

/-! ### postilionref01_until: function 35 -/
mutual
def postilionref01_until.l0 : Nat → ByteArray → ByteArray → Int → Option (ByteArray × ByteArray)
  | 0, _, _, _ => none
  | k + 1, x0, x1, x6 => if x6 < (x0.size : Int) then (postilionref01_until.l1 k x0 x1 x6 0) else (some (x0, (⟨#[]⟩ : ByteArray)))
def postilionref01_until.l1 : Nat → ByteArray → ByteArray → Int → Int → Option (ByteArray × ByteArray)
  | 0, _, _, _, _ => none
  | k + 1, x0, x1, x6, x7 => if x7 < (x1.size : Int) then (if 0 ≤ x6 then (if x6 < (x0.size : Int) then (if 0 ≤ x7 then (if (bt x0 x6) = (bt x1 x7) then (if x6 ≤ (x0.size : Int) then (some (x0.extract 0 (x6 : Int).toNat, x0.extract (x6 : Int).toNat x0.size)) else (none)) else (postilionref01_until.l1 k x0 x1 x6 (wrap64 (x7 + 1)))) else (none)) else (none)) else (none)) else (postilionref01_until.l0 k x0 x1 (wrap64 (x6 + 1)))
end
def postilionref01_until.f (k : Nat) (a0 : ByteArray) (a1 : ByteArray) : Option (ByteArray × ByteArray) := postilionref01_until.l0 k a0 a1 0
theorem postilionref01_until.mono_l : ∀ k, (∀ y0 y1 y2, LeO (postilionref01_until.l0 k y0 y1 y2) (postilionref01_until.l0 (k + 1) y0 y1 y2)) ∧ (∀ y0 y1 y2 y3, LeO (postilionref01_until.l1 k y0 y1 y2 y3) (postilionref01_until.l1 (k + 1) y0 y1 y2 y3))
  | 0 => ⟨fun _ _ _ r h => by simp [postilionref01_until.l0] at h, fun _ _ _ _ r h => by simp [postilionref01_until.l1] at h⟩
  | k + 1 => by
    obtain ⟨ih0, ih1⟩ := postilionref01_until.mono_l k
    refine ⟨?_, ?_⟩
    · intro y0 y1 y2
      unfold postilionref01_until.l0
      repeat' first
      | (with_reducible exact ih0 _ _ _)
      | (with_reducible exact ih1 _ _ _ _)
      | (with_reducible exact LeO.refl _)
      | (with_reducible exact LeO.none _)
      | (with_reducible refine LeO.ite ?_ ?_)
      | (with_reducible refine LeO.bind ?_ (fun _ => ?_))
      | exact ih0 _ _ _
      | exact ih1 _ _ _ _
      | exact LeO.none _
      | refine LeO.ite ?_ ?_
      | refine LeO.bind ?_ (fun _ => ?_)
    · intro y0 y1 y2 y3
      unfold postilionref01_until.l1
      repeat' first
      | (with_reducible exact ih0 _ _ _)
      | (with_reducible exact ih1 _ _ _ _)
      | (with_reducible exact LeO.refl _)
      | (with_reducible exact LeO.none _)
      | (with_reducible refine LeO.ite ?_ ?_)
      | (with_reducible refine LeO.bind ?_ (fun _ => ?_))
      | exact ih0 _ _ _
      | exact ih1 _ _ _ _
      | exact LeO.none _
      | refine LeO.ite ?_ ?_
      | refine LeO.bind ?_ (fun _ => ?_)
theorem postilionref01_until.mono : ∀ a0 a1 k, LeO (postilionref01_until.f k a0 a1) (postilionref01_until.f (k + 1) a0 a1) := by
  intro a0 a1 k
  obtain ⟨ih0, ih1⟩ := postilionref01_until.mono_l k
  unfold postilionref01_until.f
  repeat' first
      | (with_reducible exact ih0 _ _ _)
      | (with_reducible exact ih1 _ _ _ _)
      | (with_reducible exact LeO.refl _)
      | (with_reducible exact LeO.none _)
      | (with_reducible refine LeO.ite ?_ ?_)
      | (with_reducible refine LeO.bind ?_ (fun _ => ?_))
      | exact ih0 _ _ _
      | exact ih1 _ _ _ _
      | exact LeO.none _
      | refine LeO.ite ?_ ?_
      | refine LeO.bind ?_ (fun _ => ?_)
set_option maxHeartbeats 8000000 in
set_option maxRecDepth 100000 in
theorem postilionref01_until.calls (k : Nat) (a0 : ByteArray) (a1 : ByteArray) (r1 : ByteArray) (r2 : ByteArray) (w : World) (h : postilionref01_until.f k a0 a1 = some (r1, r2)) :
    Calls Tryd.prog 35 #[.string a0, .string a1] w fun e w' => e = .returned (.tuple #[.string r1, .string r2]) ∧ Drawn0 w w' := by
  have H : (postilionref01_until.l0 k a0 a1 0) = some (r1, r2) := h
  clear h
  have H' := Aside0.mk H
  clear H
  go_enter Tryd.func35, Tryd.ntmps35
  go_wp2
  repeat (go_quiet (fail); try go_wp2)
  go_loopg [6] k (fun kq v6 w' => ∃ (x6_1 : Int), v6 = .int .i64 x6_1 ∧ Aside0 (postilionref01_until.l0 kq a0 a1 x6_1 = some (r1, r2)) ∧ Aside0 (kq ≤ k) ∧ Drawn0 w w')
  case atStart => exact ⟨(0), (by first | rfl | (simp; done) | (simp [*]; done)), H', ⟨Nat.le_refl _⟩, by repeat (first | exact Drawn0.refl _ | apply Drawn0.step)⟩
  case round =>
    clear H'
    try clear p2
    obtain ⟨x6_1, rfl, HA, HK1, ⟨m1, rfl⟩⟩ := hrel
    cases gk with
    | zero => exact absurd HA.out (by simp [postilionref01_until.l0])
    | succ k1 =>
      have H := HA.out
      clear HA
      simp only [postilionref01_until.l0] at H
      by_cases c3 : x6_1 < (a0.size : Int)
      · rw [if_pos c3] at H
        have c3b0 : decide (x6_1 < (a0.size : Int)) = true := decide_eq_true c3
        clear c3
        have H' := Aside0.mk H
        clear H
        go_wp2
        repeat (go_quiet (fail); try go_wp2)
        go_loopg [7] k1 (fun kq v7 w' => ∃ (x7_2 : Int), v7 = .int .i64 x7_2 ∧ Aside0 (postilionref01_until.l1 kq a0 a1 x6_1 x7_2 = some (r1, r2)) ∧ Aside0 (kq ≤ k1) ∧ Drawn0 w w')
        case atStart => exact ⟨(0), (by first | rfl | (simp; done) | (simp [*]; done)), H', ⟨Nat.le_refl _⟩, by repeat (first | exact Drawn0.refl _ | apply Drawn0.step)⟩
        case round =>
          clear H'
          try clear p2
          try clear c3
          try clear c3b0
          try clear p2
          obtain ⟨x7_2, rfl, HA, HK2, ⟨m2, rfl⟩⟩ := hrel
          cases gk with
          | zero => exact absurd HA.out (by simp [postilionref01_until.l1])
          | succ k2 =>
            have H := HA.out
            clear HA
            simp only [postilionref01_until.l1] at H
            by_cases c4 : x7_2 < (a1.size : Int)
            · rw [if_pos c4] at H
              have c4b0 : decide (x7_2 < (a1.size : Int)) = true := decide_eq_true c4
              clear c4
              by_cases c5 : 0 ≤ x6_1
              · rw [if_pos c5] at H
                have c5b0 : decide (0 ≤ x6_1) = true := decide_eq_true c5
                clear c5
                by_cases c6 : x6_1 < (a0.size : Int)
                · rw [if_pos c6] at H
                  have c6b0 : decide (x6_1 < (a0.size : Int)) = true := decide_eq_true c6
                  clear c6
                  by_cases c8 : 0 ≤ x7_2
                  · rw [if_pos c8] at H
                    have c8b0 : decide (0 ≤ x7_2) = true := decide_eq_true c8
                    clear c8
                    by_cases c10 : (bt a0 x6_1) = (bt a1 x7_2)
                    · rw [if_pos c10] at H
                      have c10b0 : ((bt a0 x6_1) == (bt a1 x7_2)) = true := beq_iff_eq.mpr c10
                      have c10b1 : ((bt a0 x6_1) != (bt a1 x7_2)) = false := bne_eq_false_iff_eq.mpr c10
                      clear c10
                      have c11b0 := eq_true (of_decide_eq_true (by pw_d) : 0 ≤ x6_1)
                      by_cases c12 : x6_1 ≤ (a0.size : Int)
                      · rw [if_pos c12] at H
                        have c12b0 := eq_true c12
                        have c12b1 : decide (x6_1 ≤ (a0.size : Int)) = true := decide_eq_true c12
                        clear c12
                        have c13b0 := eq_true (of_decide_eq_true (by pw_d) : 0 ≤ x6_1)
                        have c14b0 := eq_true (of_decide_eq_true (by pw_d) : x6_1 ≤ (a0.size : Int))
                        simp only [Option.some.injEq, Prod.mk.injEq] at H
                        obtain ⟨rfl, rfl⟩ := H
                        have p7 : 0 ≤ (x6_1 : Int) := of_decide_eq_true (by pw_d)
                        have q7 : x6_1 < (a0.size : Int) := of_decide_eq_true (by pw_d)
                        have hx7 := bt_at a0 x6_1
                        replace p7 := eq_true p7
                        replace q7 := eq_true q7
                        have p9 : 0 ≤ (x7_2 : Int) := of_decide_eq_true (by pw_d)
                        have q9 : x7_2 < (a1.size : Int) := of_decide_eq_true (by pw_d)
                        have hx9 := bt_at a1 x7_2
                        replace p9 := eq_true p9
                        replace q9 := eq_true q9
                        go_wp2
                        repeat (go_quiet (fail); try go_wp2)
                        go_ret2
                        exact ⟨by first | rfl | (simp; done) | (simp [*]; done), by repeat (first | exact Drawn0.refl _ | apply Drawn0.step)⟩
                      · rw [if_neg c12] at H
                        exact absurd H (by simp)
                    · rw [if_neg c10] at H
                      have c10b0 : ((bt a0 x6_1) == (bt a1 x7_2)) = false := beq_eq_false_iff_ne.mpr c10
                      have c10b1 : ((bt a0 x6_1) != (bt a1 x7_2)) = true := bne_iff_ne.mpr c10
                      have H' := Aside0.mk H
                      clear H
                      have p7 : 0 ≤ (x6_1 : Int) := of_decide_eq_true (by pw_d)
                      have q7 : x6_1 < (a0.size : Int) := of_decide_eq_true (by pw_d)
                      have hx7 := bt_at a0 x6_1
                      replace p7 := eq_true p7
                      replace q7 := eq_true q7
                      have p9 : 0 ≤ (x7_2 : Int) := of_decide_eq_true (by pw_d)
                      have q9 : x7_2 < (a1.size : Int) := of_decide_eq_true (by pw_d)
                      have hx9 := bt_at a1 x7_2
                      replace p9 := eq_true p9
                      replace q9 := eq_true q9
                      go_wp2
                      repeat (go_quiet (fail); try go_wp2)
                      go_roundg k2
                      case measure => have := HK1.out; have := HK2.out; omega
                      case rel => exact ⟨(wrap64 (x7_2 + 1)), (by first | rfl | (simp; done) | (simp [*]; done)), H', ⟨by have := HK1.out; have := HK2.out; omega⟩, by repeat (first | exact Drawn0.refl _ | apply Drawn0.step)⟩
                  · rw [if_neg c8] at H
                    exact absurd H (by simp)
                · rw [if_neg c6] at H
                  exact absurd H (by simp)
              · rw [if_neg c5] at H
                exact absurd H (by simp)
            · rw [if_neg c4] at H
              have c4b0 : decide (x7_2 < (a1.size : Int)) = false := decide_eq_false c4
              clear c4
              have H' := Aside0.mk H
              clear H
              go_wp2
              repeat (go_quiet (fail); try go_wp2)
              go_roundg k2
              case measure => have := HK1.out; have := HK2.out; omega
              case rel => exact ⟨(wrap64 (x6_1 + 1)), (by first | rfl | (simp; done) | (simp [*]; done)), H', ⟨by have := HK1.out; have := HK2.out; omega⟩, by repeat (first | exact Drawn0.refl _ | apply Drawn0.step)⟩
      · rw [if_neg c3] at H
        have c3b0 : decide (x6_1 < (a0.size : Int)) = false := decide_eq_false c3
        clear c3
        simp only [Option.some.injEq, Prod.mk.injEq] at H
        obtain ⟨rfl, rfl⟩ := H
        go_wp2
        repeat (go_quiet (fail); try go_wp2)
        go_ret2
        exact ⟨by first | rfl | (simp; done) | (simp [*]; done), by repeat (first | exact Drawn0.refl _ | apply Drawn0.step)⟩

end Go.Proofs.YtiabjeeelgkneaaDoor.GPartTells
