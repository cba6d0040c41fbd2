-- Made by this session's changed copy of the kit's printer (wip/myprint). Not trusted: Lean checks it.
import Derived.Test.YtllblgjhoeopjaaDoorGReplyBackx0
import Derived.Test.YtllblgjhoeopjaaDoorGReplyBackx2
import Derived.Test.YtllblgjhoeopjaaDoorGReplyBackx5
import Derived.Test.YtllblgjhoeopjaaDoorGivP
namespace Go.Proofs.YtllblgjhoeopjaaDoor.GReplyBack
open Go.RowKit Go.Proofs.YtllblgjhoeopjaaDoor.GivP Go.Proofs.YtllblgjhoeopjaaDoor.Mw Go.Proofs.YtllblgjhoeopjaaDoorW.PrintWords Go.Proofs.YtllblgjhoeopjaaDoorW.PrintLast Go.Proofs.YtllblgjhoeopjaaDoorW.PrintMore
attribute [local go_sem] max2_int min2_int max_two min_two max_three min_three max_four min_four   -- for this text's walks alone
set_option linter.unusedVariables false
set_option linter.unusedSimpArgs false

/-! ### postilionlaw09_ReplyBack: function 11 -/
mutual
def postilionlaw09_ReplyBack.j0 : Nat → ByteArray → Int → Int → Bool → Int → List (S27) → ByteArray → Bool → Option (Bool)
  | 0, _, _, _, _, _, _, _, _ => none
  | k + 1, x1, x2, x3, x53, x173000, x173001, x173002, x173003 => if x53 = true then (some false) else ((postilionkeep_Within.f x2 (wrap64 ((x1.size : Int) + 9))).bind fun t183 => (postilionlaw09_ReplyBack.l0 k x1 t183 x3 (⟨#[]⟩ : ByteArray) t183 x173000 x173001 x173002 x173003))
def postilionlaw09_ReplyBack.l0 : Nat → ByteArray → Int → Int → ByteArray → Int → Int → List (S27) → ByteArray → Bool → Option (Bool)
  | 0, _, _, _, _, _, _, _, _, _ => none
  | k + 1, x1, x2, x3, x12, x13, x173000, x173001, x173002, x173003 => if x12.toList = ([] : List UInt8) then ((some (([(wrap64 (48 + (Int.tmod x13 10))) % 256] : List Int) : List Int)).bind fun y184 => (if (strOfNums y184).size + x12.size ≤ 9223372036854775807 then (postilionlaw09_ReplyBack.l0 k x1 x2 x3 ((strOfNums y184) ++ x12) (wrap64 (Int.tdiv x13 10)) x173000 x173001 x173002 x173003) else (none))) else (if x13 > 0 then ((some (([(wrap64 (48 + (Int.tmod x13 10))) % 256] : List Int) : List Int)).bind fun y187 => (if (strOfNums y187).size + x12.size ≤ 9223372036854775807 then (postilionlaw09_ReplyBack.l0 k x1 x2 x3 ((strOfNums y187) ++ x12) (wrap64 (Int.tdiv x13 10)) x173000 x173001 x173002 x173003) else (none))) else (if (x12.size : Int) > 6 then ((postilionlaw09_wakes.f k).bind fun t190 => (some t190)) else ((some (([(⟨#[67, 111, 110, 116, 101, 110, 116, 45, 76, 101, 110, 103, 116, 104]⟩ : ByteArray), (⟨#[99, 111, 110, 116, 101, 110, 116, 45, 108, 101, 110, 103, 116, 104]⟩ : ByteArray), (⟨#[67, 79, 78, 84, 69, 78, 84, 45, 76, 69, 78, 71, 84, 72]⟩ : ByteArray)] : List ByteArray) : List ByteArray)).bind fun y191 => ((postilionkeep_Within.f x3 3).bind fun t194 => (if 0 ≤ t194 then (if t194 < (y191.length : Int) then (if x173001.length < 4398046511104 then ((some (x173001 ++ [(⟨rdOf ByteArray.empty y191 t194, x12⟩ : S27)] : List (S27))).bind fun y196 => ((reply_Print.f k x173000 y196 x173002 x173003).bind fun t199 => ((reply_Parse.f k t199).bind fun bt200 => (if bt200.2.2.2.2 = 0 then (if (bt200.2.2.2.1 != (decide (x2 > (x1.size : Int)))) = true then (postilionlaw09_ReplyBack.j2 k true x173000 y196 x173002 x173003) else (if 0 ≤ (mn x2 (x1.size : Int)) then (if (mn x2 (x1.size : Int)) ≤ (x1.size : Int) then (postilionlaw09_ReplyBack.j2 k (bt200.2.2.1.toList != (x1.extract 0 ((mn x2 (x1.size : Int)) : Int).toNat).toList) x173000 y196 x173002 x173003) else (none)) else (none))) else (postilionlaw09_ReplyBack.j2 k true x173000 y196 x173002 x173003))))) else (none)) else (none)) else (none))))))
def postilionlaw09_ReplyBack.j2 : Nat → Bool → Int → List (S27) → ByteArray → Bool → Option (Bool)
  | 0, _, _, _, _, _ => none
  | k + 1, x119, x173000, x173001, x173002, x173003 => if x119 = true then (some false) else (if 1 < (x173001.length : Int) then (if x173001.length < 4398046511104 then ((reply_Print.f k x173000 (x173001 ++ [(⟨(rd_T27 x173001 1).f0, (rd_T27 x173001 1).f1⟩ : S27)]) x173002 x173003).bind fun t211 => ((reply_Parse.f k t211).bind fun bt212 => (if bt212.2.2.2.2 = 2 then ((postilionlaw09_wakes.f k).bind fun t219 => (some t219)) else (some false)))) else (none)) else (none))
end
def postilionlaw09_ReplyBack.f (k : Nat) (a0 : Int) (a1 : ByteArray) (a2 : Int) (a3 : Int) : Option (Bool) := (postilionkeep_Within.f a0 500).bind fun t168 => ((some (([(⟨(⟨#[101, 116, 97, 103]⟩ : ByteArray), (⟨#[120]⟩ : ByteArray)⟩ : S27)] : List (S27)) : List (S27))).bind fun y169 => ((reply_Print.f k (wrap64 (100 + t168)) y169 a1 false).bind fun t173 => ((reply_Parse.f k t173).bind fun bt174 => (if bt174.2.2.2.2 = 0 then (if bt174.1 = (wrap64 (100 + t168)) then (if bt174.2.2.1.toList = a1.toList then (if bt174.2.2.2.1 = true then (postilionlaw09_ReplyBack.j0 k a1 a2 a3 true (wrap64 (100 + t168)) y169 a1 false) else ((api_Head.f k bt174.2.1 y169).bind fun t182 => (postilionlaw09_ReplyBack.j0 k a1 a2 a3 (!t182) (wrap64 (100 + t168)) y169 a1 false))) else (postilionlaw09_ReplyBack.j0 k a1 a2 a3 true (wrap64 (100 + t168)) y169 a1 false)) else (postilionlaw09_ReplyBack.j0 k a1 a2 a3 true (wrap64 (100 + t168)) y169 a1 false)) else (postilionlaw09_ReplyBack.j0 k a1 a2 a3 true (wrap64 (100 + t168)) y169 a1 false)))))
theorem postilionlaw09_ReplyBack.mono_l : ∀ k, (∀ y0 y1 y2 y3 y4 y5 y6 y7, LeO (postilionlaw09_ReplyBack.j0 k y0 y1 y2 y3 y4 y5 y6 y7) (postilionlaw09_ReplyBack.j0 (k + 1) y0 y1 y2 y3 y4 y5 y6 y7)) ∧ (∀ y0 y1 y2 y3 y4 y5 y6 y7 y8, LeO (postilionlaw09_ReplyBack.l0 k y0 y1 y2 y3 y4 y5 y6 y7 y8) (postilionlaw09_ReplyBack.l0 (k + 1) y0 y1 y2 y3 y4 y5 y6 y7 y8)) ∧ (∀ y0 y1 y2 y3 y4, LeO (postilionlaw09_ReplyBack.j2 k y0 y1 y2 y3 y4) (postilionlaw09_ReplyBack.j2 (k + 1) y0 y1 y2 y3 y4))
  | 0 => ⟨fun _ _ _ _ _ _ _ _ r h => by simp [postilionlaw09_ReplyBack.j0] at h, fun _ _ _ _ _ _ _ _ _ r h => by simp [postilionlaw09_ReplyBack.l0] at h, fun _ _ _ _ _ r h => by simp [postilionlaw09_ReplyBack.j2] at h⟩
  | k + 1 => by
    obtain ⟨ih0, ih1, ih2⟩ := postilionlaw09_ReplyBack.mono_l k
    refine ⟨?_, ?_, ?_⟩
    · intro y0 y1 y2 y3 y4 y5 y6 y7
      unfold postilionlaw09_ReplyBack.j0
      repeat' first
      | (with_reducible exact ih0 _ _ _ _ _ _ _ _)
      | (with_reducible exact ih1 _ _ _ _ _ _ _ _ _)
      | (with_reducible exact ih2 _ _ _ _ _)
      | (with_reducible exact api_Head.mono _ _ _)
      | (with_reducible exact postilionlaw09_wakes.mono _)
      | (with_reducible exact reply_Parse.mono _ _)
      | (with_reducible exact reply_Print.mono _ _ _ _ _)
      | (with_reducible exact LeO.refl _)
      | (with_reducible exact LeO.none _)
      | (with_reducible refine LeO.ite ?_ ?_)
      | (with_reducible refine LeO.bind ?_ (fun _ => ?_))
      | exact ih0 _ _ _ _ _ _ _ _
      | exact ih1 _ _ _ _ _ _ _ _ _
      | exact ih2 _ _ _ _ _
      | exact api_Head.mono _ _ _
      | exact postilionlaw09_wakes.mono _
      | exact reply_Parse.mono _ _
      | exact reply_Print.mono _ _ _ _ _
      | exact LeO.none _
      | refine LeO.ite ?_ ?_
      | refine LeO.bind ?_ (fun _ => ?_)
    · intro y0 y1 y2 y3 y4 y5 y6 y7 y8
      unfold postilionlaw09_ReplyBack.l0
      repeat' first
      | (with_reducible exact ih0 _ _ _ _ _ _ _ _)
      | (with_reducible exact ih1 _ _ _ _ _ _ _ _ _)
      | (with_reducible exact ih2 _ _ _ _ _)
      | (with_reducible exact api_Head.mono _ _ _)
      | (with_reducible exact postilionlaw09_wakes.mono _)
      | (with_reducible exact reply_Parse.mono _ _)
      | (with_reducible exact reply_Print.mono _ _ _ _ _)
      | (with_reducible exact LeO.refl _)
      | (with_reducible exact LeO.none _)
      | (with_reducible refine LeO.ite ?_ ?_)
      | (with_reducible refine LeO.bind ?_ (fun _ => ?_))
      | exact ih0 _ _ _ _ _ _ _ _
      | exact ih1 _ _ _ _ _ _ _ _ _
      | exact ih2 _ _ _ _ _
      | exact api_Head.mono _ _ _
      | exact postilionlaw09_wakes.mono _
      | exact reply_Parse.mono _ _
      | exact reply_Print.mono _ _ _ _ _
      | exact LeO.none _
      | refine LeO.ite ?_ ?_
      | refine LeO.bind ?_ (fun _ => ?_)
    · intro y0 y1 y2 y3 y4
      unfold postilionlaw09_ReplyBack.j2
      repeat' first
      | (with_reducible exact ih0 _ _ _ _ _ _ _ _)
      | (with_reducible exact ih1 _ _ _ _ _ _ _ _ _)
      | (with_reducible exact ih2 _ _ _ _ _)
      | (with_reducible exact api_Head.mono _ _ _)
      | (with_reducible exact postilionlaw09_wakes.mono _)
      | (with_reducible exact reply_Parse.mono _ _)
      | (with_reducible exact reply_Print.mono _ _ _ _ _)
      | (with_reducible exact LeO.refl _)
      | (with_reducible exact LeO.none _)
      | (with_reducible refine LeO.ite ?_ ?_)
      | (with_reducible refine LeO.bind ?_ (fun _ => ?_))
      | exact ih0 _ _ _ _ _ _ _ _
      | exact ih1 _ _ _ _ _ _ _ _ _
      | exact ih2 _ _ _ _ _
      | exact api_Head.mono _ _ _
      | exact postilionlaw09_wakes.mono _
      | exact reply_Parse.mono _ _
      | exact reply_Print.mono _ _ _ _ _
      | exact LeO.none _
      | refine LeO.ite ?_ ?_
      | refine LeO.bind ?_ (fun _ => ?_)
theorem postilionlaw09_ReplyBack.mono : ∀ a0 a1 a2 a3 k, LeO (postilionlaw09_ReplyBack.f k a0 a1 a2 a3) (postilionlaw09_ReplyBack.f (k + 1) a0 a1 a2 a3) := by
  intro a0 a1 a2 a3 k
  obtain ⟨ih0, ih1, ih2⟩ := postilionlaw09_ReplyBack.mono_l k
  unfold postilionlaw09_ReplyBack.f
  repeat' first
      | (with_reducible exact ih0 _ _ _ _ _ _ _ _)
      | (with_reducible exact ih1 _ _ _ _ _ _ _ _ _)
      | (with_reducible exact ih2 _ _ _ _ _)
      | (with_reducible exact api_Head.mono _ _ _)
      | (with_reducible exact postilionlaw09_wakes.mono _)
      | (with_reducible exact reply_Parse.mono _ _)
      | (with_reducible exact reply_Print.mono _ _ _ _ _)
      | (with_reducible exact LeO.refl _)
      | (with_reducible exact LeO.none _)
      | (with_reducible refine LeO.ite ?_ ?_)
      | (with_reducible refine LeO.bind ?_ (fun _ => ?_))
      | exact ih0 _ _ _ _ _ _ _ _
      | exact ih1 _ _ _ _ _ _ _ _ _
      | exact ih2 _ _ _ _ _
      | exact api_Head.mono _ _ _
      | exact postilionlaw09_wakes.mono _
      | exact reply_Parse.mono _ _
      | exact reply_Print.mono _ _ _ _ _
      | exact LeO.none _
      | refine LeO.ite ?_ ?_
      | refine LeO.bind ?_ (fun _ => ?_)
def postilionlaw09_ReplyBack.T13 : Bool × List (List Nat × List Nat) := (true, [([], []), ([0], [0]), ([], []), ([], []), ([3], [3]), ([2, 4], [2, 4]), ([5], [5]), ([], []), ([6, 7], [6, 7]), ([8], [8]), ([1, 9, 4], [1, 9]), ([0, 1, 2, 3, 4, 5, 6, 7, 8, 9, 10], []), ([11, 10, 10, 0, 1, 2, 3, 4, 5, 6, 7, 8, 9, 10], [10, 11])])
def postilionlaw09_ReplyBack.B13 : List Nat := [0, 1, 0, 0, 8, 28, 60, 0, 252, 508, 1023, 2047, 4095]
theorem postilionlaw09_ReplyBack.tab13 : rtab .any (opsOf Tryd.f11 13) = postilionlaw09_ReplyBack.T13 := by kernel_rfl
theorem postilionlaw09_ReplyBack.bits13 : waitsOk postilionlaw09_ReplyBack.T13.2 postilionlaw09_ReplyBack.B13 = true := by kernel_rfl
def postilionlaw09_ReplyBack.T15 : Bool × List (List Nat × List Nat) := (true, [([], []), ([0], [0]), ([1], [1]), ([2], [2]), ([3, 2], [2, 3]), ([2], [2]), ([2], [2]), ([6, 2], [2, 6]), ([5, 7, 2], [2, 5, 7]), ([4, 8, 2], [2, 4, 8]), ([2, 9], [2, 9]), ([10, 2], [10]), ([11], [11]), ([12, 11], [11, 12]), ([11], [11]), ([11], [11]), ([11], [11]), ([16, 11], [11, 16]), ([15, 17, 11], [11, 15, 17]), ([14, 18, 11], [11, 14, 18]), ([13, 19, 11], [11, 13, 19]), ([11, 20], [11, 20])])
def postilionlaw09_ReplyBack.B15 : List Nat := [0, 1, 3, 7, 15, 7, 7, 71, 231, 511, 1023, 2047, 4095, 8191, 4095, 4095, 4095, 69631, 233471, 511999, 1048575, 2097151]
theorem postilionlaw09_ReplyBack.tab15 : rtab .any (opsOf Tryd.f11 15) = postilionlaw09_ReplyBack.T15 := by kernel_rfl
theorem postilionlaw09_ReplyBack.bits15 : waitsOk postilionlaw09_ReplyBack.T15.2 postilionlaw09_ReplyBack.B15 = true := by kernel_rfl
def postilionlaw09_ReplyBack.T17 : Bool × List (List Nat × List Nat) := (true, [([], []), ([0], [0]), ([], []), ([2], [2]), ([3], [3]), ([4], [4]), ([5], [5]), ([1, 6], [1, 6]), ([0, 1, 2, 3, 4, 5, 6, 7], []), ([8, 7, 7, 0, 1, 2, 3, 4, 5, 6, 7], [7, 8])])
def postilionlaw09_ReplyBack.B17 : List Nat := [0, 1, 0, 4, 12, 28, 60, 127, 255, 511]
theorem postilionlaw09_ReplyBack.tab17 : rtab .any (opsOf Tryd.f11 17) = postilionlaw09_ReplyBack.T17 := by kernel_rfl
theorem postilionlaw09_ReplyBack.bits17 : waitsOk postilionlaw09_ReplyBack.T17.2 postilionlaw09_ReplyBack.B17 = true := by kernel_rfl
set_option maxHeartbeats 8000000 in
set_option maxRecDepth 100000 in
theorem postilionlaw09_ReplyBack.calls (k : Nat) (a0 : Int) (a1 : ByteArray) (a2 : Int) (a3 : Int) (r : Bool) (w : World) (hG : Gl w) (hT : r = true) (h : postilionlaw09_ReplyBack.f k a0 a1 a2 a3 = some r) :
    Calls Tryd.prog 11 #[.int .i64 a0, .string a1, .int .i64 a2, .int .i64 a3] w fun e w' => e = .returned (.bool r) ∧ Below w.heap.size w w' := by
  have hu27 := Tryd.underlying27
  have hu29 := Tryd.underlying29
  have HB := Aside0.mk (Below.refl w.heap.size w)
  have H : ((postilionkeep_Within.f a0 500).bind fun t168 => ((some (([(⟨(⟨#[101, 116, 97, 103]⟩ : ByteArray), (⟨#[120]⟩ : ByteArray)⟩ : S27)] : List (S27)) : List (S27))).bind fun y169 => ((reply_Print.f k (wrap64 (100 + t168)) y169 a1 false).bind fun t173 => ((reply_Parse.f k t173).bind fun bt174 => (if bt174.2.2.2.2 = 0 then (if bt174.1 = (wrap64 (100 + t168)) then (if bt174.2.2.1.toList = a1.toList then (if bt174.2.2.2.1 = true then (postilionlaw09_ReplyBack.j0 k a1 a2 a3 true (wrap64 (100 + t168)) y169 a1 false) else ((api_Head.f k bt174.2.1 y169).bind fun t182 => (postilionlaw09_ReplyBack.j0 k a1 a2 a3 (!t182) (wrap64 (100 + t168)) y169 a1 false))) else (postilionlaw09_ReplyBack.j0 k a1 a2 a3 true (wrap64 (100 + t168)) y169 a1 false)) else (postilionlaw09_ReplyBack.j0 k a1 a2 a3 true (wrap64 (100 + t168)) y169 a1 false)) else (postilionlaw09_ReplyBack.j0 k a1 a2 a3 true (wrap64 (100 + t168)) y169 a1 false)))))) = some r := h
  clear h
  replace H := Option.bind_eq_some_iff.mp H
  obtain ⟨t168, A50, H⟩ := H
  replace H : ((some (([(⟨(⟨#[101, 116, 97, 103]⟩ : ByteArray), (⟨#[120]⟩ : ByteArray)⟩ : S27)] : List (S27)) : List (S27))).bind fun y169 => ((reply_Print.f k (wrap64 (100 + t168)) y169 a1 false).bind fun t173 => ((reply_Parse.f k t173).bind fun bt174 => (if bt174.2.2.2.2 = 0 then (if bt174.1 = (wrap64 (100 + t168)) then (if bt174.2.2.1.toList = a1.toList then (if bt174.2.2.2.1 = true then (postilionlaw09_ReplyBack.j0 k a1 a2 a3 true (wrap64 (100 + t168)) y169 a1 false) else ((api_Head.f k bt174.2.1 y169).bind fun t182 => (postilionlaw09_ReplyBack.j0 k a1 a2 a3 (!t182) (wrap64 (100 + t168)) y169 a1 false))) else (postilionlaw09_ReplyBack.j0 k a1 a2 a3 true (wrap64 (100 + t168)) y169 a1 false)) else (postilionlaw09_ReplyBack.j0 k a1 a2 a3 true (wrap64 (100 + t168)) y169 a1 false)) else (postilionlaw09_ReplyBack.j0 k a1 a2 a3 true (wrap64 (100 + t168)) y169 a1 false))))) = some r := H
  have A5 := Aside0.mk A50
  clear A50
  obtain ⟨y169, hy169⟩ : ∃ y_ : List (S27), y_ = (([(⟨(⟨#[101, 116, 97, 103]⟩ : ByteArray), (⟨#[120]⟩ : ByteArray)⟩ : S27)] : List (S27))) := ⟨_, rfl⟩
  replace H : ((reply_Print.f k (wrap64 (100 + t168)) y169 a1 false).bind fun t173 => ((reply_Parse.f k t173).bind fun bt174 => (if bt174.2.2.2.2 = 0 then (if bt174.1 = (wrap64 (100 + t168)) then (if bt174.2.2.1.toList = a1.toList then (if bt174.2.2.2.1 = true then (postilionlaw09_ReplyBack.j0 k a1 a2 a3 true (wrap64 (100 + t168)) y169 a1 false) else ((api_Head.f k bt174.2.1 y169).bind fun t182 => (postilionlaw09_ReplyBack.j0 k a1 a2 a3 (!t182) (wrap64 (100 + t168)) y169 a1 false))) else (postilionlaw09_ReplyBack.j0 k a1 a2 a3 true (wrap64 (100 + t168)) y169 a1 false)) else (postilionlaw09_ReplyBack.j0 k a1 a2 a3 true (wrap64 (100 + t168)) y169 a1 false)) else (postilionlaw09_ReplyBack.j0 k a1 a2 a3 true (wrap64 (100 + t168)) y169 a1 false)))) = some r := by first | (rw [hy169]; with_reducible exact H) | (have H2_ := (Option.bind_some _ _).symm.trans H; rw [hy169]; with_reducible exact H2_) | (have H2_ := (Option.bind_some _ _).symm.trans H; with_reducible exact H2_) | with_reducible exact H | (rw [hy169]; exact H) | exact H
  have Ny169 := Aside0.mk hy169
  clear hy169
  replace H := Option.bind_eq_some_iff.mp H
  obtain ⟨t173, A60, H⟩ := H
  replace H : ((reply_Parse.f k t173).bind fun bt174 => (if bt174.2.2.2.2 = 0 then (if bt174.1 = (wrap64 (100 + t168)) then (if bt174.2.2.1.toList = a1.toList then (if bt174.2.2.2.1 = true then (postilionlaw09_ReplyBack.j0 k a1 a2 a3 true (wrap64 (100 + t168)) y169 a1 false) else ((api_Head.f k bt174.2.1 y169).bind fun t182 => (postilionlaw09_ReplyBack.j0 k a1 a2 a3 (!t182) (wrap64 (100 + t168)) y169 a1 false))) else (postilionlaw09_ReplyBack.j0 k a1 a2 a3 true (wrap64 (100 + t168)) y169 a1 false)) else (postilionlaw09_ReplyBack.j0 k a1 a2 a3 true (wrap64 (100 + t168)) y169 a1 false)) else (postilionlaw09_ReplyBack.j0 k a1 a2 a3 true (wrap64 (100 + t168)) y169 a1 false))) = some r := H
  have A6 := Aside0.mk A60
  clear A60
  replace H := Option.bind_eq_some_iff.mp H
  obtain ⟨⟨t174, t175, t178, t179, t180⟩, A70, H⟩ := H
  replace H : (if t180 = 0 then (if t174 = (wrap64 (100 + t168)) then (if t178.toList = a1.toList then (if t179 = true then (postilionlaw09_ReplyBack.j0 k a1 a2 a3 true (wrap64 (100 + t168)) y169 a1 false) else ((api_Head.f k t175 y169).bind fun t182 => (postilionlaw09_ReplyBack.j0 k a1 a2 a3 (!t182) (wrap64 (100 + t168)) y169 a1 false))) else (postilionlaw09_ReplyBack.j0 k a1 a2 a3 true (wrap64 (100 + t168)) y169 a1 false)) else (postilionlaw09_ReplyBack.j0 k a1 a2 a3 true (wrap64 (100 + t168)) y169 a1 false)) else (postilionlaw09_ReplyBack.j0 k a1 a2 a3 true (wrap64 (100 + t168)) y169 a1 false)) = some r := H
  have A7 := Aside0.mk A70
  clear A70
  have HC8 := Aside0.mk H
  clear H
  go_enter Tryd.func11, Tryd.ntmps11
  go_upto_region 3 with (first | ((with_reducible refine gate_callee (f := 12) rfl ?_); refine goesL_ (some 15) rfl rfl Tryd.func12 (by kernel_rfl) rfl #[.int .i64 a0, .int .i64 500] rfl (by (try simp only [List.map_toArray, List.map_cons, List.map_nil]); first | done | rfl | (simp only [List.length_drop, List.length_take]; rfl)) ?_; (with_reducible refine (postilionkeep_Within.calls a0 500 t168 _ A5.out).mono ?_); rintro e w' ⟨rfl, ⟨nd, rfl⟩⟩; refine ⟨_, rfl, ?_⟩) | ((with_reducible refine gate_dst (N := 18) rfl ?_); (try (refine gate_guard (by rfl) ?_; dsimp only)); refine Kd.R_lit k27 _ 27 ?hg (N := 18) ?hd (xs := ([(⟨(⟨#[101, 116, 97, 103]⟩ : ByteArray), (⟨#[120]⟩ : ByteArray)⟩ : S27)] : List (S27))) (inner := [.string (⟨#[101, 116, 97, 103]⟩ : ByteArray), .string (⟨#[120]⟩ : ByteArray)]) (ok := fun _ => True) (okp := fun _ => True) ?hr ?hp (fun _ hk => hk) trivial (Below.refl _ _) (Nat.le_refl _) (by simp) ?_; (case hd => rfl); (case hg => rfl); (case hr => first | (go_simp; done) | (go_simp; rfl)); (case hp => exact (Reps.c2 (show Kd.M k27 _ _ _ (⟨(⟨#[101, 116, 97, 103]⟩ : ByteArray), (⟨#[120]⟩ : ByteArray)⟩ : S27) [.string (⟨#[101, 116, 97, 103]⟩ : ByteArray), .string (⟨#[120]⟩ : ByteArray)] from (k27_mkM _ _ _ (⟨(⟨#[101, 116, 97, 103]⟩ : ByteArray), (⟨#[120]⟩ : ByteArray)⟩ : S27) )) (Reps.none _ _))); intro v170 w9 ho10 hb hg_ hnew_; clear hg_ hnew_; (first | rw [← Ny169.out] at ho10 | (simp only [Int.reduceToNat] at ho10; rw [← Ny169.out] at ho10)); have n0_ := Aside0.mk (Kd.R_lower ho10 (below_size (by repeat (first | (with_reducible first | exact HB.out | apply below_alloc | apply pw_below_drewN | apply below_drew1) | exact HB.out)))); have n1_ := Aside0.mk (below_step (by repeat (first | (with_reducible first | exact HB.out | apply below_alloc | apply pw_below_drewN | apply below_drew1) | exact HB.out)) hb); clear HB; have HO171 := n0_; have HB := n1_; clear n0_ n1_; clear hb ho10; obtain ⟨Ao11, co11, eo11⟩ := Kd.R_slice HO171.out; subst eo11) | ((with_reducible refine gate_dst (N := 9) rfl ?_); (try (refine gate_guard (by rfl) ?_; dsimp only)); refine box_event ?hg (N := 9) ?hd (cs := #[.int .i64 0, .slice none 0 0, .string (⟨#[]⟩ : ByteArray), .bool false]) (t := 29) ?hr ?_; (case hd => rfl); (case hg => rfl); (case hr => first | (go_simp; done) | (go_simp; rfl)); intro gb172 hg w12 hbox hb; have n0_ := Aside0.mk (Kd.R_below (by (with_reducible repeat (first | apply Kd.R_alloc | apply Kd.R_drewN | apply Kd.R_drew)); exact HO171.out) hb); have n1_ := Aside0.mk (below_step (by repeat (first | (with_reducible first | exact HB.out | apply below_alloc | apply pw_below_drewN | apply below_drew1) | exact HB.out)) hb); have n2_ := Aside0.mk (hbox); have n3_ := Aside0.mk ((by rw [hg]; exact (below_size (by repeat (first | (with_reducible first | exact HB.out | apply below_alloc | apply pw_below_drewN | apply below_drew1) | exact HB.out))) : w.heap.size ≤ gb172)); have n4_ := Aside0.mk ((by rw [hg]; exact (below_size (by repeat (first | (with_reducible first | exact HB.out | apply below_alloc | apply pw_below_drewN | apply below_drew1) | exact HB.out))) : w.heap.size ≤ gb172)); clear HO171; clear HB; have HO171 := n0_; have HB := n1_; have BK172 := n2_; have GW172 := n3_; have GE172 := n4_; clear n0_ n1_ n2_ n3_ n4_; clear hb hbox hg; have hcz13_0 : w12.cell? ⟨gb172, 0, none⟩ = some (.int .i64 0) := (blk_cell BK172.out 0).trans rfl; have hcz13_1 : w12.cell? ⟨gb172, 1, none⟩ = some (.slice none 0 0) := (blk_cell BK172.out 1).trans rfl; have hcz13_2 : w12.cell? ⟨gb172, 2, none⟩ = some (.string (⟨#[]⟩ : ByteArray)) := (blk_cell BK172.out 2).trans rfl; have hcz13_3 : w12.cell? ⟨gb172, 3, none⟩ = some (.bool false) := (blk_cell BK172.out 3).trans rfl; have hfz13_0 := blk_frozen BK172.out 0; have hfz13_1 := blk_frozen BK172.out 1; have hfz13_2 := blk_frozen BK172.out 2; have hfz13_3 := blk_frozen BK172.out 3) | ((with_reducible refine gate_callee (f := 29) rfl ?_); refine goesL_ (some 23) rfl rfl Tryd.func29 (by kernel_rfl) rfl #[.agg #[.int .i64 (wrap64 (100 + t168)), .slice Ao11 y169.length co11, .string a1, .bool false]] rfl (by (try simp only [List.map_toArray, List.map_cons, List.map_nil]); first | done | rfl | (simp only [List.length_drop, List.length_take]; rfl)) ?_; (with_reducible refine (reply_Print.calls k (wrap64 (100 + t168)) _ _ y169 a1 false t173 _ ?side1 ?side2 ?side3 A6.out).mono ?_); (case side1 => exact Gl.below hG (by repeat (first | (with_reducible first | exact HB.out | apply below_alloc | apply pw_below_drewN | apply below_drew1 | refine below_set ?_ GE172.out) | exact HB.out))); (case side2 => refine (Kd.R_reads' (e := 27) (base := w.heap.size) (ok := fun k_ => True) (n := y169.length) (c := co11) ?_).2.2; exact (by (with_reducible repeat (first | apply Kd.R_alloc | apply Kd.R_drewN | apply Kd.R_drew)); exact (Kd.R_mono (Kd.R_far (p := ⟨gb172, 3, none⟩) (Kd.R_far (p := ⟨gb172, 2, none⟩) (Kd.R_far (p := ⟨gb172, 1, none⟩) (Kd.R_far (p := ⟨gb172, 0, none⟩) (Kd.R_types HO171.out BK172.out (by decide)) (fun _ hk => hk.2) (.int .i64 (wrap64 (100 + t168)))) (fun _ hk => hk.2) (.slice Ao11 y169.length co11)) (fun _ hk => hk.2) (.string a1)) (fun _ hk => hk.2) (.bool false)) (fun _ h_ => h_.1)))); (case side3 => exact (Kd.R_reads' HO171.out).2.1); rintro e w14 ⟨rfl, hb⟩; refine ⟨_, rfl, ?_⟩; have n0_ := Aside0.mk (Kd.R_below (by (with_reducible repeat (first | apply Kd.R_alloc | apply Kd.R_drewN | apply Kd.R_drew)); exact (Kd.R_mono (Kd.R_far (p := ⟨gb172, 3, none⟩) (Kd.R_far (p := ⟨gb172, 2, none⟩) (Kd.R_far (p := ⟨gb172, 1, none⟩) (Kd.R_far (p := ⟨gb172, 0, none⟩) (Kd.R_types HO171.out BK172.out (by decide)) (fun _ hk => hk.2) (.int .i64 (wrap64 (100 + t168)))) (fun _ hk => hk.2) (.slice Ao11 y169.length co11)) (fun _ hk => hk.2) (.string a1)) (fun _ hk => hk.2) (.bool false)) (fun _ h_ => h_.1))) hb); have n1_ := Aside0.mk (blk_below (g := gb172) (o := .cells #[.int .i64 (wrap64 (100 + t168)), .slice Ao11 y169.length co11, .string a1, .bool false] 29 (0, 0)) (by (with_reducible repeat (first | refine blk_drewN ?_ _ | refine blk_drew ?_ | refine blk_alloc ?_ _)); refine blk_put (cs := #[.int .i64 (wrap64 (100 + t168)), .slice Ao11 y169.length co11, .string a1, .bool false]) ?_ 3 _ rfl; (with_reducible repeat (first | refine blk_drewN ?_ _ | refine blk_drew ?_ | refine blk_alloc ?_ _)); refine blk_put (cs := #[.int .i64 (wrap64 (100 + t168)), .slice Ao11 y169.length co11, .string (⟨#[]⟩ : ByteArray), .bool false]) ?_ 2 _ rfl; (with_reducible repeat (first | refine blk_drewN ?_ _ | refine blk_drew ?_ | refine blk_alloc ?_ _)); refine blk_put (cs := #[.int .i64 (wrap64 (100 + t168)), .slice none 0 0, .string (⟨#[]⟩ : ByteArray), .bool false]) ?_ 1 _ rfl; (with_reducible repeat (first | refine blk_drewN ?_ _ | refine blk_drew ?_ | refine blk_alloc ?_ _)); refine blk_put (cs := #[.int .i64 0, .slice none 0 0, .string (⟨#[]⟩ : ByteArray), .bool false]) ?_ 0 _ rfl; (with_reducible repeat (first | refine blk_drewN ?_ _ | refine blk_drew ?_ | refine blk_alloc ?_ _)); exact BK172.out) hb); have n2_ := Aside0.mk (below_step (by repeat (first | (with_reducible first | exact HB.out | apply below_alloc | apply pw_below_drewN | apply below_drew1 | refine below_set ?_ GE172.out) | exact HB.out)) hb); clear HO171; clear BK172; clear HB; have HO171 := n0_; have BK172 := n1_; have HB := n2_; clear n0_ n1_ n2_; (try clear hb); (try clear hb2); (try clear hk); (try clear hi)) | ((with_reducible refine gate_callee (f := 13) rfl ?_); refine goesL_ (some 24) rfl rfl Tryd.func13 (by kernel_rfl) rfl #[.string t173] rfl (by (try simp only [List.map_toArray, List.map_cons, List.map_nil]); first | done | rfl | (simp only [List.length_drop, List.length_take]; rfl)) ?_; (with_reducible refine (reply_Parse.calls k t173 t174 t175 t178 t179 t180 _ ?side1 A7.out).mono ?_); (case side1 => exact Gl.below hG (by repeat (first | (with_reducible first | exact HB.out | apply below_alloc | apply pw_below_drewN | apply below_drew1 | refine below_set ?_ GE172.out) | exact HB.out))); rintro e w15 ⟨v176, rfl, ho0, hb⟩; refine ⟨_, rfl, ?_⟩; have n0_ := Aside0.mk (Kd.R_elder' (by (with_reducible repeat (first | apply Kd.R_alloc | apply Kd.R_drewN | apply Kd.R_drew)); exact HO171.out) (Kd.R_base ho0) hb); have n1_ := Aside0.mk (Kd.R_lower (Kd.R_new' ho0 (Kd.R_lt (by (with_reducible repeat (first | apply Kd.R_alloc | apply Kd.R_drewN | apply Kd.R_drew)); exact HO171.out))) (below_size (by repeat (first | (with_reducible first | exact HB.out | apply below_alloc | apply pw_below_drewN | apply below_drew1 | refine below_set ?_ GE172.out) | exact HB.out)))); have n2_ := Aside0.mk (blk_below (g := gb172) (o := .cells #[.int .i64 (wrap64 (100 + t168)), .slice Ao11 y169.length co11, .string a1, .bool false] 29 (0, 0)) (by (with_reducible repeat (first | refine blk_drewN ?_ _ | refine blk_drew ?_ | refine blk_alloc ?_ _)); exact BK172.out) hb); have n3_ := Aside0.mk (below_step (by repeat (first | (with_reducible first | exact HB.out | apply below_alloc | apply pw_below_drewN | apply below_drew1 | refine below_set ?_ GE172.out) | exact HB.out)) hb); clear HO171; clear BK172; clear HB; have HO171 := n0_; have HO177 := n1_; have BK172 := n2_; have HB := n3_; clear n0_ n1_ n2_ n3_; (try clear hb); (try clear hb2); (try clear hk); (try clear hi); (try clear ho0)) | ((with_reducible refine gate_dst (N := 10) rfl ?_); (try (refine gate_guard (by rfl) ?_; dsimp only)); refine box_event ?hg (N := 10) ?hd (cs := #[.int .i64 0, .slice none 0 0, .string (⟨#[]⟩ : ByteArray), .bool false]) (t := 29) ?hr ?_; (case hd => rfl); (case hg => rfl); (case hr => first | (go_simp; done) | (go_simp; rfl)); intro gb181 hg w16 hbox hb; have n0_ := Aside0.mk (Kd.R_below (by (with_reducible repeat (first | apply Kd.R_alloc | apply Kd.R_drewN | apply Kd.R_drew)); exact HO171.out) hb); have n1_ := Aside0.mk (Kd.R_below (by (with_reducible repeat (first | apply Kd.R_alloc | apply Kd.R_drewN | apply Kd.R_drew)); exact HO177.out) hb); have n2_ := Aside0.mk (blk_below (g := gb172) (o := .cells #[.int .i64 (wrap64 (100 + t168)), .slice Ao11 y169.length co11, .string a1, .bool false] 29 (0, 0)) (by (with_reducible repeat (first | refine blk_drewN ?_ _ | refine blk_drew ?_ | refine blk_alloc ?_ _)); exact BK172.out) hb); have n3_ := Aside0.mk (below_step (by repeat (first | (with_reducible first | exact HB.out | apply below_alloc | apply pw_below_drewN | apply below_drew1 | refine below_set ?_ GE172.out) | exact HB.out)) hb); have n4_ := Aside0.mk (hbox); have n5_ := Aside0.mk ((by rw [hg]; exact (below_size (by repeat (first | (with_reducible first | exact HB.out | apply below_alloc | apply pw_below_drewN | apply below_drew1 | refine below_set ?_ GE172.out) | exact HB.out))) : w.heap.size ≤ gb181)); have n6_ := Aside0.mk ((by rw [hg]; exact (below_size (by repeat (first | (with_reducible first | exact HB.out | apply below_alloc | apply pw_below_drewN | apply below_drew1 | refine below_set ?_ GE172.out) | exact HB.out))) : w.heap.size ≤ gb181)); have n7_ := Aside0.mk ((by rw [hg]; exact Nat.ne_of_lt (blk_lt (g := gb172) (o := .cells #[.int .i64 (wrap64 (100 + t168)), .slice Ao11 y169.length co11, .string a1, .bool false] 29 (0, 0)) (by (with_reducible repeat (first | refine blk_drewN ?_ _ | refine blk_drew ?_ | refine blk_alloc ?_ _)); exact BK172.out)) : gb172 ≠ gb181)); have n8_ := Aside0.mk ((by rw [hg]; exact Nat.ne_of_gt (blk_lt (g := gb172) (o := .cells #[.int .i64 (wrap64 (100 + t168)), .slice Ao11 y169.length co11, .string a1, .bool false] 29 (0, 0)) (by (with_reducible repeat (first | refine blk_drewN ?_ _ | refine blk_drew ?_ | refine blk_alloc ?_ _)); exact BK172.out)) : gb181 ≠ gb172)); clear HO171; clear HO177; clear BK172; clear HB; have HO171 := n0_; have HO177 := n1_; have BK172 := n2_; have HB := n3_; have BK181 := n4_; have GW181 := n5_; have GE181 := n6_; have NB172_181 := n7_; have NB181_172 := n8_; clear n0_ n1_ n2_ n3_ n4_ n5_ n6_ n7_ n8_; clear hb hbox hg; have hnb17 := NB181_172.out; have hnc17 := NB172_181.out; have hcz18_0 : w16.cell? ⟨gb181, 0, none⟩ = some (.int .i64 0) := (blk_cell BK181.out 0).trans rfl; have hcz18_1 : w16.cell? ⟨gb181, 1, none⟩ = some (.slice none 0 0) := (blk_cell BK181.out 1).trans rfl; have hcz18_2 : w16.cell? ⟨gb181, 2, none⟩ = some (.string (⟨#[]⟩ : ByteArray)) := (blk_cell BK181.out 2).trans rfl; have hcz18_3 : w16.cell? ⟨gb181, 3, none⟩ = some (.bool false) := (blk_cell BK181.out 3).trans rfl; have hfz18_0 := blk_frozen BK181.out 0; have hfz18_1 := blk_frozen BK181.out 1; have hfz18_2 := blk_frozen BK181.out 2; have hfz18_3 := blk_frozen BK181.out 3; obtain ⟨Ao19, co19, eo19⟩ := Kd.R_slice HO177.out; subst eo19))
  (try simp only [Act.put, List.setIfInBounds_toArray, List.set_cons_zero, List.set_cons_succ])
  go_cut [53] (fun v53 wc => ∃ (kq : Nat) (x53_7 : Bool), v53 = .bool x53_7 ∧ Aside0 (postilionlaw09_ReplyBack.j0 kq a1 a2 a3 x53_7 (wrap64 (100 + t168)) y169 a1 false = some r) ∧ Aside0 (kq ≤ k) ∧ Aside0 (Kd.R k27 27 wc w.heap.size (fun k_ => some k_ ≠ ((.slice Ao19 t175.length co19) : Value).ownBlock) (.slice Ao11 y169.length co11) y169) ∧ Aside0 (Kd.R k27 27 wc w.heap.size (fun k_ => some k_ ≠ ((.slice Ao11 y169.length co11) : Value).ownBlock) (.slice Ao19 t175.length co19) t175) ∧ Aside0 (wc.heap[gb172]? = some (.cells #[.int .i64 (wrap64 (100 + t168)), (.slice Ao11 y169.length co11), .string a1, .bool false] 29 (0, 0))) ∧ Aside0 (wc.heap[gb181]? = some (.cells #[.int .i64 t174, (.slice Ao19 t175.length co19), .string t178, .bool t179] 29 (0, 0))) ∧ Aside0 (Below w.heap.size w wc))
  case first =>
    have H := HC8.out
    clear HC8
    by_cases c20 : t180 = 0
    · rw [if_pos c20] at H
      have c20b0 : (t180 == 0) = true := beq_iff_eq.mpr c20
      have c20b1 : (t180 != 0) = false := bne_eq_false_iff_eq.mpr c20
      clear c20
      (first | rw [c20b0] | (simp only [i64_w, i32_w]; rw [c20b0]) | skip)
      by_cases c21 : t174 = (wrap64 (100 + t168))
      · rw [if_pos c21] at H
        have c21b0 : (t174 == (wrap64 (100 + t168))) = true := beq_iff_eq.mpr c21
        have c21b1 : (t174 != (wrap64 (100 + t168))) = false := bne_eq_false_iff_eq.mpr c21
        clear c21
        by_cases c22 : t178.toList = a1.toList
        · rw [if_pos c22] at H
          have c22b0 : (t178.toList == a1.toList) = true := beq_iff_eq.mpr c22
          have c22b1 : (t178.toList != a1.toList) = false := bne_eq_false_iff_eq.mpr c22
          clear c22
          by_cases c23 : t179 = true
          · subst c23
            have H1 : (postilionlaw09_ReplyBack.j0 k a1 a2 a3 true (wrap64 (100 + t168)) y169 a1 false) = some r := by rw [if_pos rfl] at H; exact H
            clear H
            have H := H1
            clear H1
            have H' := Aside0.mk H
            clear H
            have hnb24 := NB181_172.out
            have hnc24 := NB172_181.out
            have hcz25_0 : w16.cell? ⟨gb181, 0, none⟩ = some (.int .i64 0) := (blk_cell BK181.out 0).trans rfl
            have hcz25_1 : w16.cell? ⟨gb181, 1, none⟩ = some (.slice none 0 0) := (blk_cell BK181.out 1).trans rfl
            have hcz25_2 : w16.cell? ⟨gb181, 2, none⟩ = some (.string (⟨#[]⟩ : ByteArray)) := (blk_cell BK181.out 2).trans rfl
            have hcz25_3 : w16.cell? ⟨gb181, 3, none⟩ = some (.bool false) := (blk_cell BK181.out 3).trans rfl
            have hfz25_0 := blk_frozen BK181.out 0
            have hfz25_1 := blk_frozen BK181.out 1
            have hfz25_2 := blk_frozen BK181.out 2
            have hfz25_3 := blk_frozen BK181.out 3
            have hcz26_0 : w16.cell? ⟨gb172, 0, none⟩ = some (.int .i64 (wrap64 (100 + t168))) := (blk_cell BK172.out 0).trans rfl
            have hcz26_1 : w16.cell? ⟨gb172, 1, none⟩ = some (.slice Ao11 y169.length co11) := (blk_cell BK172.out 1).trans rfl
            have hcz26_2 : w16.cell? ⟨gb172, 2, none⟩ = some (.string a1) := (blk_cell BK172.out 2).trans rfl
            have hcz26_3 : w16.cell? ⟨gb172, 3, none⟩ = some (.bool false) := (blk_cell BK172.out 3).trans rfl
            have hfz26_0 := blk_frozen BK172.out 0
            have hfz26_1 := blk_frozen BK172.out 1
            have hfz26_2 := blk_frozen BK172.out 2
            have hfz26_3 := blk_frozen BK172.out 3
            go_wp2
            go_meet
            case rel => exact ⟨_, (true), (by first | rfl | (simp; done) | (simp [*]; done)), H', ⟨by first | omega | exact Nat.le_refl _⟩, ⟨by (with_reducible repeat (first | apply Kd.R_alloc | apply Kd.R_drewN | apply Kd.R_drew)); exact Kd.R_mono (Kd.R_far (p := ⟨gb181, 3, none⟩) (Kd.R_far (p := ⟨gb181, 2, none⟩) (Kd.R_far (p := ⟨gb181, 1, none⟩) (Kd.R_far (p := ⟨gb181, 0, none⟩) (Kd.R_types HO171.out BK181.out (by decide)) (fun _ hk => hk.2) (.int .i64 t174)) (fun _ hk => hk.2) (.slice Ao19 t175.length co19)) (fun _ hk => hk.2) (.string t178)) (fun _ hk => hk.2) (.bool true)) (fun _ hk => hk.1.2)⟩, ⟨by (with_reducible repeat (first | apply Kd.R_alloc | apply Kd.R_drewN | apply Kd.R_drew)); exact Kd.R_mono (Kd.R_far (p := ⟨gb181, 3, none⟩) (Kd.R_far (p := ⟨gb181, 2, none⟩) (Kd.R_far (p := ⟨gb181, 1, none⟩) (Kd.R_far (p := ⟨gb181, 0, none⟩) (Kd.R_types HO177.out BK181.out (by decide)) (fun _ hk => hk.2) (.int .i64 t174)) (fun _ hk => hk.2) (.slice Ao19 t175.length co19)) (fun _ hk => hk.2) (.string t178)) (fun _ hk => hk.2) (.bool true)) (fun _ hk => hk.1.2)⟩, ⟨by (with_reducible repeat (first | refine blk_drewN ?_ _ | refine blk_drew ?_ | refine blk_alloc ?_ _)); refine blk_far ?_ NB172_181.out _; (with_reducible repeat (first | refine blk_drewN ?_ _ | refine blk_drew ?_ | refine blk_alloc ?_ _)); refine blk_far ?_ NB172_181.out _; (with_reducible repeat (first | refine blk_drewN ?_ _ | refine blk_drew ?_ | refine blk_alloc ?_ _)); refine blk_far ?_ NB172_181.out _; (with_reducible repeat (first | refine blk_drewN ?_ _ | refine blk_drew ?_ | refine blk_alloc ?_ _)); refine blk_far ?_ NB172_181.out _; (with_reducible repeat (first | refine blk_drewN ?_ _ | refine blk_drew ?_ | refine blk_alloc ?_ _)); exact BK172.out⟩, ⟨by (with_reducible repeat (first | refine blk_drewN ?_ _ | refine blk_drew ?_ | refine blk_alloc ?_ _)); refine blk_put (cs := #[.int .i64 t174, .slice Ao19 t175.length co19, .string t178, .bool false]) ?_ 3 _ rfl; (with_reducible repeat (first | refine blk_drewN ?_ _ | refine blk_drew ?_ | refine blk_alloc ?_ _)); refine blk_put (cs := #[.int .i64 t174, .slice Ao19 t175.length co19, .string (⟨#[]⟩ : ByteArray), .bool false]) ?_ 2 _ rfl; (with_reducible repeat (first | refine blk_drewN ?_ _ | refine blk_drew ?_ | refine blk_alloc ?_ _)); refine blk_put (cs := #[.int .i64 t174, .slice none 0 0, .string (⟨#[]⟩ : ByteArray), .bool false]) ?_ 1 _ rfl; (with_reducible repeat (first | refine blk_drewN ?_ _ | refine blk_drew ?_ | refine blk_alloc ?_ _)); refine blk_put (cs := #[.int .i64 0, .slice none 0 0, .string (⟨#[]⟩ : ByteArray), .bool false]) ?_ 0 _ rfl; (with_reducible repeat (first | refine blk_drewN ?_ _ | refine blk_drew ?_ | refine blk_alloc ?_ _)); exact BK181.out⟩, ⟨by repeat (first | (with_reducible first | exact HB.out | apply below_alloc | apply pw_below_drewN | apply below_drew1 | refine below_set ?_ GE172.out | refine below_set ?_ GE181.out) | exact HB.out)⟩⟩
          · replace c23 := Bool.eq_false_iff.mpr c23
            subst c23
            have H1 : ((api_Head.f k t175 y169).bind fun t182 => (postilionlaw09_ReplyBack.j0 k a1 a2 a3 (!t182) (wrap64 (100 + t168)) y169 a1 false)) = some r := by rw [if_neg (show ¬ (false = true) by decide)] at H; exact H
            clear H
            have H := H1
            clear H1
            replace H := Option.bind_eq_some_iff.mp H
            obtain ⟨t182, A270, H⟩ := H
            replace H : (postilionlaw09_ReplyBack.j0 k a1 a2 a3 (!t182) (wrap64 (100 + t168)) y169 a1 false) = some r := H
            have A27 := Aside0.mk A270
            clear A270
            have H' := Aside0.mk H
            clear H
            have hnb28 := NB181_172.out
            have hnc28 := NB172_181.out
            have hcz29_0 : w16.cell? ⟨gb181, 0, none⟩ = some (.int .i64 0) := (blk_cell BK181.out 0).trans rfl
            have hcz29_1 : w16.cell? ⟨gb181, 1, none⟩ = some (.slice none 0 0) := (blk_cell BK181.out 1).trans rfl
            have hcz29_2 : w16.cell? ⟨gb181, 2, none⟩ = some (.string (⟨#[]⟩ : ByteArray)) := (blk_cell BK181.out 2).trans rfl
            have hcz29_3 : w16.cell? ⟨gb181, 3, none⟩ = some (.bool false) := (blk_cell BK181.out 3).trans rfl
            have hfz29_0 := blk_frozen BK181.out 0
            have hfz29_1 := blk_frozen BK181.out 1
            have hfz29_2 := blk_frozen BK181.out 2
            have hfz29_3 := blk_frozen BK181.out 3
            have hcz30_0 : w16.cell? ⟨gb172, 0, none⟩ = some (.int .i64 (wrap64 (100 + t168))) := (blk_cell BK172.out 0).trans rfl
            have hcz30_1 : w16.cell? ⟨gb172, 1, none⟩ = some (.slice Ao11 y169.length co11) := (blk_cell BK172.out 1).trans rfl
            have hcz30_2 : w16.cell? ⟨gb172, 2, none⟩ = some (.string a1) := (blk_cell BK172.out 2).trans rfl
            have hcz30_3 : w16.cell? ⟨gb172, 3, none⟩ = some (.bool false) := (blk_cell BK172.out 3).trans rfl
            have hfz30_0 := blk_frozen BK172.out 0
            have hfz30_1 := blk_frozen BK172.out 1
            have hfz30_2 := blk_frozen BK172.out 2
            have hfz30_3 := blk_frozen BK172.out 3
            go_wp2_with (first | (go_at_call 15; (with_reducible refine (api_Head.calls k _ _ t175 _ _ y169 t182 _ ?side1 ?side2 ?side3 ?side4 A27.out).mono ?_); (case side1 => refine (Kd.R_reads' (e := 27) (base := w.heap.size) (ok := fun k_ => (True ∧ some k_ ≠ (.slice Ao11 y169.length co11 : Value).ownBlock)) (n := t175.length) (c := co19) ?_).2.2; exact (by (with_reducible repeat (first | apply Kd.R_alloc | apply Kd.R_drewN | apply Kd.R_drew)); exact (Kd.R_mono (Kd.R_far (p := ⟨gb181, 3, none⟩) (Kd.R_far (p := ⟨gb181, 2, none⟩) (Kd.R_far (p := ⟨gb181, 1, none⟩) (Kd.R_far (p := ⟨gb181, 0, none⟩) (Kd.R_types HO177.out BK181.out (by decide)) (fun _ hk => hk.2) (.int .i64 t174)) (fun _ hk => hk.2) (.slice Ao19 t175.length co19)) (fun _ hk => hk.2) (.string t178)) (fun _ hk => hk.2) (.bool false)) (fun _ h_ => h_.1)))); (case side2 => exact (Kd.R_reads' HO177.out).2.1); (case side3 => refine (Kd.R_reads' (e := 27) (base := w.heap.size) (ok := fun k_ => (True ∧ some k_ ≠ (.slice Ao19 t175.length co19 : Value).ownBlock)) (n := y169.length) (c := co11) ?_).2.2; exact (by (with_reducible repeat (first | apply Kd.R_alloc | apply Kd.R_drewN | apply Kd.R_drew)); exact (Kd.R_mono (Kd.R_far (p := ⟨gb181, 3, none⟩) (Kd.R_far (p := ⟨gb181, 2, none⟩) (Kd.R_far (p := ⟨gb181, 1, none⟩) (Kd.R_far (p := ⟨gb181, 0, none⟩) (Kd.R_types HO171.out BK181.out (by decide)) (fun _ hk => hk.2) (.int .i64 t174)) (fun _ hk => hk.2) (.slice Ao19 t175.length co19)) (fun _ hk => hk.2) (.string t178)) (fun _ hk => hk.2) (.bool false)) (fun _ h_ => h_.1)))); (case side4 => exact (Kd.R_reads' HO171.out).2.1); rintro e w' ⟨rfl, ⟨nd, rfl⟩⟩))
            go_meet
            case rel => exact ⟨_, (!t182), (by first | rfl | (simp; done) | (simp [*]; done)), H', ⟨by first | omega | exact Nat.le_refl _⟩, ⟨by (with_reducible repeat (first | apply Kd.R_alloc | apply Kd.R_drewN | apply Kd.R_drew)); exact Kd.R_mono (Kd.R_far (p := ⟨gb181, 3, none⟩) (Kd.R_far (p := ⟨gb181, 2, none⟩) (Kd.R_far (p := ⟨gb181, 1, none⟩) (Kd.R_far (p := ⟨gb181, 0, none⟩) (Kd.R_types HO171.out BK181.out (by decide)) (fun _ hk => hk.2) (.int .i64 t174)) (fun _ hk => hk.2) (.slice Ao19 t175.length co19)) (fun _ hk => hk.2) (.string t178)) (fun _ hk => hk.2) (.bool false)) (fun _ hk => hk.1.2)⟩, ⟨by (with_reducible repeat (first | apply Kd.R_alloc | apply Kd.R_drewN | apply Kd.R_drew)); exact Kd.R_mono (Kd.R_far (p := ⟨gb181, 3, none⟩) (Kd.R_far (p := ⟨gb181, 2, none⟩) (Kd.R_far (p := ⟨gb181, 1, none⟩) (Kd.R_far (p := ⟨gb181, 0, none⟩) (Kd.R_types HO177.out BK181.out (by decide)) (fun _ hk => hk.2) (.int .i64 t174)) (fun _ hk => hk.2) (.slice Ao19 t175.length co19)) (fun _ hk => hk.2) (.string t178)) (fun _ hk => hk.2) (.bool false)) (fun _ hk => hk.1.2)⟩, ⟨by (with_reducible repeat (first | refine blk_drewN ?_ _ | refine blk_drew ?_ | refine blk_alloc ?_ _)); refine blk_far ?_ NB172_181.out _; (with_reducible repeat (first | refine blk_drewN ?_ _ | refine blk_drew ?_ | refine blk_alloc ?_ _)); refine blk_far ?_ NB172_181.out _; (with_reducible repeat (first | refine blk_drewN ?_ _ | refine blk_drew ?_ | refine blk_alloc ?_ _)); refine blk_far ?_ NB172_181.out _; (with_reducible repeat (first | refine blk_drewN ?_ _ | refine blk_drew ?_ | refine blk_alloc ?_ _)); refine blk_far ?_ NB172_181.out _; (with_reducible repeat (first | refine blk_drewN ?_ _ | refine blk_drew ?_ | refine blk_alloc ?_ _)); exact BK172.out⟩, ⟨by (with_reducible repeat (first | refine blk_drewN ?_ _ | refine blk_drew ?_ | refine blk_alloc ?_ _)); refine blk_put (cs := #[.int .i64 t174, .slice Ao19 t175.length co19, .string t178, .bool false]) ?_ 3 _ rfl; (with_reducible repeat (first | refine blk_drewN ?_ _ | refine blk_drew ?_ | refine blk_alloc ?_ _)); refine blk_put (cs := #[.int .i64 t174, .slice Ao19 t175.length co19, .string (⟨#[]⟩ : ByteArray), .bool false]) ?_ 2 _ rfl; (with_reducible repeat (first | refine blk_drewN ?_ _ | refine blk_drew ?_ | refine blk_alloc ?_ _)); refine blk_put (cs := #[.int .i64 t174, .slice none 0 0, .string (⟨#[]⟩ : ByteArray), .bool false]) ?_ 1 _ rfl; (with_reducible repeat (first | refine blk_drewN ?_ _ | refine blk_drew ?_ | refine blk_alloc ?_ _)); refine blk_put (cs := #[.int .i64 0, .slice none 0 0, .string (⟨#[]⟩ : ByteArray), .bool false]) ?_ 0 _ rfl; (with_reducible repeat (first | refine blk_drewN ?_ _ | refine blk_drew ?_ | refine blk_alloc ?_ _)); exact BK181.out⟩, ⟨by repeat (first | (with_reducible first | exact HB.out | apply below_alloc | apply pw_below_drewN | apply below_drew1 | refine below_set ?_ GE172.out | refine below_set ?_ GE181.out) | exact HB.out)⟩⟩
        · rw [if_neg c22] at H
          have c22b0 : (t178.toList == a1.toList) = false := beq_eq_false_iff_ne.mpr c22
          have c22b1 : (t178.toList != a1.toList) = true := bne_iff_ne.mpr c22
          have H' := Aside0.mk H
          clear H
          have hnb31 := NB181_172.out
          have hnc31 := NB172_181.out
          have hcz32_0 : w16.cell? ⟨gb181, 0, none⟩ = some (.int .i64 0) := (blk_cell BK181.out 0).trans rfl
          have hcz32_1 : w16.cell? ⟨gb181, 1, none⟩ = some (.slice none 0 0) := (blk_cell BK181.out 1).trans rfl
          have hcz32_2 : w16.cell? ⟨gb181, 2, none⟩ = some (.string (⟨#[]⟩ : ByteArray)) := (blk_cell BK181.out 2).trans rfl
          have hcz32_3 : w16.cell? ⟨gb181, 3, none⟩ = some (.bool false) := (blk_cell BK181.out 3).trans rfl
          have hfz32_0 := blk_frozen BK181.out 0
          have hfz32_1 := blk_frozen BK181.out 1
          have hfz32_2 := blk_frozen BK181.out 2
          have hfz32_3 := blk_frozen BK181.out 3
          have hcz33_0 : w16.cell? ⟨gb172, 0, none⟩ = some (.int .i64 (wrap64 (100 + t168))) := (blk_cell BK172.out 0).trans rfl
          have hcz33_1 : w16.cell? ⟨gb172, 1, none⟩ = some (.slice Ao11 y169.length co11) := (blk_cell BK172.out 1).trans rfl
          have hcz33_2 : w16.cell? ⟨gb172, 2, none⟩ = some (.string a1) := (blk_cell BK172.out 2).trans rfl
          have hcz33_3 : w16.cell? ⟨gb172, 3, none⟩ = some (.bool false) := (blk_cell BK172.out 3).trans rfl
          have hfz33_0 := blk_frozen BK172.out 0
          have hfz33_1 := blk_frozen BK172.out 1
          have hfz33_2 := blk_frozen BK172.out 2
          have hfz33_3 := blk_frozen BK172.out 3
          go_wp2
          go_meet
          case rel => exact ⟨_, (true), (by first | rfl | (simp; done) | (simp [*]; done)), H', ⟨by first | omega | exact Nat.le_refl _⟩, ⟨by (with_reducible repeat (first | apply Kd.R_alloc | apply Kd.R_drewN | apply Kd.R_drew)); exact Kd.R_mono (Kd.R_far (p := ⟨gb181, 3, none⟩) (Kd.R_far (p := ⟨gb181, 2, none⟩) (Kd.R_far (p := ⟨gb181, 1, none⟩) (Kd.R_far (p := ⟨gb181, 0, none⟩) (Kd.R_types HO171.out BK181.out (by decide)) (fun _ hk => hk.2) (.int .i64 t174)) (fun _ hk => hk.2) (.slice Ao19 t175.length co19)) (fun _ hk => hk.2) (.string t178)) (fun _ hk => hk.2) (.bool t179)) (fun _ hk => hk.1.2)⟩, ⟨by (with_reducible repeat (first | apply Kd.R_alloc | apply Kd.R_drewN | apply Kd.R_drew)); exact Kd.R_mono (Kd.R_far (p := ⟨gb181, 3, none⟩) (Kd.R_far (p := ⟨gb181, 2, none⟩) (Kd.R_far (p := ⟨gb181, 1, none⟩) (Kd.R_far (p := ⟨gb181, 0, none⟩) (Kd.R_types HO177.out BK181.out (by decide)) (fun _ hk => hk.2) (.int .i64 t174)) (fun _ hk => hk.2) (.slice Ao19 t175.length co19)) (fun _ hk => hk.2) (.string t178)) (fun _ hk => hk.2) (.bool t179)) (fun _ hk => hk.1.2)⟩, ⟨by (with_reducible repeat (first | refine blk_drewN ?_ _ | refine blk_drew ?_ | refine blk_alloc ?_ _)); refine blk_far ?_ NB172_181.out _; (with_reducible repeat (first | refine blk_drewN ?_ _ | refine blk_drew ?_ | refine blk_alloc ?_ _)); refine blk_far ?_ NB172_181.out _; (with_reducible repeat (first | refine blk_drewN ?_ _ | refine blk_drew ?_ | refine blk_alloc ?_ _)); refine blk_far ?_ NB172_181.out _; (with_reducible repeat (first | refine blk_drewN ?_ _ | refine blk_drew ?_ | refine blk_alloc ?_ _)); refine blk_far ?_ NB172_181.out _; (with_reducible repeat (first | refine blk_drewN ?_ _ | refine blk_drew ?_ | refine blk_alloc ?_ _)); exact BK172.out⟩, ⟨by (with_reducible repeat (first | refine blk_drewN ?_ _ | refine blk_drew ?_ | refine blk_alloc ?_ _)); refine blk_put (cs := #[.int .i64 t174, .slice Ao19 t175.length co19, .string t178, .bool false]) ?_ 3 _ rfl; (with_reducible repeat (first | refine blk_drewN ?_ _ | refine blk_drew ?_ | refine blk_alloc ?_ _)); refine blk_put (cs := #[.int .i64 t174, .slice Ao19 t175.length co19, .string (⟨#[]⟩ : ByteArray), .bool false]) ?_ 2 _ rfl; (with_reducible repeat (first | refine blk_drewN ?_ _ | refine blk_drew ?_ | refine blk_alloc ?_ _)); refine blk_put (cs := #[.int .i64 t174, .slice none 0 0, .string (⟨#[]⟩ : ByteArray), .bool false]) ?_ 1 _ rfl; (with_reducible repeat (first | refine blk_drewN ?_ _ | refine blk_drew ?_ | refine blk_alloc ?_ _)); refine blk_put (cs := #[.int .i64 0, .slice none 0 0, .string (⟨#[]⟩ : ByteArray), .bool false]) ?_ 0 _ rfl; (with_reducible repeat (first | refine blk_drewN ?_ _ | refine blk_drew ?_ | refine blk_alloc ?_ _)); exact BK181.out⟩, ⟨by repeat (first | (with_reducible first | exact HB.out | apply below_alloc | apply pw_below_drewN | apply below_drew1 | refine below_set ?_ GE172.out | refine below_set ?_ GE181.out) | exact HB.out)⟩⟩
      · rw [if_neg c21] at H
        have c21b0 : (t174 == (wrap64 (100 + t168))) = false := beq_eq_false_iff_ne.mpr c21
        have c21b1 : (t174 != (wrap64 (100 + t168))) = true := bne_iff_ne.mpr c21
        have H' := Aside0.mk H
        clear H
        have hnb34 := NB181_172.out
        have hnc34 := NB172_181.out
        have hcz35_0 : w16.cell? ⟨gb181, 0, none⟩ = some (.int .i64 0) := (blk_cell BK181.out 0).trans rfl
        have hcz35_1 : w16.cell? ⟨gb181, 1, none⟩ = some (.slice none 0 0) := (blk_cell BK181.out 1).trans rfl
        have hcz35_2 : w16.cell? ⟨gb181, 2, none⟩ = some (.string (⟨#[]⟩ : ByteArray)) := (blk_cell BK181.out 2).trans rfl
        have hcz35_3 : w16.cell? ⟨gb181, 3, none⟩ = some (.bool false) := (blk_cell BK181.out 3).trans rfl
        have hfz35_0 := blk_frozen BK181.out 0
        have hfz35_1 := blk_frozen BK181.out 1
        have hfz35_2 := blk_frozen BK181.out 2
        have hfz35_3 := blk_frozen BK181.out 3
        have hcz36_0 : w16.cell? ⟨gb172, 0, none⟩ = some (.int .i64 (wrap64 (100 + t168))) := (blk_cell BK172.out 0).trans rfl
        have hcz36_1 : w16.cell? ⟨gb172, 1, none⟩ = some (.slice Ao11 y169.length co11) := (blk_cell BK172.out 1).trans rfl
        have hcz36_2 : w16.cell? ⟨gb172, 2, none⟩ = some (.string a1) := (blk_cell BK172.out 2).trans rfl
        have hcz36_3 : w16.cell? ⟨gb172, 3, none⟩ = some (.bool false) := (blk_cell BK172.out 3).trans rfl
        have hfz36_0 := blk_frozen BK172.out 0
        have hfz36_1 := blk_frozen BK172.out 1
        have hfz36_2 := blk_frozen BK172.out 2
        have hfz36_3 := blk_frozen BK172.out 3
        go_wp2
        go_meet
        case rel => exact ⟨_, (true), (by first | rfl | (simp; done) | (simp [*]; done)), H', ⟨by first | omega | exact Nat.le_refl _⟩, ⟨by (with_reducible repeat (first | apply Kd.R_alloc | apply Kd.R_drewN | apply Kd.R_drew)); exact Kd.R_mono (Kd.R_far (p := ⟨gb181, 3, none⟩) (Kd.R_far (p := ⟨gb181, 2, none⟩) (Kd.R_far (p := ⟨gb181, 1, none⟩) (Kd.R_far (p := ⟨gb181, 0, none⟩) (Kd.R_types HO171.out BK181.out (by decide)) (fun _ hk => hk.2) (.int .i64 t174)) (fun _ hk => hk.2) (.slice Ao19 t175.length co19)) (fun _ hk => hk.2) (.string t178)) (fun _ hk => hk.2) (.bool t179)) (fun _ hk => hk.1.2)⟩, ⟨by (with_reducible repeat (first | apply Kd.R_alloc | apply Kd.R_drewN | apply Kd.R_drew)); exact Kd.R_mono (Kd.R_far (p := ⟨gb181, 3, none⟩) (Kd.R_far (p := ⟨gb181, 2, none⟩) (Kd.R_far (p := ⟨gb181, 1, none⟩) (Kd.R_far (p := ⟨gb181, 0, none⟩) (Kd.R_types HO177.out BK181.out (by decide)) (fun _ hk => hk.2) (.int .i64 t174)) (fun _ hk => hk.2) (.slice Ao19 t175.length co19)) (fun _ hk => hk.2) (.string t178)) (fun _ hk => hk.2) (.bool t179)) (fun _ hk => hk.1.2)⟩, ⟨by (with_reducible repeat (first | refine blk_drewN ?_ _ | refine blk_drew ?_ | refine blk_alloc ?_ _)); refine blk_far ?_ NB172_181.out _; (with_reducible repeat (first | refine blk_drewN ?_ _ | refine blk_drew ?_ | refine blk_alloc ?_ _)); refine blk_far ?_ NB172_181.out _; (with_reducible repeat (first | refine blk_drewN ?_ _ | refine blk_drew ?_ | refine blk_alloc ?_ _)); refine blk_far ?_ NB172_181.out _; (with_reducible repeat (first | refine blk_drewN ?_ _ | refine blk_drew ?_ | refine blk_alloc ?_ _)); refine blk_far ?_ NB172_181.out _; (with_reducible repeat (first | refine blk_drewN ?_ _ | refine blk_drew ?_ | refine blk_alloc ?_ _)); exact BK172.out⟩, ⟨by (with_reducible repeat (first | refine blk_drewN ?_ _ | refine blk_drew ?_ | refine blk_alloc ?_ _)); refine blk_put (cs := #[.int .i64 t174, .slice Ao19 t175.length co19, .string t178, .bool false]) ?_ 3 _ rfl; (with_reducible repeat (first | refine blk_drewN ?_ _ | refine blk_drew ?_ | refine blk_alloc ?_ _)); refine blk_put (cs := #[.int .i64 t174, .slice Ao19 t175.length co19, .string (⟨#[]⟩ : ByteArray), .bool false]) ?_ 2 _ rfl; (with_reducible repeat (first | refine blk_drewN ?_ _ | refine blk_drew ?_ | refine blk_alloc ?_ _)); refine blk_put (cs := #[.int .i64 t174, .slice none 0 0, .string (⟨#[]⟩ : ByteArray), .bool false]) ?_ 1 _ rfl; (with_reducible repeat (first | refine blk_drewN ?_ _ | refine blk_drew ?_ | refine blk_alloc ?_ _)); refine blk_put (cs := #[.int .i64 0, .slice none 0 0, .string (⟨#[]⟩ : ByteArray), .bool false]) ?_ 0 _ rfl; (with_reducible repeat (first | refine blk_drewN ?_ _ | refine blk_drew ?_ | refine blk_alloc ?_ _)); exact BK181.out⟩, ⟨by repeat (first | (with_reducible first | exact HB.out | apply below_alloc | apply pw_below_drewN | apply below_drew1 | refine below_set ?_ GE172.out | refine below_set ?_ GE181.out) | exact HB.out)⟩⟩
    · rw [if_neg c20] at H
      have c20b0 : (t180 == 0) = false := beq_eq_false_iff_ne.mpr c20
      have c20b1 : (t180 != 0) = true := bne_iff_ne.mpr c20
      (first | rw [c20b0] | (simp only [i64_w, i32_w]; rw [c20b0]) | skip)
      have H' := Aside0.mk H
      clear H
      go_wp2
      go_meet
      case rel => exact ⟨_, (true), (by first | rfl | (simp; done) | (simp [*]; done)), H', ⟨by first | omega | exact Nat.le_refl _⟩, ⟨by (with_reducible repeat (first | apply Kd.R_alloc | apply Kd.R_drewN | apply Kd.R_drew)); exact Kd.R_mono (Kd.R_far (p := ⟨gb181, 3, none⟩) (Kd.R_far (p := ⟨gb181, 2, none⟩) (Kd.R_far (p := ⟨gb181, 1, none⟩) (Kd.R_far (p := ⟨gb181, 0, none⟩) (Kd.R_types HO171.out BK181.out (by decide)) (fun _ hk => hk.2) (.int .i64 t174)) (fun _ hk => hk.2) (.slice Ao19 t175.length co19)) (fun _ hk => hk.2) (.string t178)) (fun _ hk => hk.2) (.bool t179)) (fun _ hk => hk.1.2)⟩, ⟨by (with_reducible repeat (first | apply Kd.R_alloc | apply Kd.R_drewN | apply Kd.R_drew)); exact Kd.R_mono (Kd.R_far (p := ⟨gb181, 3, none⟩) (Kd.R_far (p := ⟨gb181, 2, none⟩) (Kd.R_far (p := ⟨gb181, 1, none⟩) (Kd.R_far (p := ⟨gb181, 0, none⟩) (Kd.R_types HO177.out BK181.out (by decide)) (fun _ hk => hk.2) (.int .i64 t174)) (fun _ hk => hk.2) (.slice Ao19 t175.length co19)) (fun _ hk => hk.2) (.string t178)) (fun _ hk => hk.2) (.bool t179)) (fun _ hk => hk.1.2)⟩, ⟨by (with_reducible repeat (first | refine blk_drewN ?_ _ | refine blk_drew ?_ | refine blk_alloc ?_ _)); refine blk_far ?_ NB172_181.out _; (with_reducible repeat (first | refine blk_drewN ?_ _ | refine blk_drew ?_ | refine blk_alloc ?_ _)); refine blk_far ?_ NB172_181.out _; (with_reducible repeat (first | refine blk_drewN ?_ _ | refine blk_drew ?_ | refine blk_alloc ?_ _)); refine blk_far ?_ NB172_181.out _; (with_reducible repeat (first | refine blk_drewN ?_ _ | refine blk_drew ?_ | refine blk_alloc ?_ _)); refine blk_far ?_ NB172_181.out _; (with_reducible repeat (first | refine blk_drewN ?_ _ | refine blk_drew ?_ | refine blk_alloc ?_ _)); exact BK172.out⟩, ⟨by (with_reducible repeat (first | refine blk_drewN ?_ _ | refine blk_drew ?_ | refine blk_alloc ?_ _)); refine blk_put (cs := #[.int .i64 t174, .slice Ao19 t175.length co19, .string t178, .bool false]) ?_ 3 _ rfl; (with_reducible repeat (first | refine blk_drewN ?_ _ | refine blk_drew ?_ | refine blk_alloc ?_ _)); refine blk_put (cs := #[.int .i64 t174, .slice Ao19 t175.length co19, .string (⟨#[]⟩ : ByteArray), .bool false]) ?_ 2 _ rfl; (with_reducible repeat (first | refine blk_drewN ?_ _ | refine blk_drew ?_ | refine blk_alloc ?_ _)); refine blk_put (cs := #[.int .i64 t174, .slice none 0 0, .string (⟨#[]⟩ : ByteArray), .bool false]) ?_ 1 _ rfl; (with_reducible repeat (first | refine blk_drewN ?_ _ | refine blk_drew ?_ | refine blk_alloc ?_ _)); refine blk_put (cs := #[.int .i64 0, .slice none 0 0, .string (⟨#[]⟩ : ByteArray), .bool false]) ?_ 0 _ rfl; (with_reducible repeat (first | refine blk_drewN ?_ _ | refine blk_drew ?_ | refine blk_alloc ?_ _)); exact BK181.out⟩, ⟨by repeat (first | (with_reducible first | exact HB.out | apply below_alloc | apply pw_below_drewN | apply below_drew1 | refine below_set ?_ GE172.out | refine below_set ?_ GE181.out) | exact HB.out)⟩⟩
  case rest =>
    clear HC8
    try clear c1
    try clear c2
    try clear p2
    try clear c3
    try clear p6
    try clear c11
    try clear c12
    try clear c13
    try clear c17
    try clear c20
    try clear c20b0
    try clear c20b1
    try clear c21
    try clear c21b0
    try clear c21b1
    try clear c22
    try clear c22b0
    try clear c22b1
    try clear c23
    try clear c24
    try clear c28
    try clear c29
    try clear c31
    try clear c34
    try clear hcz13_0
    try clear hcz13_1
    try clear hcz13_2
    try clear hcz13_3
    try clear hcz18_0
    try clear hcz18_1
    try clear hcz18_2
    try clear hcz18_3
    try clear hcz25_0
    try clear hcz25_1
    try clear hcz25_2
    try clear hcz25_3
    try clear hcz26_0
    try clear hcz26_1
    try clear hcz26_2
    try clear hcz26_3
    try clear hcz29_0
    try clear hcz29_1
    try clear hcz29_2
    try clear hcz29_3
    try clear hcz30_0
    try clear hcz30_1
    try clear hcz30_2
    try clear hcz30_3
    try clear hcz32_0
    try clear hcz32_1
    try clear hcz32_2
    try clear hcz32_3
    try clear hcz33_0
    try clear hcz33_1
    try clear hcz33_2
    try clear hcz33_3
    try clear hcz35_0
    try clear hcz35_1
    try clear hcz35_2
    try clear hcz35_3
    try clear hcz36_0
    try clear hcz36_1
    try clear hcz36_2
    try clear hcz36_3
    try clear hfz13_0
    try clear hfz13_1
    try clear hfz13_2
    try clear hfz13_3
    try clear hfz18_0
    try clear hfz18_1
    try clear hfz18_2
    try clear hfz18_3
    try clear hfz25_0
    try clear hfz25_1
    try clear hfz25_2
    try clear hfz25_3
    try clear hfz26_0
    try clear hfz26_1
    try clear hfz26_2
    try clear hfz26_3
    try clear hfz29_0
    try clear hfz29_1
    try clear hfz29_2
    try clear hfz29_3
    try clear hfz30_0
    try clear hfz30_1
    try clear hfz30_2
    try clear hfz30_3
    try clear hfz32_0
    try clear hfz32_1
    try clear hfz32_2
    try clear hfz32_3
    try clear hfz33_0
    try clear hfz33_1
    try clear hfz33_2
    try clear hfz33_3
    try clear hfz35_0
    try clear hfz35_1
    try clear hfz35_2
    try clear hfz35_3
    try clear hfz36_0
    try clear hfz36_1
    try clear hfz36_2
    try clear hfz36_3
    obtain ⟨kq, x53_7, rfl, HA, HJ7, HO_173001, HO_182001, BK172, BK181, HB⟩ := hcut
    cases kq with
    | zero => exact absurd HA.out (by simp [postilionlaw09_ReplyBack.j0])
    | succ kj7 =>
      have H := HA.out
      clear HA
      simp only [postilionlaw09_ReplyBack.j0] at H
      by_cases c37 : x53_7 = true
      · subst c37
        have H1 : (some false) = some r := by rw [if_pos rfl] at H; exact H
        clear H
        have H := H1
        clear H1
        obtain rfl := Option.some.inj H
        cases hT
      · replace c37 := Bool.eq_false_iff.mpr c37
        subst c37
        have H1 : ((postilionkeep_Within.f a2 (wrap64 ((a1.size : Int) + 9))).bind fun t183 => (postilionlaw09_ReplyBack.l0 kj7 a1 t183 a3 (⟨#[]⟩ : ByteArray) t183 (wrap64 (100 + t168)) y169 a1 false)) = some r := by rw [if_neg (show ¬ (false = true) by decide)] at H; exact H
        clear H
        have H := H1
        clear H1
        replace H := Option.bind_eq_some_iff.mp H
        obtain ⟨t183, A380, H⟩ := H
        replace H : (postilionlaw09_ReplyBack.l0 kj7 a1 t183 a3 (⟨#[]⟩ : ByteArray) t183 (wrap64 (100 + t168)) y169 a1 false) = some r := H
        have A38 := Aside0.mk A380
        clear A380
        have H' := Aside0.mk H
        clear H
        go_wp2_with (first | ((with_reducible refine gate_callee (f := 12) rfl ?_); refine goesL_ (some 58) rfl rfl Tryd.func12 (by kernel_rfl) rfl #[.int .i64 a2, .int .i64 (wrap64 ((a1.size : Int) + 9))] rfl (by (try simp only [List.map_toArray, List.map_cons, List.map_nil]); first | done | rfl | (simp only [List.length_drop, List.length_take]; rfl)) ?_; (with_reducible refine (postilionkeep_Within.calls a2 (wrap64 ((a1.size : Int) + 9)) t183 _ A38.out).mono ?_); rintro e w' ⟨rfl, ⟨nd, rfl⟩⟩; refine ⟨_, rfl, ?_⟩))
        go_loopg [12, 13] kj7 (fun kq v12 v13 w' => ∃ (x12_2 : ByteArray) (x13_2 : Int), v12 = .string x12_2 ∧ v13 = .int .i64 x13_2 ∧ Aside0 (postilionlaw09_ReplyBack.l0 kq a1 t183 a3 x12_2 x13_2 (wrap64 (100 + t168)) y169 a1 false = some r) ∧ Aside0 (kq ≤ kj7) ∧ Aside0 (Kd.R k27 27 w' w.heap.size (fun k_ => some k_ ≠ ((.slice Ao19 t175.length co19) : Value).ownBlock) (.slice Ao11 y169.length co11) y169) ∧ Aside0 (Kd.R k27 27 w' w.heap.size (fun k_ => some k_ ≠ ((.slice Ao11 y169.length co11) : Value).ownBlock) (.slice Ao19 t175.length co19) t175) ∧ Aside0 (w'.heap[gb172]? = some (.cells #[.int .i64 (wrap64 (100 + t168)), (.slice Ao11 y169.length co11), .string a1, .bool false] 29 (0, 0))) ∧ Aside0 (w'.heap[gb181]? = some (.cells #[.int .i64 t174, (.slice Ao19 t175.length co19), .string t178, .bool t179] 29 (0, 0))) ∧ Aside0 (Below w.heap.size w w'))
        case atStart => exact ⟨((⟨#[]⟩ : ByteArray)), (t183), (by first | rfl | (simp; done) | (simp [*]; done)), (by first | rfl | (simp; done) | (simp [*]; done)), H', ⟨Nat.le_refl _⟩, ⟨by (with_reducible repeat (first | apply Kd.R_alloc | apply Kd.R_drewN | apply Kd.R_drew)); exact HO_173001.out⟩, ⟨by (with_reducible repeat (first | apply Kd.R_alloc | apply Kd.R_drewN | apply Kd.R_drew)); exact HO_182001.out⟩, ⟨by (with_reducible repeat (first | refine blk_drewN ?_ _ | refine blk_drew ?_ | refine blk_alloc ?_ _)); exact BK172.out⟩, ⟨by (with_reducible repeat (first | refine blk_drewN ?_ _ | refine blk_drew ?_ | refine blk_alloc ?_ _)); exact BK181.out⟩, ⟨by repeat (first | (with_reducible first | exact HB.out | apply below_alloc | apply pw_below_drewN | apply below_drew1 | refine below_set ?_ GE172.out | refine below_set ?_ GE181.out) | exact HB.out)⟩⟩
        case round =>
          clear H'
          try clear c1
          try clear c2
          try clear p2
          try clear c3
          try clear p6
          try clear c11
          try clear c12
          try clear c13
          try clear c17
          try clear c20
          try clear c20b0
          try clear c20b1
          try clear c21
          try clear c21b0
          try clear c21b1
          try clear c22
          try clear c22b0
          try clear c22b1
          try clear c23
          try clear c24
          try clear c28
          try clear c29
          try clear c31
          try clear c34
          try clear c37
          try clear hcz13_0
          try clear hcz13_1
          try clear hcz13_2
          try clear hcz13_3
          try clear hcz18_0
          try clear hcz18_1
          try clear hcz18_2
          try clear hcz18_3
          try clear hcz25_0
          try clear hcz25_1
          try clear hcz25_2
          try clear hcz25_3
          try clear hcz26_0
          try clear hcz26_1
          try clear hcz26_2
          try clear hcz26_3
          try clear hcz29_0
          try clear hcz29_1
          try clear hcz29_2
          try clear hcz29_3
          try clear hcz30_0
          try clear hcz30_1
          try clear hcz30_2
          try clear hcz30_3
          try clear hcz32_0
          try clear hcz32_1
          try clear hcz32_2
          try clear hcz32_3
          try clear hcz33_0
          try clear hcz33_1
          try clear hcz33_2
          try clear hcz33_3
          try clear hcz35_0
          try clear hcz35_1
          try clear hcz35_2
          try clear hcz35_3
          try clear hcz36_0
          try clear hcz36_1
          try clear hcz36_2
          try clear hcz36_3
          try clear hfz13_0
          try clear hfz13_1
          try clear hfz13_2
          try clear hfz13_3
          try clear hfz18_0
          try clear hfz18_1
          try clear hfz18_2
          try clear hfz18_3
          try clear hfz25_0
          try clear hfz25_1
          try clear hfz25_2
          try clear hfz25_3
          try clear hfz26_0
          try clear hfz26_1
          try clear hfz26_2
          try clear hfz26_3
          try clear hfz29_0
          try clear hfz29_1
          try clear hfz29_2
          try clear hfz29_3
          try clear hfz30_0
          try clear hfz30_1
          try clear hfz30_2
          try clear hfz30_3
          try clear hfz32_0
          try clear hfz32_1
          try clear hfz32_2
          try clear hfz32_3
          try clear hfz33_0
          try clear hfz33_1
          try clear hfz33_2
          try clear hfz33_3
          try clear hfz35_0
          try clear hfz35_1
          try clear hfz35_2
          try clear hfz35_3
          try clear hfz36_0
          try clear hfz36_1
          try clear hfz36_2
          try clear hfz36_3
          try clear p2
          try clear p6
          obtain ⟨x12_2, x13_2, rfl, rfl, HA, HK2, HO_173001, HO_182001, BK172, BK181, HB⟩ := hrel
          cases gk with
          | zero => exact absurd HA.out (by simp [postilionlaw09_ReplyBack.l0])
          | succ k2 =>
            have H := HA.out
            clear HA
            simp only [postilionlaw09_ReplyBack.l0] at H
            by_cases c39 : x12_2.toList = ([] : List UInt8)
            · rw [if_pos c39] at H
              have c39b0 : (x12_2.toList == ([] : List UInt8)) = true := beq_iff_eq.mpr c39
              have c39b1 : (x12_2.toList != ([] : List UInt8)) = false := bne_eq_false_iff_eq.mpr c39
              clear c39
              obtain ⟨y184, hy184⟩ : ∃ y_ : List Int, y_ = (([(wrap64 (48 + (Int.tmod x13_2 10))) % 256] : List Int)) := ⟨_, rfl⟩
              replace H : (if (strOfNums y184).size + x12_2.size ≤ 9223372036854775807 then (postilionlaw09_ReplyBack.l0 k2 a1 t183 a3 ((strOfNums y184) ++ x12_2) (wrap64 (Int.tdiv x13_2 10)) (wrap64 (100 + t168)) y169 a1 false) else (none)) = some r := by first | (rw [hy184]; with_reducible exact H) | (have H2_ := (Option.bind_some _ _).symm.trans H; rw [hy184]; with_reducible exact H2_) | (have H2_ := (Option.bind_some _ _).symm.trans H; with_reducible exact H2_) | with_reducible exact H | (rw [hy184]; exact H) | exact H
              have Ny184 := Aside0.mk hy184
              clear hy184
              by_cases c40 : (strOfNums y184).size + x12_2.size ≤ 9223372036854775807
              · rw [if_pos c40] at H
                have c40b0 := eq_true c40
                have c40b1 : decide ((strOfNums y184).size + x12_2.size ≤ 9223372036854775807) = true := decide_eq_true c40
                try have c40b2 : (9223372036854775807 < (strOfNums y184).size + x12_2.size) = False := eq_false (Nat.not_lt.2 c40)
                have H' := Aside0.mk H
                clear H
                go_wp2_with (first | ((with_reducible refine gate_dst (N := 72) rfl ?_); (try (refine gate_guard (by rfl) ?_; dsimp only)); refine Kd.R_lit (Kd.int .u8) _ 5 ?hg (N := 72) ?hd (xs := ([(wrap64 (48 + (Int.tmod x13_2 10))) % 256] : List Int)) (inner := [.int .u8 ((wrap64 (48 + (Int.tmod x13_2 10))) % 256)]) (ok := fun _ => True) (okp := fun _ => True) ?hr ?hp (fun _ hk => hk) trivial (Below.refl _ _) (Nat.le_refl _) (by simp) ?_; (case hd => rfl); (case hg => rfl); (case hr => first | (go_simp; done) | (go_simp; rfl)); (case hp => exact (Reps.one (show Kd.M (Kd.int .u8) _ _ _ ((wrap64 (48 + (Int.tmod x13_2 10))) % 256) [.int .u8 ((wrap64 (48 + (Int.tmod x13_2 10))) % 256)] from rfl) (Reps.none _ _))); intro v185 w41 ho42 hb hg_ hnew_; clear hg_ hnew_; (first | rw [← Ny184.out] at ho42 | (simp only [Int.reduceToNat] at ho42; rw [← Ny184.out] at ho42)); have n0_ := Aside0.mk (Kd.R_below (by (with_reducible repeat (first | apply Kd.R_alloc | apply Kd.R_drewN | apply Kd.R_drew)); exact HO_173001.out) hb); have n1_ := Aside0.mk (Kd.R_below (by (with_reducible repeat (first | apply Kd.R_alloc | apply Kd.R_drewN | apply Kd.R_drew)); exact HO_182001.out) hb); have n2_ := Aside0.mk (Kd.R_lower ho42 (below_size (by repeat (first | (with_reducible first | exact HB.out | apply below_alloc | apply pw_below_drewN | apply below_drew1 | refine below_set ?_ GE172.out | refine below_set ?_ GE181.out) | exact HB.out)))); have n3_ := Aside0.mk (blk_below (g := gb172) (o := .cells #[.int .i64 (wrap64 (100 + t168)), .slice Ao11 y169.length co11, .string a1, .bool false] 29 (0, 0)) (by (with_reducible repeat (first | refine blk_drewN ?_ _ | refine blk_drew ?_ | refine blk_alloc ?_ _)); exact BK172.out) hb); have n4_ := Aside0.mk (blk_below (g := gb181) (o := .cells #[.int .i64 t174, .slice Ao19 t175.length co19, .string t178, .bool t179] 29 (0, 0)) (by (with_reducible repeat (first | refine blk_drewN ?_ _ | refine blk_drew ?_ | refine blk_alloc ?_ _)); exact BK181.out) hb); have n5_ := Aside0.mk (below_step (by repeat (first | (with_reducible first | exact HB.out | apply below_alloc | apply pw_below_drewN | apply below_drew1 | refine below_set ?_ GE172.out | refine below_set ?_ GE181.out) | exact HB.out)) hb); clear HO_173001; clear HO_182001; clear BK172; clear BK181; clear HB; have HO_173001 := n0_; have HO_182001 := n1_; have HO186 := n2_; have BK172 := n3_; have BK181 := n4_; have HB := n5_; clear n0_ n1_ n2_ n3_ n4_ n5_; clear hb ho42; have hcv43 := own_string (P := Tryd.prog) Tryd.underlying66 Tryd.underlying5 Tryd.underlying9 (Kd.own_of_R HO186.out)))
                go_roundg k2
                case measure => have := HJ7.out; have := HK2.out; omega
                case rel => exact ⟨((strOfNums y184) ++ x12_2), (wrap64 (Int.tdiv x13_2 10)), (by first | rfl | (simp; done) | (simp [*]; done)), (by first | rfl | (simp; done) | (simp [*]; done)), H', ⟨by have := HJ7.out; have := HK2.out; omega⟩, ⟨by (with_reducible repeat (first | apply Kd.R_alloc | apply Kd.R_drewN | apply Kd.R_drew)); exact HO_173001.out⟩, ⟨by (with_reducible repeat (first | apply Kd.R_alloc | apply Kd.R_drewN | apply Kd.R_drew)); exact HO_182001.out⟩, ⟨by (with_reducible repeat (first | refine blk_drewN ?_ _ | refine blk_drew ?_ | refine blk_alloc ?_ _)); exact BK172.out⟩, ⟨by (with_reducible repeat (first | refine blk_drewN ?_ _ | refine blk_drew ?_ | refine blk_alloc ?_ _)); exact BK181.out⟩, ⟨by repeat (first | (with_reducible first | exact HB.out | apply below_alloc | apply pw_below_drewN | apply below_drew1 | refine below_set ?_ GE172.out | refine below_set ?_ GE181.out) | exact HB.out)⟩⟩
              · rw [if_neg c40] at H
                exact absurd H (by simp)
            · rw [if_neg c39] at H
              have c39b0 : (x12_2.toList == ([] : List UInt8)) = false := beq_eq_false_iff_ne.mpr c39
              have c39b1 : (x12_2.toList != ([] : List UInt8)) = true := bne_iff_ne.mpr c39
              by_cases c44 : x13_2 > 0
              · rw [if_pos c44] at H
                have c44b0 : decide (0 < x13_2) = true := decide_eq_true c44
                clear c44
                obtain ⟨y187, hy187⟩ : ∃ y_ : List Int, y_ = (([(wrap64 (48 + (Int.tmod x13_2 10))) % 256] : List Int)) := ⟨_, rfl⟩
                replace H : (if (strOfNums y187).size + x12_2.size ≤ 9223372036854775807 then (postilionlaw09_ReplyBack.l0 k2 a1 t183 a3 ((strOfNums y187) ++ x12_2) (wrap64 (Int.tdiv x13_2 10)) (wrap64 (100 + t168)) y169 a1 false) else (none)) = some r := by first | (rw [hy187]; with_reducible exact H) | (have H2_ := (Option.bind_some _ _).symm.trans H; rw [hy187]; with_reducible exact H2_) | (have H2_ := (Option.bind_some _ _).symm.trans H; with_reducible exact H2_) | with_reducible exact H | (rw [hy187]; exact H) | exact H
                have Ny187 := Aside0.mk hy187
                clear hy187
                by_cases c45 : (strOfNums y187).size + x12_2.size ≤ 9223372036854775807
                · rw [if_pos c45] at H
                  have c45b0 := eq_true c45
                  have c45b1 : decide ((strOfNums y187).size + x12_2.size ≤ 9223372036854775807) = true := decide_eq_true c45
                  try have c45b2 : (9223372036854775807 < (strOfNums y187).size + x12_2.size) = False := eq_false (Nat.not_lt.2 c45)
                  have H' := Aside0.mk H
                  clear H
                  go_wp2_with (first | ((with_reducible refine gate_dst (N := 72) rfl ?_); (try (refine gate_guard (by rfl) ?_; dsimp only)); refine Kd.R_lit (Kd.int .u8) _ 5 ?hg (N := 72) ?hd (xs := ([(wrap64 (48 + (Int.tmod x13_2 10))) % 256] : List Int)) (inner := [.int .u8 ((wrap64 (48 + (Int.tmod x13_2 10))) % 256)]) (ok := fun _ => True) (okp := fun _ => True) ?hr ?hp (fun _ hk => hk) trivial (Below.refl _ _) (Nat.le_refl _) (by simp) ?_; (case hd => rfl); (case hg => rfl); (case hr => first | (go_simp; done) | (go_simp; rfl)); (case hp => exact (Reps.one (show Kd.M (Kd.int .u8) _ _ _ ((wrap64 (48 + (Int.tmod x13_2 10))) % 256) [.int .u8 ((wrap64 (48 + (Int.tmod x13_2 10))) % 256)] from rfl) (Reps.none _ _))); intro v188 w46 ho47 hb hg_ hnew_; clear hg_ hnew_; (first | rw [← Ny187.out] at ho47 | (simp only [Int.reduceToNat] at ho47; rw [← Ny187.out] at ho47)); have n0_ := Aside0.mk (Kd.R_below (by (with_reducible repeat (first | apply Kd.R_alloc | apply Kd.R_drewN | apply Kd.R_drew)); exact HO_173001.out) hb); have n1_ := Aside0.mk (Kd.R_below (by (with_reducible repeat (first | apply Kd.R_alloc | apply Kd.R_drewN | apply Kd.R_drew)); exact HO_182001.out) hb); have n2_ := Aside0.mk (Kd.R_lower ho47 (below_size (by repeat (first | (with_reducible first | exact HB.out | apply below_alloc | apply pw_below_drewN | apply below_drew1 | refine below_set ?_ GE172.out | refine below_set ?_ GE181.out) | exact HB.out)))); have n3_ := Aside0.mk (blk_below (g := gb172) (o := .cells #[.int .i64 (wrap64 (100 + t168)), .slice Ao11 y169.length co11, .string a1, .bool false] 29 (0, 0)) (by (with_reducible repeat (first | refine blk_drewN ?_ _ | refine blk_drew ?_ | refine blk_alloc ?_ _)); exact BK172.out) hb); have n4_ := Aside0.mk (blk_below (g := gb181) (o := .cells #[.int .i64 t174, .slice Ao19 t175.length co19, .string t178, .bool t179] 29 (0, 0)) (by (with_reducible repeat (first | refine blk_drewN ?_ _ | refine blk_drew ?_ | refine blk_alloc ?_ _)); exact BK181.out) hb); have n5_ := Aside0.mk (below_step (by repeat (first | (with_reducible first | exact HB.out | apply below_alloc | apply pw_below_drewN | apply below_drew1 | refine below_set ?_ GE172.out | refine below_set ?_ GE181.out) | exact HB.out)) hb); clear HO_173001; clear HO_182001; clear BK172; clear BK181; clear HB; have HO_173001 := n0_; have HO_182001 := n1_; have HO189 := n2_; have BK172 := n3_; have BK181 := n4_; have HB := n5_; clear n0_ n1_ n2_ n3_ n4_ n5_; clear hb ho47; have hcv48 := own_string (P := Tryd.prog) Tryd.underlying66 Tryd.underlying5 Tryd.underlying9 (Kd.own_of_R HO189.out)))
                  go_roundg k2
                  case measure => have := HJ7.out; have := HK2.out; omega
                  case rel => exact ⟨((strOfNums y187) ++ x12_2), (wrap64 (Int.tdiv x13_2 10)), (by first | rfl | (simp; done) | (simp [*]; done)), (by first | rfl | (simp; done) | (simp [*]; done)), H', ⟨by have := HJ7.out; have := HK2.out; omega⟩, ⟨by (with_reducible repeat (first | apply Kd.R_alloc | apply Kd.R_drewN | apply Kd.R_drew)); exact HO_173001.out⟩, ⟨by (with_reducible repeat (first | apply Kd.R_alloc | apply Kd.R_drewN | apply Kd.R_drew)); exact HO_182001.out⟩, ⟨by (with_reducible repeat (first | refine blk_drewN ?_ _ | refine blk_drew ?_ | refine blk_alloc ?_ _)); exact BK172.out⟩, ⟨by (with_reducible repeat (first | refine blk_drewN ?_ _ | refine blk_drew ?_ | refine blk_alloc ?_ _)); exact BK181.out⟩, ⟨by repeat (first | (with_reducible first | exact HB.out | apply below_alloc | apply pw_below_drewN | apply below_drew1 | refine below_set ?_ GE172.out | refine below_set ?_ GE181.out) | exact HB.out)⟩⟩
                · rw [if_neg c45] at H
                  exact absurd H (by simp)
              · rw [if_neg c44] at H
                have c44b0 : decide (0 < x13_2) = false := decide_eq_false c44
                clear c44
                by_cases c49 : (x12_2.size : Int) > 6
                · rw [if_pos c49] at H
                  have c49b0 : decide (6 < (x12_2.size : Int)) = true := decide_eq_true c49
                  have c49b1 : decide (6 < x12_2.size) = true := decide_eq_true (by omega)
                  clear c49
                  replace H := Option.bind_eq_some_iff.mp H
                  obtain ⟨t190, A500, H⟩ := H
                  replace H : (some t190) = some r := H
                  have A50 := Aside0.mk A500
                  clear A500
                  obtain rfl := Option.some.inj H
                  go_wp2_with (first | ((with_reducible refine gate_callee (f := 14) rfl ?_); refine goesL_ (some 79) rfl rfl Tryd.func14 (by kernel_rfl) rfl #[] rfl (by (try simp only [List.map_toArray, List.map_cons, List.map_nil]); first | done | rfl | (simp only [List.length_drop, List.length_take]; rfl)) ?_; (with_reducible refine (postilionlaw09_wakes.calls k2  t190 _ ?side1 A50.out).mono ?_); (case side1 => exact Gl.below hG (by repeat (first | (with_reducible first | exact HB.out | apply below_alloc | apply pw_below_drewN | apply below_drew1 | refine below_set ?_ GE172.out | refine below_set ?_ GE181.out) | exact HB.out))); rintro e w51 ⟨rfl, hb⟩; refine ⟨_, rfl, ?_⟩; have n0_ := Aside0.mk (Kd.R_below (by (with_reducible repeat (first | apply Kd.R_alloc | apply Kd.R_drewN | apply Kd.R_drew)); exact HO_173001.out) hb); have n1_ := Aside0.mk (Kd.R_below (by (with_reducible repeat (first | apply Kd.R_alloc | apply Kd.R_drewN | apply Kd.R_drew)); exact HO_182001.out) hb); have n2_ := Aside0.mk (blk_below (g := gb172) (o := .cells #[.int .i64 (wrap64 (100 + t168)), .slice Ao11 y169.length co11, .string a1, .bool false] 29 (0, 0)) (by (with_reducible repeat (first | refine blk_drewN ?_ _ | refine blk_drew ?_ | refine blk_alloc ?_ _)); exact BK172.out) hb); have n3_ := Aside0.mk (blk_below (g := gb181) (o := .cells #[.int .i64 t174, .slice Ao19 t175.length co19, .string t178, .bool t179] 29 (0, 0)) (by (with_reducible repeat (first | refine blk_drewN ?_ _ | refine blk_drew ?_ | refine blk_alloc ?_ _)); exact BK181.out) hb); have n4_ := Aside0.mk (below_step (by repeat (first | (with_reducible first | exact HB.out | apply below_alloc | apply pw_below_drewN | apply below_drew1 | refine below_set ?_ GE172.out | refine below_set ?_ GE181.out) | exact HB.out)) hb); clear HO_173001; clear HO_182001; clear BK172; clear BK181; clear HB; have HO_173001 := n0_; have HO_182001 := n1_; have BK172 := n2_; have BK181 := n3_; have HB := n4_; clear n0_ n1_ n2_ n3_ n4_; (try clear hb); (try clear hb2); (try clear hk); (try clear hi)))
                  go_ret
                  exact ⟨by first | rfl | (simp [errW_none, errW_some] <;> rfl) | (simp [*, errW_none, errW_some] <;> rfl), by repeat (first | (with_reducible first | exact HB.out | apply below_alloc | apply pw_below_drewN | apply below_drew1 | refine below_set ?_ GE172.out | refine below_set ?_ GE181.out) | exact HB.out)⟩
                · rw [if_neg c49] at H
                  have c49b0 : decide (6 < (x12_2.size : Int)) = false := decide_eq_false c49
                  have c49b1 : decide (6 < x12_2.size) = false := decide_eq_false (by omega)
                  clear c49
                  obtain ⟨y191, hy191⟩ : ∃ y_ : List ByteArray, y_ = (([(⟨#[67, 111, 110, 116, 101, 110, 116, 45, 76, 101, 110, 103, 116, 104]⟩ : ByteArray), (⟨#[99, 111, 110, 116, 101, 110, 116, 45, 108, 101, 110, 103, 116, 104]⟩ : ByteArray), (⟨#[67, 79, 78, 84, 69, 78, 84, 45, 76, 69, 78, 71, 84, 72]⟩ : ByteArray)] : List ByteArray)) := ⟨_, rfl⟩
                  replace H : ((postilionkeep_Within.f a3 3).bind fun t194 => (if 0 ≤ t194 then (if t194 < (y191.length : Int) then (if y169.length < 4398046511104 then ((some (y169 ++ [(⟨rdOf ByteArray.empty y191 t194, x12_2⟩ : S27)] : List (S27))).bind fun y196 => ((reply_Print.f k2 (wrap64 (100 + t168)) y196 a1 false).bind fun t199 => ((reply_Parse.f k2 t199).bind fun bt200 => (if bt200.2.2.2.2 = 0 then (if (bt200.2.2.2.1 != (decide (t183 > (a1.size : Int)))) = true then (postilionlaw09_ReplyBack.j2 k2 true (wrap64 (100 + t168)) y196 a1 false) else (if 0 ≤ (mn t183 (a1.size : Int)) then (if (mn t183 (a1.size : Int)) ≤ (a1.size : Int) then (postilionlaw09_ReplyBack.j2 k2 (bt200.2.2.1.toList != (a1.extract 0 ((mn t183 (a1.size : Int)) : Int).toNat).toList) (wrap64 (100 + t168)) y196 a1 false) else (none)) else (none))) else (postilionlaw09_ReplyBack.j2 k2 true (wrap64 (100 + t168)) y196 a1 false))))) else (none)) else (none)) else (none))) = some r := by first | (rw [hy191]; with_reducible exact H) | (have H2_ := (Option.bind_some _ _).symm.trans H; rw [hy191]; with_reducible exact H2_) | (have H2_ := (Option.bind_some _ _).symm.trans H; with_reducible exact H2_) | with_reducible exact H | (rw [hy191]; exact H) | exact H
                  have Ny191 := Aside0.mk hy191
                  clear hy191
                  replace H := Option.bind_eq_some_iff.mp H
                  obtain ⟨t194, A520, H⟩ := H
                  replace H : (if 0 ≤ t194 then (if t194 < (y191.length : Int) then (if y169.length < 4398046511104 then ((some (y169 ++ [(⟨rdOf ByteArray.empty y191 t194, x12_2⟩ : S27)] : List (S27))).bind fun y196 => ((reply_Print.f k2 (wrap64 (100 + t168)) y196 a1 false).bind fun t199 => ((reply_Parse.f k2 t199).bind fun bt200 => (if bt200.2.2.2.2 = 0 then (if (bt200.2.2.2.1 != (decide (t183 > (a1.size : Int)))) = true then (postilionlaw09_ReplyBack.j2 k2 true (wrap64 (100 + t168)) y196 a1 false) else (if 0 ≤ (mn t183 (a1.size : Int)) then (if (mn t183 (a1.size : Int)) ≤ (a1.size : Int) then (postilionlaw09_ReplyBack.j2 k2 (bt200.2.2.1.toList != (a1.extract 0 ((mn t183 (a1.size : Int)) : Int).toNat).toList) (wrap64 (100 + t168)) y196 a1 false) else (none)) else (none))) else (postilionlaw09_ReplyBack.j2 k2 true (wrap64 (100 + t168)) y196 a1 false))))) else (none)) else (none)) else (none)) = some r := H
                  have A52 := Aside0.mk A520
                  clear A520
                  by_cases c53 : 0 ≤ t194
                  · rw [if_pos c53] at H
                    have c53b0 : decide (0 ≤ t194) = true := decide_eq_true c53
                    clear c53
                    by_cases c54 : t194 < (y191.length : Int)
                    · rw [if_pos c54] at H
                      have c54b0 : decide (t194 < (y191.length : Int)) = true := decide_eq_true c54
                      clear c54
                      by_cases c55 : y169.length < 4398046511104
                      · rw [if_pos c55] at H
                        have LMc55 := Aside0.mk c55
                        clear c55
                        obtain ⟨y196, hy196⟩ : ∃ y_ : List (S27), y_ = (y169 ++ [(⟨rdOf ByteArray.empty y191 t194, x12_2⟩ : S27)]) := ⟨_, rfl⟩
                        replace H : ((reply_Print.f k2 (wrap64 (100 + t168)) y196 a1 false).bind fun t199 => ((reply_Parse.f k2 t199).bind fun bt200 => (if bt200.2.2.2.2 = 0 then (if (bt200.2.2.2.1 != (decide (t183 > (a1.size : Int)))) = true then (postilionlaw09_ReplyBack.j2 k2 true (wrap64 (100 + t168)) y196 a1 false) else (if 0 ≤ (mn t183 (a1.size : Int)) then (if (mn t183 (a1.size : Int)) ≤ (a1.size : Int) then (postilionlaw09_ReplyBack.j2 k2 (bt200.2.2.1.toList != (a1.extract 0 ((mn t183 (a1.size : Int)) : Int).toNat).toList) (wrap64 (100 + t168)) y196 a1 false) else (none)) else (none))) else (postilionlaw09_ReplyBack.j2 k2 true (wrap64 (100 + t168)) y196 a1 false)))) = some r := by first | (rw [hy196]; with_reducible exact H) | (have H2_ := (Option.bind_some _ _).symm.trans H; rw [hy196]; with_reducible exact H2_) | (have H2_ := (Option.bind_some _ _).symm.trans H; with_reducible exact H2_) | with_reducible exact H | (rw [hy196]; exact H) | exact H
                        have Ny196 := Aside0.mk hy196
                        clear hy196
                        replace H := Option.bind_eq_some_iff.mp H
                        obtain ⟨t199, A560, H⟩ := H
                        replace H : ((reply_Parse.f k2 t199).bind fun bt200 => (if bt200.2.2.2.2 = 0 then (if (bt200.2.2.2.1 != (decide (t183 > (a1.size : Int)))) = true then (postilionlaw09_ReplyBack.j2 k2 true (wrap64 (100 + t168)) y196 a1 false) else (if 0 ≤ (mn t183 (a1.size : Int)) then (if (mn t183 (a1.size : Int)) ≤ (a1.size : Int) then (postilionlaw09_ReplyBack.j2 k2 (bt200.2.2.1.toList != (a1.extract 0 ((mn t183 (a1.size : Int)) : Int).toNat).toList) (wrap64 (100 + t168)) y196 a1 false) else (none)) else (none))) else (postilionlaw09_ReplyBack.j2 k2 true (wrap64 (100 + t168)) y196 a1 false))) = some r := H
                        have A56 := Aside0.mk A560
                        clear A560
                        replace H := Option.bind_eq_some_iff.mp H
                        obtain ⟨⟨t200, t201, t204, t205, t206⟩, A570, H⟩ := H
                        replace H : (if t206 = 0 then (if (t205 != (decide (t183 > (a1.size : Int)))) = true then (postilionlaw09_ReplyBack.j2 k2 true (wrap64 (100 + t168)) y196 a1 false) else (if 0 ≤ (mn t183 (a1.size : Int)) then (if (mn t183 (a1.size : Int)) ≤ (a1.size : Int) then (postilionlaw09_ReplyBack.j2 k2 (t204.toList != (a1.extract 0 ((mn t183 (a1.size : Int)) : Int).toNat).toList) (wrap64 (100 + t168)) y196 a1 false) else (none)) else (none))) else (postilionlaw09_ReplyBack.j2 k2 true (wrap64 (100 + t168)) y196 a1 false)) = some r := H
                        have A57 := Aside0.mk A570
                        clear A570
                        have HC58 := Aside0.mk H
                        clear H
                        try go_wp2
                        have pi195 : (0 ≤ (t194 : Int)) = True := eq_true (of_decide_eq_true (by first | (with_reducible assumption) | assumption))
                        have qi195 : (t194 < (y191.length : Int)) = True := eq_true (of_decide_eq_true (by first | (with_reducible assumption) | assumption))
                        have n0_ := Aside0.mk (Kd.R_drew HO_173001.out)
                        have n1_ := Aside0.mk (Kd.R_drew HO_182001.out)
                        have n2_ := Aside0.mk (blk_drew BK172.out)
                        have n3_ := Aside0.mk (blk_drew BK181.out)
                        have n4_ := Aside0.mk (below_drew1 HB.out)
                        clear HO_173001
                        clear HO_182001
                        clear BK172
                        clear BK181
                        clear HB
                        have HO_173001 := n0_
                        have HO_182001 := n1_
                        have BK172 := n2_
                        have BK181 := n3_
                        have HB := n4_
                        clear n0_ n1_ n2_ n3_ n4_
                        refine start_ (n := 13) (S := fun w' => w'.cell? ⟨gb172, 0, none⟩ = some (.int .i64 (wrap64 (100 + t168))) ∧ w'.cell? ⟨gb172, 1, none⟩ = some (.slice Ao11 y169.length co11) ∧ w'.cell? ⟨gb172, 2, none⟩ = some (.string a1) ∧ w'.cell? ⟨gb172, 3, none⟩ = some (.bool false)) (ds := [12]) #[false, false, false, false, false, false, false, false, false, false, false, false, false] (by kernel_rfl) rfl rfl ⟨(blk_cell BK172.out 0).trans rfl, (blk_cell BK172.out 1).trans rfl, (blk_cell BK172.out 2).trans rfl, (blk_cell BK172.out 3).trans rfl⟩ (fun hHeld => ?_); refine with_tabW postilionlaw09_ReplyBack.tab13 postilionlaw09_ReplyBack.bits13 (fun HT_ HW_ => ?_)
                        generalize wr.drew = w59 at HO_173001 HO_182001 BK172 BK181 HB hHeld ⊢
                        refine pure_ (i := 0) (N := some 80) (v := ?_) (a' := ?_) #[true, false, false, false, false, false, false, false, false, false, false, false, false] rfl rfl (any_of HT_.out (by kernel_rfl)) (fun _ _ _ h => h) (Or.inl ⟨by rfl, ?_⟩) ?_ ?_
                        rotate_left
                        · intro w'
                          go_simp
                          with_reducible rfl
                        rotate_left
                        · simp only [Act.put, List.setIfInBounds_toArray, List.set_cons_zero, List.set_cons_succ, i64_w, i32_w]
                          rfl
                        refine pure_ (i := 3) (N := some 83) (v := ?_) (a' := ?_) #[true, false, false, true, false, false, false, false, false, false, false, false, false] rfl rfl (any_of HT_.out (by kernel_rfl)) (fun _ _ _ h => h) (Or.inl ⟨by rfl, ?_⟩) ?_ ?_
                        rotate_left
                        · intro w'
                          go_simp
                          with_reducible rfl
                        rotate_left
                        · simp only [Act.put, List.setIfInBounds_toArray, List.set_cons_zero, List.set_cons_succ, i64_w, i32_w]
                          rfl
                        refine pure_ (i := 7) (N := some 87) (v := ?_) (a' := ?_) #[true, false, false, true, false, false, false, true, false, false, false, false, false] rfl rfl (any_of HT_.out (by kernel_rfl)) (fun _ _ _ h => h) (Or.inl ⟨by rfl, ?_⟩) ?_ ?_
                        rotate_left
                        · intro w'
                          go_simp
                          with_reducible rfl
                        rotate_left
                        · simp only [Act.put, List.setIfInBounds_toArray, List.set_cons_zero, List.set_cons_succ, i64_w, i32_w]
                          rfl
                        refine take_ (i := 1) (N := some 81) (v := ?_) (a' := ?_) #[true, true, false, true, false, false, false, true, false, false, false, false, false] rfl rfl (take_ofW HT_.out HW_.out (by kernel_rfl)) (fun _ _ _ h => h) (Or.inl ⟨by rfl, ?_⟩) hHeld ?_ ?_
                        rotate_left
                        · rintro w' ⟨s0, s1, s2, s3⟩
                          go_simp
                          with_reducible rfl
                        rotate_left
                        · simp only [Act.put, List.setIfInBounds_toArray, List.set_cons_zero, List.set_cons_succ, i64_w, i32_w]
                          rfl
                        refine join_ (σ := Value × Addr) 7 #[true, true, true, true, true, false, false, true, false, false, false, false, false] (fun s_ => [(82, s_.1), (84, .int .i64 t194)]) (fun s_ w' => (w'.cell? ⟨gb172, 0, none⟩ = some (.int .i64 (wrap64 (100 + t168))) ∧ w'.cell? ⟨gb172, 1, none⟩ = some (.slice Ao11 y169.length co11) ∧ w'.cell? ⟨gb172, 2, none⟩ = some (.string a1) ∧ w'.cell? ⟨gb172, 3, none⟩ = some (.bool false)) ∧ (Kd.R Kd.string 9 w' w.heap.size (fun _ => True) s_.1 y191) ∧ (Kd.R k27 27 w' w.heap.size (fun k_ => some k_ ≠ (.slice Ao19 t175.length co19 : Value).ownBlock) (.slice Ao11 y169.length co11) y169) ∧ (Kd.R k27 27 w' w.heap.size (fun k_ => some k_ ≠ (.slice Ao11 y169.length co11 : Value).ownBlock) (.slice Ao19 t175.length co19) t175) ∧ (∃ c_, (s_.1 : Value) = .slice (some s_.2) y191.length c_) ∧ (w'.heap[gb172]? = some (.cells #[.int .i64 (wrap64 (100 + t168)), .slice Ao11 y169.length co11, .string a1, .bool false] 29 (0, 0))) ∧ (w'.heap[gb181]? = some (.cells #[.int .i64 t174, .slice Ao19 t175.length co19, .string t178, .bool t179] 29 (0, 0))) ∧ (Below w.heap.size w w')) ?_ ?_
                        rotate_left
                        · intro hCont
                          refine two_ (i := 2) (j := 4) (Ni := some 82) (Nj := some 84) #[true, true, true, true, false, false, false, true, false, false, false, false, false] #[true, true, false, true, true, false, false, true, false, false, false, false, false] rfl rfl rfl rfl (two_of HT_.out (by kernel_rfl)) (by decide) (by decide) (fun K hK => ?_) (fun K hK => ?_)
                          · skip
                            refine Kd.R_lit_step Kd.string _ 9 ?hg (N := 82) ?hd (xs := ([(⟨#[67, 111, 110, 116, 101, 110, 116, 45, 76, 101, 110, 103, 116, 104]⟩ : ByteArray), (⟨#[99, 111, 110, 116, 101, 110, 116, 45, 108, 101, 110, 103, 116, 104]⟩ : ByteArray), (⟨#[67, 79, 78, 84, 69, 78, 84, 45, 76, 69, 78, 71, 84, 72]⟩ : ByteArray)] : List ByteArray)) (inner := [.string (⟨#[67, 111, 110, 116, 101, 110, 116, 45, 76, 101, 110, 103, 116, 104]⟩ : ByteArray), .string (⟨#[99, 111, 110, 116, 101, 110, 116, 45, 108, 101, 110, 103, 116, 104]⟩ : ByteArray), .string (⟨#[67, 79, 78, 84, 69, 78, 84, 45, 76, 69, 78, 71, 84, 72]⟩ : ByteArray)]) (ok := fun _ => True) (okp := fun _ => True) ?hr ?hp (fun _ hk => hk) trivial (Below.refl _ _) (Nat.le_refl _) (by simp) ?_; (case hd => rfl); (case hg => rfl); (case hr => first | (go_simp; done) | (go_simp; rfl)); (case hp => exact (Reps.one (show Kd.M Kd.string _ _ _ (⟨#[67, 111, 110, 116, 101, 110, 116, 45, 76, 101, 110, 103, 116, 104]⟩ : ByteArray) [.string (⟨#[67, 111, 110, 116, 101, 110, 116, 45, 76, 101, 110, 103, 116, 104]⟩ : ByteArray)] from rfl) (Reps.one (show Kd.M Kd.string _ _ _ (⟨#[99, 111, 110, 116, 101, 110, 116, 45, 108, 101, 110, 103, 116, 104]⟩ : ByteArray) [.string (⟨#[99, 111, 110, 116, 101, 110, 116, 45, 108, 101, 110, 103, 116, 104]⟩ : ByteArray)] from rfl) (Reps.one (show Kd.M Kd.string _ _ _ (⟨#[67, 79, 78, 84, 69, 78, 84, 45, 76, 69, 78, 71, 84, 72]⟩ : ByteArray) [.string (⟨#[67, 79, 78, 84, 69, 78, 84, 45, 76, 69, 78, 71, 84, 72]⟩ : ByteArray)] from rfl) (Reps.none _ _)))))
                            intro v192 w60 ho61 hb hg_ hnew_
                            clear hg_ hnew_
                            (first | rw [← Ny191.out] at ho61 | (simp only [Int.reduceToNat] at ho61; rw [← Ny191.out] at ho61))
                            have n0_ := Aside0.mk (Kd.R_below (by (with_reducible repeat (first | apply Kd.R_alloc | apply Kd.R_drewN | apply Kd.R_drew)); exact HO_173001.out) hb)
                            have n1_ := Aside0.mk (Kd.R_below (by (with_reducible repeat (first | apply Kd.R_alloc | apply Kd.R_drewN | apply Kd.R_drew)); exact HO_182001.out) hb)
                            have n2_ := Aside0.mk (Kd.R_lower ho61 (below_size (by repeat (first | (with_reducible first | exact HB.out | apply below_alloc | apply pw_below_drewN | apply below_drew1 | refine below_set ?_ GE172.out | refine below_set ?_ GE181.out) | exact HB.out))))
                            have n3_ := Aside0.mk (blk_below (g := gb172) (o := .cells #[.int .i64 (wrap64 (100 + t168)), .slice Ao11 y169.length co11, .string a1, .bool false] 29 (0, 0)) (by (with_reducible repeat (first | refine blk_drewN ?_ _ | refine blk_drew ?_ | refine blk_alloc ?_ _)); exact BK172.out) hb)
                            have n4_ := Aside0.mk (blk_below (g := gb181) (o := .cells #[.int .i64 t174, .slice Ao19 t175.length co19, .string t178, .bool t179] 29 (0, 0)) (by (with_reducible repeat (first | refine blk_drewN ?_ _ | refine blk_drew ?_ | refine blk_alloc ?_ _)); exact BK181.out) hb)
                            have n5_ := Aside0.mk (below_step (by repeat (first | (with_reducible first | exact HB.out | apply below_alloc | apply pw_below_drewN | apply below_drew1 | refine below_set ?_ GE172.out | refine below_set ?_ GE181.out) | exact HB.out)) hb)
                            clear HO_173001
                            clear HO_182001
                            clear BK172
                            clear BK181
                            clear HB
                            have HO_173001 := n0_
                            have HO_182001 := n1_
                            have HO193 := n2_
                            have BK172 := n3_
                            have BK181 := n4_
                            have HB := n5_
                            clear n0_ n1_ n2_ n3_ n4_ n5_
                            clear hb ho61
                            obtain ⟨Ao62, co62, eo62⟩ := Kd.R_slice HO193.out
                            subst eo62
                            obtain ⟨ado62, fo62, _⟩ := Kd.at_string (Kd.R_reads' HO193.out).2.2 0 (by decide) (by rw [Ny191.out]; simp)
                            cases fo62
                            refine hK.out _ _ ⟨(blk_cell BK172.out 0).trans rfl, (blk_cell BK172.out 1).trans rfl, (blk_cell BK172.out 2).trans rfl, (blk_cell BK172.out 3).trans rfl⟩ (fun hHeld => ?_)
                            clear hK K
                            refine norm_ (a' := ?_) ?_ ?_
                            rotate_left
                            · show Act.put _ (some 82) _ = _
                              simp only [Act.put, List.setIfInBounds_toArray, List.set_cons_zero, List.set_cons_succ, i64_w, i32_w]
                              rfl
                            refine one_ (i := 4) (N := some 84) #[true, true, true, true, true, false, false, true, false, false, false, false, false] rfl rfl (one_of HT_.out (by kernel_rfl)) (by decide) (fun K hK => ?_)
                            refine goes_ Tryd.func12 (by kernel_rfl) rfl #[.int .i64 a3, .int .i64 3] (by rfl) rfl rfl (by (try simp only [List.map_toArray, List.map_cons, List.map_nil]); first | done | rfl | (simp only [List.length_drop, List.length_take]; rfl)) ?_
                            with_reducible refine (postilionkeep_Within.calls a3 3 t194 _ A52.out).mono ?_
                            rintro e w' ⟨rfl, ⟨nd, rfl⟩⟩
                            refine ⟨_, rfl, ?_⟩
                            refine hK.out _ _ ⟨(blk_cell BK172.out 0).trans rfl, (blk_cell BK172.out 1).trans rfl, (blk_cell BK172.out 2).trans rfl, (blk_cell BK172.out 3).trans rfl⟩ (fun hHeld => ?_)
                            clear hK K
                            refine norm_ (a' := ?_) ?_ ?_
                            rotate_left
                            · show Act.put _ (some 84) _ = _
                              simp only [Act.put, List.setIfInBounds_toArray, List.set_cons_zero, List.set_cons_succ, i64_w, i32_w]
                              rfl
                            exact norm_ (by simp only [putAll, Act.put, List.setIfInBounds_toArray, List.set_cons_zero, List.set_cons_succ]) (hCont (.slice (some ado62) y191.length co62, ado62) _ ⟨hHeld, (by (with_reducible repeat (first | apply Kd.R_alloc | apply Kd.R_drewN | apply Kd.R_drew)); exact HO193.out), (by (with_reducible repeat (first | apply Kd.R_alloc | apply Kd.R_drewN | apply Kd.R_drew)); exact HO_173001.out), (by (with_reducible repeat (first | apply Kd.R_alloc | apply Kd.R_drewN | apply Kd.R_drew)); exact HO_182001.out), ⟨_, rfl⟩, (by (with_reducible repeat (first | refine blk_drewN ?_ _ | refine blk_drew ?_ | refine blk_alloc ?_ _)); exact BK172.out), (by (with_reducible repeat (first | refine blk_drewN ?_ _ | refine blk_drew ?_ | refine blk_alloc ?_ _)); exact BK181.out), (by repeat (first | (with_reducible first | exact HB.out | apply below_alloc | apply pw_below_drewN | apply below_drew1 | refine below_set ?_ GE172.out | refine below_set ?_ GE181.out) | exact HB.out))⟩)
                          · skip
                            refine goes_ Tryd.func12 (by kernel_rfl) rfl #[.int .i64 a3, .int .i64 3] (by rfl) rfl rfl (by (try simp only [List.map_toArray, List.map_cons, List.map_nil]); first | done | rfl | (simp only [List.length_drop, List.length_take]; rfl)) ?_
                            with_reducible refine (postilionkeep_Within.calls a3 3 t194 _ A52.out).mono ?_
                            rintro e w' ⟨rfl, ⟨nd, rfl⟩⟩
                            refine ⟨_, rfl, ?_⟩
                            refine hK.out _ _ ⟨(blk_cell BK172.out 0).trans rfl, (blk_cell BK172.out 1).trans rfl, (blk_cell BK172.out 2).trans rfl, (blk_cell BK172.out 3).trans rfl⟩ (fun hHeld => ?_)
                            clear hK K
                            refine norm_ (a' := ?_) ?_ ?_
                            rotate_left
                            · show Act.put _ (some 84) _ = _
                              simp only [Act.put, List.setIfInBounds_toArray, List.set_cons_zero, List.set_cons_succ, i64_w, i32_w]
                              rfl
                            refine one_ (i := 2) (N := some 82) #[true, true, true, true, true, false, false, true, false, false, false, false, false] rfl rfl (one_of HT_.out (by kernel_rfl)) (by decide) (fun K hK => ?_)
                            refine Kd.R_lit_step Kd.string _ 9 ?hg (N := 82) ?hd (xs := ([(⟨#[67, 111, 110, 116, 101, 110, 116, 45, 76, 101, 110, 103, 116, 104]⟩ : ByteArray), (⟨#[99, 111, 110, 116, 101, 110, 116, 45, 108, 101, 110, 103, 116, 104]⟩ : ByteArray), (⟨#[67, 79, 78, 84, 69, 78, 84, 45, 76, 69, 78, 71, 84, 72]⟩ : ByteArray)] : List ByteArray)) (inner := [.string (⟨#[67, 111, 110, 116, 101, 110, 116, 45, 76, 101, 110, 103, 116, 104]⟩ : ByteArray), .string (⟨#[99, 111, 110, 116, 101, 110, 116, 45, 108, 101, 110, 103, 116, 104]⟩ : ByteArray), .string (⟨#[67, 79, 78, 84, 69, 78, 84, 45, 76, 69, 78, 71, 84, 72]⟩ : ByteArray)]) (ok := fun _ => True) (okp := fun _ => True) ?hr ?hp (fun _ hk => hk) trivial (Below.refl _ _) (Nat.le_refl _) (by simp) ?_; (case hd => rfl); (case hg => rfl); (case hr => first | (go_simp; done) | (go_simp; rfl)); (case hp => exact (Reps.one (show Kd.M Kd.string _ _ _ (⟨#[67, 111, 110, 116, 101, 110, 116, 45, 76, 101, 110, 103, 116, 104]⟩ : ByteArray) [.string (⟨#[67, 111, 110, 116, 101, 110, 116, 45, 76, 101, 110, 103, 116, 104]⟩ : ByteArray)] from rfl) (Reps.one (show Kd.M Kd.string _ _ _ (⟨#[99, 111, 110, 116, 101, 110, 116, 45, 108, 101, 110, 103, 116, 104]⟩ : ByteArray) [.string (⟨#[99, 111, 110, 116, 101, 110, 116, 45, 108, 101, 110, 103, 116, 104]⟩ : ByteArray)] from rfl) (Reps.one (show Kd.M Kd.string _ _ _ (⟨#[67, 79, 78, 84, 69, 78, 84, 45, 76, 69, 78, 71, 84, 72]⟩ : ByteArray) [.string (⟨#[67, 79, 78, 84, 69, 78, 84, 45, 76, 69, 78, 71, 84, 72]⟩ : ByteArray)] from rfl) (Reps.none _ _)))))
                            intro v192 w60 ho61 hb hg_ hnew_
                            clear hg_ hnew_
                            (first | rw [← Ny191.out] at ho61 | (simp only [Int.reduceToNat] at ho61; rw [← Ny191.out] at ho61))
                            have n0_ := Aside0.mk (Kd.R_below (by (with_reducible repeat (first | apply Kd.R_alloc | apply Kd.R_drewN | apply Kd.R_drew)); exact HO_173001.out) hb)
                            have n1_ := Aside0.mk (Kd.R_below (by (with_reducible repeat (first | apply Kd.R_alloc | apply Kd.R_drewN | apply Kd.R_drew)); exact HO_182001.out) hb)
                            have n2_ := Aside0.mk (Kd.R_lower ho61 (below_size (by repeat (first | (with_reducible first | exact HB.out | apply below_alloc | apply pw_below_drewN | apply below_drew1 | refine below_set ?_ GE172.out | refine below_set ?_ GE181.out) | exact HB.out))))
                            have n3_ := Aside0.mk (blk_below (g := gb172) (o := .cells #[.int .i64 (wrap64 (100 + t168)), .slice Ao11 y169.length co11, .string a1, .bool false] 29 (0, 0)) (by (with_reducible repeat (first | refine blk_drewN ?_ _ | refine blk_drew ?_ | refine blk_alloc ?_ _)); exact BK172.out) hb)
                            have n4_ := Aside0.mk (blk_below (g := gb181) (o := .cells #[.int .i64 t174, .slice Ao19 t175.length co19, .string t178, .bool t179] 29 (0, 0)) (by (with_reducible repeat (first | refine blk_drewN ?_ _ | refine blk_drew ?_ | refine blk_alloc ?_ _)); exact BK181.out) hb)
                            have n5_ := Aside0.mk (below_step (by repeat (first | (with_reducible first | exact HB.out | apply below_alloc | apply pw_below_drewN | apply below_drew1 | refine below_set ?_ GE172.out | refine below_set ?_ GE181.out) | exact HB.out)) hb)
                            clear HO_173001
                            clear HO_182001
                            clear BK172
                            clear BK181
                            clear HB
                            have HO_173001 := n0_
                            have HO_182001 := n1_
                            have HO193 := n2_
                            have BK172 := n3_
                            have BK181 := n4_
                            have HB := n5_
                            clear n0_ n1_ n2_ n3_ n4_ n5_
                            clear hb ho61
                            obtain ⟨Ao62, co62, eo62⟩ := Kd.R_slice HO193.out
                            subst eo62
                            obtain ⟨ado62, fo62, _⟩ := Kd.at_string (Kd.R_reads' HO193.out).2.2 0 (by decide) (by rw [Ny191.out]; simp)
                            cases fo62
                            refine hK.out _ _ ⟨(blk_cell BK172.out 0).trans rfl, (blk_cell BK172.out 1).trans rfl, (blk_cell BK172.out 2).trans rfl, (blk_cell BK172.out 3).trans rfl⟩ (fun hHeld => ?_)
                            clear hK K
                            refine norm_ (a' := ?_) ?_ ?_
                            rotate_left
                            · show Act.put _ (some 82) _ = _
                              simp only [Act.put, List.setIfInBounds_toArray, List.set_cons_zero, List.set_cons_succ, i64_w, i32_w]
                              rfl
                            exact norm_ (by simp only [putAll, Act.put, List.setIfInBounds_toArray, List.set_cons_zero, List.set_cons_succ]) (hCont (.slice (some ado62) y191.length co62, ado62) _ ⟨hHeld, (by (with_reducible repeat (first | apply Kd.R_alloc | apply Kd.R_drewN | apply Kd.R_drew)); exact HO193.out), (by (with_reducible repeat (first | apply Kd.R_alloc | apply Kd.R_drewN | apply Kd.R_drew)); exact HO_173001.out), (by (with_reducible repeat (first | apply Kd.R_alloc | apply Kd.R_drewN | apply Kd.R_drew)); exact HO_182001.out), ⟨_, rfl⟩, (by (with_reducible repeat (first | refine blk_drewN ?_ _ | refine blk_drew ?_ | refine blk_alloc ?_ _)); exact BK172.out), (by (with_reducible repeat (first | refine blk_drewN ?_ _ | refine blk_drew ?_ | refine blk_alloc ?_ _)); exact BK181.out), (by repeat (first | (with_reducible first | exact HB.out | apply below_alloc | apply pw_below_drewN | apply below_drew1 | refine below_set ?_ GE172.out | refine below_set ?_ GE181.out) | exact HB.out))⟩)
                        rintro ⟨v192, adz_v192⟩ w63 ⟨hS_, h0_, h1_, h2_, h3_, h4_, h5_, h6_⟩
                        have n0_ : Aside0 (Kd.R Kd.string 9 w63 w.heap.size (fun _ => True) v192 y191) := ⟨h0_⟩
                        have n1_ : Aside0 (Kd.R k27 27 w63 w.heap.size (fun k_ => some k_ ≠ (.slice Ao19 t175.length co19 : Value).ownBlock) (.slice Ao11 y169.length co11) y169) := ⟨h1_⟩
                        have n2_ : Aside0 (Kd.R k27 27 w63 w.heap.size (fun k_ => some k_ ≠ (.slice Ao11 y169.length co11 : Value).ownBlock) (.slice Ao19 t175.length co19) t175) := ⟨h2_⟩
                        have n3_ : Aside0 (∃ c_, (v192 : Value) = .slice (some adz_v192) y191.length c_) := ⟨h3_⟩
                        have n4_ : Aside0 (w63.heap[gb172]? = some (.cells #[.int .i64 (wrap64 (100 + t168)), .slice Ao11 y169.length co11, .string a1, .bool false] 29 (0, 0))) := ⟨h4_⟩
                        have n5_ : Aside0 (w63.heap[gb181]? = some (.cells #[.int .i64 t174, .slice Ao19 t175.length co19, .string t178, .bool t179] 29 (0, 0))) := ⟨h5_⟩
                        have n6_ : Aside0 (Below w.heap.size w w63) := ⟨h6_⟩
                        clear HO_173001
                        clear HO_182001
                        clear BK172
                        clear BK181
                        clear HB
                        clear h0_ h1_ h2_ h3_ h4_ h5_ h6_
                        have HO193 := n0_
                        have HO_173001 := n1_
                        have HO_182001 := n2_
                        have HA_HO193 := n3_
                        have BK172 := n4_
                        have BK181 := n5_
                        have HB := n6_
                        clear n0_ n1_ n2_ n3_ n4_ n5_ n6_
                        have hHeld : w63.cell? ⟨gb172, 0, none⟩ = some (.int .i64 (wrap64 (100 + t168))) ∧ w63.cell? ⟨gb172, 1, none⟩ = some (.slice Ao11 y169.length co11) ∧ w63.cell? ⟨gb172, 2, none⟩ = some (.string a1) ∧ w63.cell? ⟨gb172, 3, none⟩ = some (.bool false) := hS_
                        obtain ⟨co64, eo64⟩ := HA_HO193.out
                        clear HA_HO193
                        subst eo64
                        refine norm_ (a' := ?_) ?_ ?_
                        rotate_left
                        · simp only [putAll, Act.put, List.setIfInBounds_toArray, List.set_cons_zero, List.set_cons_succ]
                          rfl
                        refine pure_ (i := 5) (N := some 85) (v := ?_) (a' := ?_) #[true, true, true, true, true, true, false, true, false, false, false, false, false] rfl rfl (any_of HT_.out (by kernel_rfl)) (fun _ _ _ h => h) (Or.inl ⟨by rfl, ?_⟩) ?_ ?_
                        rotate_left
                        · intro w'
                          go_simp
                          with_reducible rfl
                        rotate_left
                        · simp only [Act.put, List.setIfInBounds_toArray, List.set_cons_zero, List.set_cons_succ, i64_w, i32_w]
                          rfl
                        refine one_ (i := 6) (N := some 86) #[true, true, true, true, true, true, true, true, false, false, false, false, false] rfl rfl (one_of HT_.out (by kernel_rfl)) (by decide) (fun K hK => ?_)
                        (have p195 : 0 ≤ (t194 : Int) := of_decide_eq_true (by first | (with_reducible assumption) | assumption); have q195 : t194 < (y191.length : Int) := of_decide_eq_true (by first | (with_reducible assumption) | assumption); obtain ⟨ad195, e195, hx195_0⟩ := Kd.at_string (Kd.R_reads' HO193.out).2.2 t194 p195 q195; obtain rfl : adz_v192 = ad195 := (by injection e195))
                        refine value_ (w1 := ?_) (v := ?_) (by rfl) rfl ?_ ?_
                        rotate_left 2
                        · go_simp
                          constructor
                          · rfl
                          · rfl
                        clear hx195_0
                        refine hK.out _ _ ⟨(blk_cell BK172.out 0).trans rfl, (blk_cell BK172.out 1).trans rfl, (blk_cell BK172.out 2).trans rfl, (blk_cell BK172.out 3).trans rfl⟩ (fun hHeld => ?_)
                        clear hK K
                        refine norm_ (a' := ?_) ?_ ?_
                        rotate_left
                        · show Act.put _ (some 86) _ = _
                          simp only [Act.put, List.setIfInBounds_toArray, List.set_cons_zero, List.set_cons_succ, i64_w, i32_w]
                          rfl
                        refine pure_ (i := 8) (N := some 88) (v := ?_) (a' := ?_) #[true, true, true, true, true, true, true, true, true, false, false, false, false] rfl rfl (any_of HT_.out (by kernel_rfl)) (fun _ _ _ h => h) (Or.inl ⟨by rfl, ?_⟩) ?_ ?_
                        rotate_left
                        · intro w'
                          go_simp
                          with_reducible rfl
                        rotate_left
                        · simp only [Act.put, List.setIfInBounds_toArray, List.set_cons_zero, List.set_cons_succ, i64_w, i32_w]
                          rfl
                        refine one_ (i := 9) (N := some 89) #[true, true, true, true, true, true, true, true, true, true, false, false, false] rfl rfl (one_of HT_.out (by kernel_rfl)) (by decide) (fun K hK => ?_)
                        refine value_ (w1 := ?_) (v := ?_) (by rfl) rfl ?_ ?_
                        rotate_left 2
                        · go_simp
                          constructor
                          · rfl
                          · rfl
                        refine hK.out _ _ ⟨(blk_cell (blk_alloc BK172.out _) 0).trans rfl, (blk_cell (blk_alloc BK172.out _) 1).trans rfl, (blk_cell (blk_alloc BK172.out _) 2).trans rfl, (blk_cell (blk_alloc BK172.out _) 3).trans rfl⟩ (fun hHeld => ?_)
                        clear hK K
                        refine norm_ (a' := ?_) ?_ ?_
                        rotate_left
                        · show Act.put _ (some 89) _ = _
                          simp only [Act.put, List.setIfInBounds_toArray, List.set_cons_zero, List.set_cons_succ, i64_w, i32_w]
                          rfl
                        refine one_ (i := 10) (N := some 90) #[true, true, true, true, true, true, true, true, true, true, true, false, false] rfl rfl (one_of HT_.out (by kernel_rfl)) (by decide) (fun K hK => ?_)
                        refine Kd.R_append_step k27 (w0 := w) w.heap.size (by rfl) (.tmp 81) (.tmp 89) 23 27 (.agg #[(.string ⟨#[]⟩), (.string ⟨#[]⟩)]) 32 rfl Tryd.underlying23 info27 rfl (by decide) (by omega) (.slice Ao11 y169.length co11) y169 (⟨rdOf ByteArray.empty y191 t194, x12_2⟩ : S27) [.string (rdOf ByteArray.empty y191 t194), .string x12_2] (fun k_ => some k_ ≠ (.slice Ao19 t175.length co19 : Value).ownBlock) (fun _ => False) rfl rfl ?aP (fun _ hk => hk.elim) ?aF ?aO ?aB ?aS ?aL ?_
                        (case aP => exact k27_mkM _ _ _ (⟨rdOf ByteArray.empty y191 t194, x12_2⟩ : S27))
                        (case aB => exact (by repeat (first | (with_reducible first | exact HB.out | apply below_alloc | apply pw_below_drewN | apply below_drew1 | refine below_set ?_ GE172.out | refine below_set ?_ GE181.out) | exact HB.out)))
                        (case aF => exact (fun k_ hk => Kd.fresh' (Kd.R_lt (by (with_reducible repeat (first | apply Kd.R_alloc | apply Kd.R_drewN | apply Kd.R_drew)); exact HO_182001.out)) k_ hk))
                        (case aO => exact (by (with_reducible repeat (first | apply Kd.R_alloc | apply Kd.R_drewN | apply Kd.R_drew)); exact HO_173001.out))
                        (case aS => exact (below_size (by repeat (first | (with_reducible first | exact HB.out | apply below_alloc | apply pw_below_drewN | apply below_drew1 | refine below_set ?_ GE172.out | refine below_set ?_ GE181.out) | exact HB.out))))
                        (case aL => have := LMc55.out; omega)
                        intro v197 w65 ho hb hg hat
                        rw [← Ny196.out] at ho
                        have n0_ := Aside0.mk (Kd.R_after (ok := (fun _ => True)) (by (with_reducible repeat (first | apply Kd.R_alloc | apply Kd.R_drewN | apply Kd.R_drew)); exact Kd.R_mono HO_182001.out (fun _ hk => ⟨trivial, hk⟩)) hg hat)
                        have n1_ := Aside0.mk (blk_grown (g := gb172) (o := .cells #[.int .i64 (wrap64 (100 + t168)), .slice Ao11 y169.length co11, .string a1, .bool false] 29 (0, 0)) (by (with_reducible repeat (first | refine blk_drewN ?_ _ | refine blk_drew ?_ | refine blk_alloc ?_ _)); exact BK172.out) hg (Kd.R_ne HO_173001.out BK172.out (by decide)))
                        have n2_ := Aside0.mk (blk_grown (g := gb181) (o := .cells #[.int .i64 t174, .slice Ao19 t175.length co19, .string t178, .bool t179] 29 (0, 0)) (by (with_reducible repeat (first | refine blk_drewN ?_ _ | refine blk_drew ?_ | refine blk_alloc ?_ _)); exact BK181.out) hg (Kd.R_ne HO_173001.out BK181.out (by decide)))
                        have n3_ := Aside0.mk (Kd.R_over' (by (with_reducible repeat (first | apply Kd.R_alloc | apply Kd.R_drewN | apply Kd.R_drew)); exact HO193.out) (Kd.R_typed (by (with_reducible repeat (first | apply Kd.R_alloc | apply Kd.R_drewN | apply Kd.R_drew)); exact HO_173001.out)) (by decide) hg)
                        have n4_ := Aside0.mk (hb)
                        have n5_ := Aside0.mk (ho)
                        clear HO_182001
                        clear BK172
                        clear BK181
                        clear HO193
                        clear HB
                        clear HO_173001
                        have HO_182001 := n0_
                        have BK172 := n1_
                        have BK181 := n2_
                        have HO193 := n3_
                        have HB := n4_
                        have HO198 := n5_
                        clear n0_ n1_ n2_ n3_ n4_ n5_
                        clear ho hb hg hat
                        obtain ⟨Ao66, co66, eo66⟩ := Kd.R_slice HO198.out
                        (first | subst eo66 | (injection eo66 with f1_ f2_ f3_; have f4_ := f1_.symm; have f5_ := f3_.symm; clear f1_ f2_ f3_; subst f4_; subst f5_))
                        refine hK.out _ _ ⟨(blk_cell BK172.out 0).trans rfl, (blk_cell BK172.out 1).trans rfl, (blk_cell BK172.out 2).trans rfl, (blk_cell BK172.out 3).trans rfl⟩ (fun hHeld => ?_)
                        clear hK K
                        refine norm_ (a' := ?_) ?_ ?_
                        rotate_left
                        · show Act.put _ (some 90) _ = _
                          simp only [Act.put, List.setIfInBounds_toArray, List.set_cons_zero, List.set_cons_succ, i64_w, i32_w]
                          rfl
                        refine pure_ (i := 11) (N := some 91) (v := ?_) (a' := ?_) #[true, true, true, true, true, true, true, true, true, true, true, true, false] rfl rfl (any_of HT_.out (by kernel_rfl)) (fun _ _ _ h => h) (Or.inl ⟨by rfl, ?_⟩) ?_ ?_
                        rotate_left
                        · intro w'
                          go_simp
                          with_reducible rfl
                        rotate_left
                        · simp only [Act.put, List.setIfInBounds_toArray, List.set_cons_zero, List.set_cons_succ, i64_w, i32_w]
                          rfl
                        refine last_ (i := 12) (N := none) #[true, true, true, true, true, true, true, true, true, true, true, true, true] rfl rfl (one_of HT_.out (by kernel_rfl)) (by decide) (fun K hK => ?_)
                        have hs67 : w65.cell? ⟨gb172, 1, none⟩ = some (.slice Ao11 y169.length co11) := (blk_cell BK172.out 1).trans rfl
                        have hfs67 := blk_frozen BK172.out 1
                        have hns67_1 := NB181_172.out
                        have hms67_1 := NB172_181.out
                        refine skip_ (w1 := ?_) (by rfl) rfl ?_ ?_
                        rotate_left
                        · go_simp
                          rfl
                        refine hK.out _ _ ?_
                        clear hK K
                        refine done_ (done_of HT_.out (by kernel_rfl)) ?_
                        have hnb68 := NB172_181.out
                        have hnc68 := NB181_172.out
                        have hcz69_0 : w65.cell? ⟨gb172, 0, none⟩ = some (.int .i64 (wrap64 (100 + t168))) := (blk_cell BK172.out 0).trans rfl
                        have hcz69_1 : w65.cell? ⟨gb172, 1, none⟩ = some (.slice Ao11 y169.length co11) := (blk_cell BK172.out 1).trans rfl
                        have hcz69_2 : w65.cell? ⟨gb172, 2, none⟩ = some (.string a1) := (blk_cell BK172.out 2).trans rfl
                        have hcz69_3 : w65.cell? ⟨gb172, 3, none⟩ = some (.bool false) := (blk_cell BK172.out 3).trans rfl
                        have hfz69_0 := blk_frozen BK172.out 0
                        have hfz69_1 := blk_frozen BK172.out 1
                        have hfz69_2 := blk_frozen BK172.out 2
                        have hfz69_3 := blk_frozen BK172.out 3
                        go_upto_region 15 with (first | ((with_reducible refine gate_callee (f := 29) rfl ?_); refine goesL_ (some 94) rfl rfl Tryd.func29 (by kernel_rfl) rfl #[.agg #[.int .i64 (wrap64 (100 + t168)), .slice Ao66 y196.length co66, .string a1, .bool false]] rfl (by (try simp only [List.map_toArray, List.map_cons, List.map_nil]); first | done | rfl | (simp only [List.length_drop, List.length_take]; rfl)) ?_; (with_reducible refine (reply_Print.calls k2 (wrap64 (100 + t168)) _ _ y196 a1 false t199 _ ?side1 ?side2 ?side3 A56.out).mono ?_); (case side1 => exact Gl.below hG (by repeat (first | (with_reducible first | exact HB.out | apply below_alloc | apply pw_below_drewN | apply below_drew1 | refine below_set ?_ GE172.out | refine below_set ?_ GE181.out) | exact HB.out))); (case side2 => refine (Kd.R_reads' (e := 27) (base := w.heap.size) (ok := fun k_ => some k_ ≠ (.slice Ao19 t175.length co19 : Value).ownBlock) (n := y196.length) (c := co66) ?_).2.2; exact (by (with_reducible repeat (first | apply Kd.R_alloc | apply Kd.R_drewN | apply Kd.R_drew)); exact (Kd.R_mono (Kd.R_far (p := ⟨gb172, 1, none⟩) (Kd.R_types HO198.out BK172.out (by decide)) (fun _ hk => hk.2) (.slice Ao66 y196.length co66)) (fun _ h_ => h_.1)))); (case side3 => exact (Kd.R_reads' HO198.out).2.1); rintro e w70 ⟨rfl, hb⟩; refine ⟨_, rfl, ?_⟩; have n0_ := Aside0.mk (Kd.R_below (by (with_reducible repeat (first | apply Kd.R_alloc | apply Kd.R_drewN | apply Kd.R_drew)); exact (Kd.R_mono (Kd.R_far (p := ⟨gb172, 1, none⟩) (Kd.R_types HO_182001.out BK172.out (by decide)) (fun _ hk => hk.2) (.slice Ao66 y196.length co66)) (fun _ h_ => h_.1))) hb); have n1_ := Aside0.mk (Kd.R_below (by (with_reducible repeat (first | apply Kd.R_alloc | apply Kd.R_drewN | apply Kd.R_drew)); exact (Kd.R_mono (Kd.R_far (p := ⟨gb172, 1, none⟩) (Kd.R_types HO193.out BK172.out (by decide)) (fun _ hk => hk.2) (.slice Ao66 y196.length co66)) (fun _ h_ => h_.1))) hb); have n2_ := Aside0.mk (Kd.R_below (by (with_reducible repeat (first | apply Kd.R_alloc | apply Kd.R_drewN | apply Kd.R_drew)); exact (Kd.R_mono (Kd.R_far (p := ⟨gb172, 1, none⟩) (Kd.R_types HO198.out BK172.out (by decide)) (fun _ hk => hk.2) (.slice Ao66 y196.length co66)) (fun _ h_ => h_.1))) hb); have n3_ := Aside0.mk (blk_below (g := gb172) (o := .cells #[.int .i64 (wrap64 (100 + t168)), .slice Ao66 y196.length co66, .string a1, .bool false] 29 (0, 0)) (by (with_reducible repeat (first | refine blk_drewN ?_ _ | refine blk_drew ?_ | refine blk_alloc ?_ _)); refine blk_put (cs := #[.int .i64 (wrap64 (100 + t168)), .slice Ao11 y169.length co11, .string a1, .bool false]) ?_ 1 _ rfl; (with_reducible repeat (first | refine blk_drewN ?_ _ | refine blk_drew ?_ | refine blk_alloc ?_ _)); exact BK172.out) hb); have n4_ := Aside0.mk (blk_below (g := gb181) (o := .cells #[.int .i64 t174, .slice Ao19 t175.length co19, .string t178, .bool t179] 29 (0, 0)) (by (with_reducible repeat (first | refine blk_drewN ?_ _ | refine blk_drew ?_ | refine blk_alloc ?_ _)); refine blk_far ?_ NB181_172.out _; (with_reducible repeat (first | refine blk_drewN ?_ _ | refine blk_drew ?_ | refine blk_alloc ?_ _)); exact BK181.out) hb); have n5_ := Aside0.mk (below_step (by repeat (first | (with_reducible first | exact HB.out | apply below_alloc | apply pw_below_drewN | apply below_drew1 | refine below_set ?_ GE172.out | refine below_set ?_ GE181.out) | exact HB.out)) hb); clear HO_182001; clear HO193; clear HO198; clear BK172; clear BK181; clear HB; have HO_182001 := n0_; have HO193 := n1_; have HO198 := n2_; have BK172 := n3_; have BK181 := n4_; have HB := n5_; clear n0_ n1_ n2_ n3_ n4_ n5_; (try clear hb); (try clear hb2); (try clear hk); (try clear hi)) | ((with_reducible refine gate_callee (f := 13) rfl ?_); refine goesL_ (some 95) rfl rfl Tryd.func13 (by kernel_rfl) rfl #[.string t199] rfl (by (try simp only [List.map_toArray, List.map_cons, List.map_nil]); first | done | rfl | (simp only [List.length_drop, List.length_take]; rfl)) ?_; (with_reducible refine (reply_Parse.calls k2 t199 t200 t201 t204 t205 t206 _ ?side1 A57.out).mono ?_); (case side1 => exact Gl.below hG (by repeat (first | (with_reducible first | exact HB.out | apply below_alloc | apply pw_below_drewN | apply below_drew1 | refine below_set ?_ GE172.out | refine below_set ?_ GE181.out) | exact HB.out))); rintro e w71 ⟨v202, rfl, ho0, hb⟩; refine ⟨_, rfl, ?_⟩; have n0_ := Aside0.mk (Kd.R_elder' (by (with_reducible repeat (first | apply Kd.R_alloc | apply Kd.R_drewN | apply Kd.R_drew)); exact HO_182001.out) (Kd.R_base ho0) hb); have n1_ := Aside0.mk (Kd.R_below (by (with_reducible repeat (first | apply Kd.R_alloc | apply Kd.R_drewN | apply Kd.R_drew)); exact HO193.out) hb); have n2_ := Aside0.mk (Kd.R_elder' (by (with_reducible repeat (first | apply Kd.R_alloc | apply Kd.R_drewN | apply Kd.R_drew)); exact HO198.out) (Kd.R_base ho0) hb); have n3_ := Aside0.mk (Kd.R_lower (Kd.R_new' (Kd.R_new' ho0 (Kd.R_lt (by (with_reducible repeat (first | apply Kd.R_alloc | apply Kd.R_drewN | apply Kd.R_drew)); exact HO_182001.out))) (Kd.R_lt (by (with_reducible repeat (first | apply Kd.R_alloc | apply Kd.R_drewN | apply Kd.R_drew)); exact HO198.out))) (below_size (by repeat (first | (with_reducible first | exact HB.out | apply below_alloc | apply pw_below_drewN | apply below_drew1 | refine below_set ?_ GE172.out | refine below_set ?_ GE181.out) | exact HB.out)))); have n4_ := Aside0.mk (blk_below (g := gb172) (o := .cells #[.int .i64 (wrap64 (100 + t168)), .slice Ao66 y196.length co66, .string a1, .bool false] 29 (0, 0)) (by (with_reducible repeat (first | refine blk_drewN ?_ _ | refine blk_drew ?_ | refine blk_alloc ?_ _)); exact BK172.out) hb); have n5_ := Aside0.mk (blk_below (g := gb181) (o := .cells #[.int .i64 t174, .slice Ao19 t175.length co19, .string t178, .bool t179] 29 (0, 0)) (by (with_reducible repeat (first | refine blk_drewN ?_ _ | refine blk_drew ?_ | refine blk_alloc ?_ _)); exact BK181.out) hb); have n6_ := Aside0.mk (below_step (by repeat (first | (with_reducible first | exact HB.out | apply below_alloc | apply pw_below_drewN | apply below_drew1 | refine below_set ?_ GE172.out | refine below_set ?_ GE181.out) | exact HB.out)) hb); clear HO_182001; clear HO193; clear HO198; clear BK172; clear BK181; clear HB; have HO_182001 := n0_; have HO193 := n1_; have HO198 := n2_; have HO203 := n3_; have BK172 := n4_; have BK181 := n5_; have HB := n6_; clear n0_ n1_ n2_ n3_ n4_ n5_ n6_; (try clear hb); (try clear hb2); (try clear hk); (try clear hi); (try clear ho0); have hcz72_0 : w71.cell? ⟨gb181, 0, none⟩ = some (.int .i64 t174) := (blk_cell BK181.out 0).trans rfl; have hcz72_1 : w71.cell? ⟨gb181, 1, none⟩ = some (.slice Ao19 t175.length co19) := (blk_cell BK181.out 1).trans rfl; have hcz72_2 : w71.cell? ⟨gb181, 2, none⟩ = some (.string t178) := (blk_cell BK181.out 2).trans rfl; have hcz72_3 : w71.cell? ⟨gb181, 3, none⟩ = some (.bool t179) := (blk_cell BK181.out 3).trans rfl; have hfz72_0 := blk_frozen BK181.out 0; have hfz72_1 := blk_frozen BK181.out 1; have hfz72_2 := blk_frozen BK181.out 2; have hfz72_3 := blk_frozen BK181.out 3; obtain ⟨Ao73, co73, eo73⟩ := Kd.R_slice HO203.out; subst eo73))
                        (try simp only [Act.put, List.setIfInBounds_toArray, List.set_cons_zero, List.set_cons_succ])
                        go_cut [119] (fun v119 wc => ∃ (kq : Nat) (x119_57 : Bool), v119 = .bool x119_57 ∧ Aside0 (postilionlaw09_ReplyBack.j2 kq x119_57 (wrap64 (100 + t168)) y196 a1 false = some r) ∧ Aside0 (kq ≤ k2) ∧ Aside0 (Kd.R k27 27 wc w.heap.size (fun k_ => some k_ ≠ ((.slice Ao73 t201.length co73) : Value).ownBlock) (.slice Ao66 y196.length co66) y196) ∧ Aside0 (Kd.R k27 27 wc w.heap.size (fun k_ => some k_ ≠ ((.slice Ao66 y196.length co66) : Value).ownBlock) (.slice Ao73 t201.length co73) t201) ∧ Aside0 (wc.heap[gb172]? = some (.cells #[.int .i64 (wrap64 (100 + t168)), (.slice Ao66 y196.length co66), .string a1, .bool false] 29 (0, 0))) ∧ Aside0 (wc.heap[gb181]? = some (.cells #[.int .i64 t200, (.slice Ao73 t201.length co73), .string t204, .bool t205] 29 (0, 0))) ∧ Aside0 (Below w.heap.size w wc))
                        case first =>
                          have H := HC58.out
                          clear HC58
                          by_cases c74 : t206 = 0
                          · rw [if_pos c74] at H
                            have c74b0 : (t206 == 0) = true := beq_iff_eq.mpr c74
                            have c74b1 : (t206 != 0) = false := bne_eq_false_iff_eq.mpr c74
                            clear c74
                            (first | rw [c74b0] | (simp only [i64_w, i32_w]; rw [c74b0]) | skip)
                            by_cases c75 : (t205 != (decide (t183 > (a1.size : Int)))) = true
                            · rw [if_pos c75] at H
                              have c75b0 : (t205 != (decide (t183 > (a1.size : Int)))) = true := c75
                              (try (have c75b1 : decide (t205 = (decide (t183 > (a1.size : Int)))) = false := by simpa using c75))
                              (try (have c75b2 : (t205 == (decide (t183 > (a1.size : Int)))) = false := by simpa using c75))
                              (try (have c75b3 : ¬ (t205 = (decide (t183 > (a1.size : Int)))) := by simpa using c75))
                              clear c75
                              have H' := Aside0.mk H
                              clear H
                              try go_wp2
                              have n0_ : Aside0 (Kd.R k27 27 ((((w71.setCell ⟨gb181, 0, none⟩ (.int .i64 t200)).setCell ⟨gb181, 1, none⟩ (.slice Ao73 t201.length co73)).setCell ⟨gb181, 2, none⟩ (.string t204)).setCell ⟨gb181, 3, none⟩ (.bool t205)) w.heap.size (fun k_ => some k_ ≠ (.slice Ao66 y196.length co66 : Value).ownBlock ∧ some k_ ≠ (.slice Ao73 t201.length co73 : Value).ownBlock) (.slice Ao19 t175.length co19) t175) := ⟨by (with_reducible repeat (first | apply Kd.R_alloc | apply Kd.R_drewN | apply Kd.R_drew)); exact Kd.R_mono (Kd.R_far (p := ⟨gb181, 3, none⟩) (Kd.R_far (p := ⟨gb181, 2, none⟩) (Kd.R_far (p := ⟨gb181, 1, none⟩) (Kd.R_far (p := ⟨gb181, 0, none⟩) (Kd.R_types HO_182001.out BK181.out (by decide)) (fun _ hk => hk.2) (.int .i64 t200)) (fun _ hk => hk.2) (.slice Ao73 t201.length co73)) (fun _ hk => hk.2) (.string t204)) (fun _ hk => hk.2) (.bool t205)) (fun _ hk => ⟨hk.1.1.2, hk.1.2⟩)⟩
                              have n1_ : Aside0 (Kd.R Kd.string 9 ((((w71.setCell ⟨gb181, 0, none⟩ (.int .i64 t200)).setCell ⟨gb181, 1, none⟩ (.slice Ao73 t201.length co73)).setCell ⟨gb181, 2, none⟩ (.string t204)).setCell ⟨gb181, 3, none⟩ (.bool t205)) w.heap.size (fun _ => True) (.slice (some adz_v192) y191.length co64) y191) := ⟨by (with_reducible repeat (first | apply Kd.R_alloc | apply Kd.R_drewN | apply Kd.R_drew)); exact Kd.R_mono (Kd.R_far (p := ⟨gb181, 3, none⟩) (Kd.R_far (p := ⟨gb181, 2, none⟩) (Kd.R_far (p := ⟨gb181, 1, none⟩) (Kd.R_far (p := ⟨gb181, 0, none⟩) (Kd.R_types HO193.out BK181.out (by decide)) (fun _ hk => hk.2) (.int .i64 t200)) (fun _ hk => hk.2) (.slice Ao73 t201.length co73)) (fun _ hk => hk.2) (.string t204)) (fun _ hk => hk.2) (.bool t205)) (fun _ hk => trivial)⟩
                              have n2_ : Aside0 (Kd.R k27 27 ((((w71.setCell ⟨gb181, 0, none⟩ (.int .i64 t200)).setCell ⟨gb181, 1, none⟩ (.slice Ao73 t201.length co73)).setCell ⟨gb181, 2, none⟩ (.string t204)).setCell ⟨gb181, 3, none⟩ (.bool t205)) w.heap.size (fun k_ => some k_ ≠ (.slice Ao19 t175.length co19 : Value).ownBlock ∧ some k_ ≠ (.slice Ao73 t201.length co73 : Value).ownBlock) (.slice Ao66 y196.length co66) y196) := ⟨by (with_reducible repeat (first | apply Kd.R_alloc | apply Kd.R_drewN | apply Kd.R_drew)); exact Kd.R_mono (Kd.R_far (p := ⟨gb181, 3, none⟩) (Kd.R_far (p := ⟨gb181, 2, none⟩) (Kd.R_far (p := ⟨gb181, 1, none⟩) (Kd.R_far (p := ⟨gb181, 0, none⟩) (Kd.R_types HO198.out BK181.out (by decide)) (fun _ hk => hk.2) (.int .i64 t200)) (fun _ hk => hk.2) (.slice Ao73 t201.length co73)) (fun _ hk => hk.2) (.string t204)) (fun _ hk => hk.2) (.bool t205)) (fun _ hk => ⟨hk.1.1, hk.1.2⟩)⟩
                              have n3_ : Aside0 (Kd.R k27 27 ((((w71.setCell ⟨gb181, 0, none⟩ (.int .i64 t200)).setCell ⟨gb181, 1, none⟩ (.slice Ao73 t201.length co73)).setCell ⟨gb181, 2, none⟩ (.string t204)).setCell ⟨gb181, 3, none⟩ (.bool t205)) w.heap.size (fun k_ => some k_ ≠ (.slice Ao19 t175.length co19 : Value).ownBlock ∧ some k_ ≠ (.slice Ao66 y196.length co66 : Value).ownBlock) (.slice Ao73 t201.length co73) t201) := ⟨by (with_reducible repeat (first | apply Kd.R_alloc | apply Kd.R_drewN | apply Kd.R_drew)); exact Kd.R_mono (Kd.R_far (p := ⟨gb181, 3, none⟩) (Kd.R_far (p := ⟨gb181, 2, none⟩) (Kd.R_far (p := ⟨gb181, 1, none⟩) (Kd.R_far (p := ⟨gb181, 0, none⟩) (Kd.R_types HO203.out BK181.out (by decide)) (fun _ hk => hk.2) (.int .i64 t200)) (fun _ hk => hk.2) (.slice Ao73 t201.length co73)) (fun _ hk => hk.2) (.string t204)) (fun _ hk => hk.2) (.bool t205)) (fun _ hk => ⟨hk.1.1.2, hk.1.2⟩)⟩
                              have n4_ : Aside0 (((((w71.setCell ⟨gb181, 0, none⟩ (.int .i64 t200)).setCell ⟨gb181, 1, none⟩ (.slice Ao73 t201.length co73)).setCell ⟨gb181, 2, none⟩ (.string t204)).setCell ⟨gb181, 3, none⟩ (.bool t205)).heap[gb172]? = some (.cells #[.int .i64 (wrap64 (100 + t168)), .slice Ao66 y196.length co66, .string a1, .bool false] 29 (0, 0))) := ⟨by (with_reducible repeat (first | refine blk_drewN ?_ _ | refine blk_drew ?_ | refine blk_alloc ?_ _)); refine blk_far ?_ NB172_181.out _; (with_reducible repeat (first | refine blk_drewN ?_ _ | refine blk_drew ?_ | refine blk_alloc ?_ _)); refine blk_far ?_ NB172_181.out _; (with_reducible repeat (first | refine blk_drewN ?_ _ | refine blk_drew ?_ | refine blk_alloc ?_ _)); refine blk_far ?_ NB172_181.out _; (with_reducible repeat (first | refine blk_drewN ?_ _ | refine blk_drew ?_ | refine blk_alloc ?_ _)); refine blk_far ?_ NB172_181.out _; (with_reducible repeat (first | refine blk_drewN ?_ _ | refine blk_drew ?_ | refine blk_alloc ?_ _)); exact BK172.out⟩
                              have n5_ : Aside0 (((((w71.setCell ⟨gb181, 0, none⟩ (.int .i64 t200)).setCell ⟨gb181, 1, none⟩ (.slice Ao73 t201.length co73)).setCell ⟨gb181, 2, none⟩ (.string t204)).setCell ⟨gb181, 3, none⟩ (.bool t205)).heap[gb181]? = some (.cells #[.int .i64 t200, .slice Ao73 t201.length co73, .string t204, .bool t205] 29 (0, 0))) := ⟨by (with_reducible repeat (first | refine blk_drewN ?_ _ | refine blk_drew ?_ | refine blk_alloc ?_ _)); refine blk_put (cs := #[.int .i64 t200, .slice Ao73 t201.length co73, .string t204, .bool t179]) ?_ 3 _ rfl; (with_reducible repeat (first | refine blk_drewN ?_ _ | refine blk_drew ?_ | refine blk_alloc ?_ _)); refine blk_put (cs := #[.int .i64 t200, .slice Ao73 t201.length co73, .string t178, .bool t179]) ?_ 2 _ rfl; (with_reducible repeat (first | refine blk_drewN ?_ _ | refine blk_drew ?_ | refine blk_alloc ?_ _)); refine blk_put (cs := #[.int .i64 t200, .slice Ao19 t175.length co19, .string t178, .bool t179]) ?_ 1 _ rfl; (with_reducible repeat (first | refine blk_drewN ?_ _ | refine blk_drew ?_ | refine blk_alloc ?_ _)); refine blk_put (cs := #[.int .i64 t174, .slice Ao19 t175.length co19, .string t178, .bool t179]) ?_ 0 _ rfl; (with_reducible repeat (first | refine blk_drewN ?_ _ | refine blk_drew ?_ | refine blk_alloc ?_ _)); exact BK181.out⟩
                              have n6_ : Aside0 (Below w.heap.size w ((((w71.setCell ⟨gb181, 0, none⟩ (.int .i64 t200)).setCell ⟨gb181, 1, none⟩ (.slice Ao73 t201.length co73)).setCell ⟨gb181, 2, none⟩ (.string t204)).setCell ⟨gb181, 3, none⟩ (.bool t205))) := ⟨by repeat (first | (with_reducible first | exact HB.out | apply below_alloc | apply pw_below_drewN | apply below_drew1 | refine below_set ?_ GE172.out | refine below_set ?_ GE181.out) | exact HB.out)⟩
                              (try clear HO_182001)
                              (try clear HO193)
                              (try clear HO198)
                              (try clear HO203)
                              (try clear BK172)
                              (try clear BK181)
                              (try clear HB)
                              generalize ((((w71.setCell ⟨gb181, 0, none⟩ (.int .i64 t200)).setCell ⟨gb181, 1, none⟩ (.slice Ao73 t201.length co73)).setCell ⟨gb181, 2, none⟩ (.string t204)).setCell ⟨gb181, 3, none⟩ (.bool t205)) = w76 at n0_ n1_ n2_ n3_ n4_ n5_ n6_ ⊢
                              have HO_182001 := n0_
                              have HO193 := n1_
                              have HO198 := n2_
                              have HO203 := n3_
                              have BK172 := n4_
                              have BK181 := n5_
                              have HB := n6_
                              clear n0_ n1_ n2_ n3_ n4_ n5_ n6_
                              have n0_ := Aside0.mk (Kd.R_drew HO_182001.out)
                              have n1_ := Aside0.mk (Kd.R_drew HO193.out)
                              have n2_ := Aside0.mk (Kd.R_drew HO198.out)
                              have n3_ := Aside0.mk (Kd.R_drew HO203.out)
                              have n4_ := Aside0.mk (blk_drew BK172.out)
                              have n5_ := Aside0.mk (blk_drew BK181.out)
                              have n6_ := Aside0.mk (below_drew1 HB.out)
                              clear HO_182001
                              clear HO193
                              clear HO198
                              clear HO203
                              clear BK172
                              clear BK181
                              clear HB
                              have HO_182001 := n0_
                              have HO193 := n1_
                              have HO198 := n2_
                              have HO203 := n3_
                              have BK172 := n4_
                              have BK181 := n5_
                              have HB := n6_
                              clear n0_ n1_ n2_ n3_ n4_ n5_ n6_
                              refine start_ (n := 22) (S := fun w' => w'.cell? ⟨gb181, 0, none⟩ = some (.int .i64 t200) ∧ w'.cell? ⟨gb181, 1, none⟩ = some (.slice Ao73 t201.length co73) ∧ w'.cell? ⟨gb181, 2, none⟩ = some (.string t204) ∧ w'.cell? ⟨gb181, 3, none⟩ = some (.bool t205)) (ds := []) #[false, false, false, false, false, false, false, false, false, false, false, false, false, false, false, false, false, false, false, false, false, false] (by kernel_rfl) rfl rfl ⟨(blk_cell BK181.out 0).trans rfl, (blk_cell BK181.out 1).trans rfl, (blk_cell BK181.out 2).trans rfl, (blk_cell BK181.out 3).trans rfl⟩ (fun hHeld => ?_); refine with_tabW postilionlaw09_ReplyBack.tab15 postilionlaw09_ReplyBack.bits15 (fun HT_ HW_ => ?_)
                              generalize w76.drew = w77 at HO_182001 HO193 HO198 HO203 BK172 BK181 HB hHeld ⊢
                              refine pure_ (i := 0) (N := some 98) (v := ?_) (a' := ?_) #[true, false, false, false, false, false, false, false, false, false, false, false, false, false, false, false, false, false, false, false, false, false] rfl rfl (any_of HT_.out (by kernel_rfl)) (fun _ _ _ h => h) (Or.inl ⟨by rfl, ?_⟩) ?_ ?_
                              rotate_left
                              · intro w'
                                go_simp
                                with_reducible rfl
                              rotate_left
                              · simp only [Act.put, List.setIfInBounds_toArray, List.set_cons_zero, List.set_cons_succ, i64_w, i32_w]
                                rfl
                              refine pure_ (i := 1) (N := some 99) (v := ?_) (a' := ?_) #[true, true, false, false, false, false, false, false, false, false, false, false, false, false, false, false, false, false, false, false, false, false] rfl rfl (any_of HT_.out (by kernel_rfl)) (fun _ _ _ h => h) (Or.inl ⟨by rfl, ?_⟩) ?_ ?_
                              rotate_left
                              · intro w'
                                go_simp
                                with_reducible rfl
                              rotate_left
                              · simp only [Act.put, List.setIfInBounds_toArray, List.set_cons_zero, List.set_cons_succ, i64_w, i32_w]
                                rfl
                              refine pure_ (i := 2) (N := some 100) (v := ?_) (a' := ?_) #[true, true, true, false, false, false, false, false, false, false, false, false, false, false, false, false, false, false, false, false, false, false] rfl rfl (any_of HT_.out (by kernel_rfl)) (fun _ _ _ h => h) (Or.inl ⟨by rfl, ?_⟩) ?_ ?_
                              rotate_left
                              · intro w'
                                go_simp
                                with_reducible rfl
                              rotate_left
                              · simp only [Act.put, List.setIfInBounds_toArray, List.set_cons_zero, List.set_cons_succ, i64_w, i32_w]
                                rfl
                              refine pure_ (i := 3) (N := some 101) (v := ?_) (a' := ?_) #[true, true, true, true, false, false, false, false, false, false, false, false, false, false, false, false, false, false, false, false, false, false] rfl rfl (any_of HT_.out (by kernel_rfl)) (fun _ _ _ h => h) (Or.inl ⟨by rfl, ?_⟩) ?_ ?_
                              rotate_left
                              · intro w'
                                go_simp
                                with_reducible rfl
                              rotate_left
                              · simp only [Act.put, List.setIfInBounds_toArray, List.set_cons_zero, List.set_cons_succ, i64_w, i32_w]
                                rfl
                              refine pure_ (i := 5) (N := some 103) (v := ?_) (a' := ?_) #[true, true, true, true, false, true, false, false, false, false, false, false, false, false, false, false, false, false, false, false, false, false] rfl rfl (any_of HT_.out (by kernel_rfl)) (fun _ _ _ h => h) (Or.inl ⟨by rfl, ?_⟩) ?_ ?_
                              rotate_left
                              · intro w'
                                go_simp
                                with_reducible rfl
                              rotate_left
                              · simp only [Act.put, List.setIfInBounds_toArray, List.set_cons_zero, List.set_cons_succ, i64_w, i32_w]
                                rfl
                              refine pure_ (i := 6) (N := some 104) (v := ?_) (a' := ?_) #[true, true, true, true, false, true, true, false, false, false, false, false, false, false, false, false, false, false, false, false, false, false] rfl rfl (any_of HT_.out (by kernel_rfl)) (fun _ _ _ h => h) (Or.inl ⟨by rfl, ?_⟩) ?_ ?_
                              rotate_left
                              · intro w'
                                go_simp
                                with_reducible rfl
                              rotate_left
                              · simp only [Act.put, List.setIfInBounds_toArray, List.set_cons_zero, List.set_cons_succ, i64_w, i32_w]
                                rfl
                              refine pure_ (i := 7) (N := some 105) (v := ?_) (a' := ?_) #[true, true, true, true, false, true, true, true, false, false, false, false, false, false, false, false, false, false, false, false, false, false] rfl rfl (any_of HT_.out (by kernel_rfl)) (fun _ _ _ h => h) (Or.inl ⟨by rfl, ?_⟩) ?_ ?_
                              rotate_left
                              · intro w'
                                go_simp
                                with_reducible rfl
                              rotate_left
                              · simp only [Act.put, List.setIfInBounds_toArray, List.set_cons_zero, List.set_cons_succ, i64_w, i32_w]
                                rfl
                              refine pure_ (i := 8) (N := some 106) (v := ?_) (a' := ?_) #[true, true, true, true, false, true, true, true, true, false, false, false, false, false, false, false, false, false, false, false, false, false] rfl rfl (any_of HT_.out (by kernel_rfl)) (fun _ _ _ h => h) (Or.inl ⟨by rfl, ?_⟩) ?_ ?_
                              rotate_left
                              · intro w'
                                go_simp
                                with_reducible rfl
                              rotate_left
                              · simp only [Act.put, List.setIfInBounds_toArray, List.set_cons_zero, List.set_cons_succ, i64_w, i32_w]
                                rfl
                              refine take_ (i := 4) (N := some 102) (v := ?_) (a' := ?_) #[true, true, true, true, true, true, true, true, true, false, false, false, false, false, false, false, false, false, false, false, false, false] rfl rfl (take_ofW HT_.out HW_.out (by kernel_rfl)) (fun _ _ _ h => h) (Or.inl ⟨by rfl, ?_⟩) hHeld ?_ ?_
                              rotate_left
                              · rintro w' ⟨s0, s1, s2, s3⟩
                                go_simp
                                with_reducible rfl
                              rotate_left
                              · simp only [Act.put, List.setIfInBounds_toArray, List.set_cons_zero, List.set_cons_succ, i64_w, i32_w]
                                rfl
                              refine pure_ (i := 9) (N := some 107) (v := ?_) (a' := ?_) #[true, true, true, true, true, true, true, true, true, true, false, false, false, false, false, false, false, false, false, false, false, false] rfl rfl (any_of HT_.out (by kernel_rfl)) (fun _ _ _ h => h) (Or.inl ⟨by rfl, ?_⟩) ?_ ?_
                              rotate_left
                              · intro w'
                                go_simp
                                with_reducible rfl
                              rotate_left
                              · simp only [Act.put, List.setIfInBounds_toArray, List.set_cons_zero, List.set_cons_succ, i64_w, i32_w]
                                rfl
                              refine pure_ (i := 10) (N := some 108) (v := ?_) (a' := ?_) #[true, true, true, true, true, true, true, true, true, true, true, false, false, false, false, false, false, false, false, false, false, false] rfl rfl (any_of HT_.out (by kernel_rfl)) (fun _ _ _ h => h) (Or.inl ⟨by rfl, ?_⟩) ?_ ?_
                              rotate_left
                              · intro w'
                                go_simp
                                with_reducible rfl
                              rotate_left
                              · simp only [Act.put, List.setIfInBounds_toArray, List.set_cons_zero, List.set_cons_succ, i64_w, i32_w]
                                rfl
                              refine pure_ (i := 11) (N := some 109) (v := ?_) (a' := ?_) #[true, true, true, true, true, true, true, true, true, true, true, true, false, false, false, false, false, false, false, false, false, false] rfl rfl (any_of HT_.out (by kernel_rfl)) (fun _ _ _ h => h) (Or.inl ⟨by rfl, ?_⟩) ?_ ?_
                              rotate_left
                              · intro w'
                                go_simp
                                with_reducible rfl
                              rotate_left
                              · simp only [Act.put, List.setIfInBounds_toArray, List.set_cons_zero, List.set_cons_succ, i64_w, i32_w]
                                rfl
                              refine pure_ (i := 12) (N := some 110) (v := undef) (a' := ?_) #[true, true, true, true, true, true, true, true, true, true, true, true, true, false, false, false, false, false, false, false, false, false] rfl rfl (any_of HT_.out (by kernel_rfl)) (fun _ _ _ h => h) (Or.inr ⟨by rfl, rfl⟩) ?_ ?_
                              rotate_left
                              · simp only [Act.put, List.setIfInBounds_toArray, List.set_cons_zero, List.set_cons_succ, i64_w, i32_w]
                                rfl
                              refine pure_ (i := 13) (N := some 111) (v := undef) (a' := ?_) #[true, true, true, true, true, true, true, true, true, true, true, true, true, true, false, false, false, false, false, false, false, false] rfl rfl (any_of HT_.out (by kernel_rfl)) (fun _ _ _ h => h) (Or.inr ⟨by rfl, rfl⟩) ?_ ?_
                              rotate_left
                              · simp only [Act.put, List.setIfInBounds_toArray, List.set_cons_zero, List.set_cons_succ, i64_w, i32_w]
                                rfl
                              refine pure_ (i := 14) (N := some 112) (v := undef) (a' := ?_) #[true, true, true, true, true, true, true, true, true, true, true, true, true, true, true, false, false, false, false, false, false, false] rfl rfl (any_of HT_.out (by kernel_rfl)) (fun _ _ _ h => h) (Or.inr ⟨by rfl, rfl⟩) ?_ ?_
                              rotate_left
                              · simp only [Act.put, List.setIfInBounds_toArray, List.set_cons_zero, List.set_cons_succ, i64_w, i32_w]
                                rfl
                              refine pure_ (i := 15) (N := some 113) (v := undef) (a' := ?_) #[true, true, true, true, true, true, true, true, true, true, true, true, true, true, true, true, false, false, false, false, false, false] rfl rfl (any_of HT_.out (by kernel_rfl)) (fun _ _ _ h => h) (Or.inr ⟨by rfl, rfl⟩) ?_ ?_
                              rotate_left
                              · simp only [Act.put, List.setIfInBounds_toArray, List.set_cons_zero, List.set_cons_succ, i64_w, i32_w]
                                rfl
                              refine pure_ (i := 16) (N := some 114) (v := undef) (a' := ?_) #[true, true, true, true, true, true, true, true, true, true, true, true, true, true, true, true, true, false, false, false, false, false] rfl rfl (any_of HT_.out (by kernel_rfl)) (fun _ _ _ h => h) (Or.inr ⟨by rfl, rfl⟩) ?_ ?_
                              rotate_left
                              · simp only [Act.put, List.setIfInBounds_toArray, List.set_cons_zero, List.set_cons_succ, i64_w, i32_w]
                                rfl
                              refine pure_ (i := 17) (N := some 115) (v := undef) (a' := ?_) #[true, true, true, true, true, true, true, true, true, true, true, true, true, true, true, true, true, true, false, false, false, false] rfl rfl (any_of HT_.out (by kernel_rfl)) (fun _ _ _ h => h) (Or.inr ⟨by rfl, rfl⟩) ?_ ?_
                              rotate_left
                              · simp only [Act.put, List.setIfInBounds_toArray, List.set_cons_zero, List.set_cons_succ, i64_w, i32_w]
                                rfl
                              refine pure_ (i := 18) (N := some 116) (v := undef) (a' := ?_) #[true, true, true, true, true, true, true, true, true, true, true, true, true, true, true, true, true, true, true, false, false, false] rfl rfl (any_of HT_.out (by kernel_rfl)) (fun _ _ _ h => h) (Or.inr ⟨by rfl, rfl⟩) ?_ ?_
                              rotate_left
                              · simp only [Act.put, List.setIfInBounds_toArray, List.set_cons_zero, List.set_cons_succ, i64_w, i32_w]
                                rfl
                              refine pure_ (i := 19) (N := some 117) (v := undef) (a' := ?_) #[true, true, true, true, true, true, true, true, true, true, true, true, true, true, true, true, true, true, true, true, false, false] rfl rfl (any_of HT_.out (by kernel_rfl)) (fun _ _ _ h => h) (Or.inr ⟨by rfl, rfl⟩) ?_ ?_
                              rotate_left
                              · simp only [Act.put, List.setIfInBounds_toArray, List.set_cons_zero, List.set_cons_succ, i64_w, i32_w]
                                rfl
                              refine pure_ (i := 20) (N := some 118) (v := undef) (a' := ?_) #[true, true, true, true, true, true, true, true, true, true, true, true, true, true, true, true, true, true, true, true, true, false] rfl rfl (any_of HT_.out (by kernel_rfl)) (fun _ _ _ h => h) (Or.inr ⟨by rfl, rfl⟩) ?_ ?_
                              rotate_left
                              · simp only [Act.put, List.setIfInBounds_toArray, List.set_cons_zero, List.set_cons_succ, i64_w, i32_w]
                                rfl
                              refine pure_ (i := 21) (N := some 119) (v := ?_) (a' := ?_) #[true, true, true, true, true, true, true, true, true, true, true, true, true, true, true, true, true, true, true, true, true, true] rfl rfl (any_of HT_.out (by kernel_rfl)) (fun _ _ _ h => h) (Or.inl ⟨by rfl, ?_⟩) ?_ ?_
                              rotate_left
                              · intro w'
                                go_simp
                                with_reducible rfl
                              rotate_left
                              · simp only [Act.put, List.setIfInBounds_toArray, List.set_cons_zero, List.set_cons_succ, i64_w, i32_w]
                                rfl
                              refine done_ (done_of HT_.out (by kernel_rfl)) ?_
                              try go_wp2
                              go_meet
                              case rel => exact ⟨_, (true), (by first | rfl | (simp; done) | (simp [*]; done)), H', ⟨by have := HJ7.out; have := HK2.out; first | omega | exact Nat.le_refl _⟩, ⟨by (with_reducible repeat (first | apply Kd.R_alloc | apply Kd.R_drewN | apply Kd.R_drew)); exact Kd.R_mono HO198.out (fun _ hk => hk.2)⟩, ⟨by (with_reducible repeat (first | apply Kd.R_alloc | apply Kd.R_drewN | apply Kd.R_drew)); exact Kd.R_mono HO203.out (fun _ hk => hk.2)⟩, ⟨by (with_reducible repeat (first | refine blk_drewN ?_ _ | refine blk_drew ?_ | refine blk_alloc ?_ _)); exact BK172.out⟩, ⟨by (with_reducible repeat (first | refine blk_drewN ?_ _ | refine blk_drew ?_ | refine blk_alloc ?_ _)); exact BK181.out⟩, ⟨by repeat (first | (with_reducible first | exact HB.out | apply below_alloc | apply pw_below_drewN | apply below_drew1 | refine below_set ?_ GE172.out | refine below_set ?_ GE181.out) | exact HB.out)⟩⟩
                            · rw [if_neg c75] at H
                              have c75b0 : (t205 != (decide (t183 > (a1.size : Int)))) = false := by simpa using c75
                              (try (have c75b1 : decide (t205 = (decide (t183 > (a1.size : Int)))) = true := by simpa using c75))
                              (try (have c75b2 : (t205 == (decide (t183 > (a1.size : Int)))) = true := by simpa using c75))
                              clear c75
                              obtain ⟨ji78, hji78⟩ : ∃ j_ : Int, (mn t183 (a1.size : Int)) = j_ := ⟨_, rfl⟩
                              replace H : (if 0 ≤ (ji78) then (if (ji78) ≤ (a1.size : Int) then (postilionlaw09_ReplyBack.j2 k2 (t204.toList != (a1.extract 0 ((ji78) : Int).toNat).toList) (wrap64 (100 + t168)) y196 a1 false) else (none)) else (none)) = some r := by first | (rw [hji78] at H; exact H) | (simp only [hji78] at H ⊢; exact H)
                              have hji78_ : (if (a1.size : Int) < t183 then (a1.size : Int) else t183) = ji78 := hji78
                              by_cases c79 : 0 ≤ (ji78)
                              · rw [if_pos c79] at H
                                have c79b0 := eq_true c79
                                have c79b1 : decide (0 ≤ (ji78)) = true := decide_eq_true c79
                                clear c79
                                by_cases c80 : (ji78) ≤ (a1.size : Int)
                                · rw [if_pos c80] at H
                                  have c80b0 := eq_true c80
                                  have c80b1 : decide ((ji78) ≤ (a1.size : Int)) = true := decide_eq_true c80
                                  clear c80
                                  have H' := Aside0.mk H
                                  clear H
                                  try go_wp2
                                  have n0_ : Aside0 (Kd.R k27 27 ((((w71.setCell ⟨gb181, 0, none⟩ (.int .i64 t200)).setCell ⟨gb181, 1, none⟩ (.slice Ao73 t201.length co73)).setCell ⟨gb181, 2, none⟩ (.string t204)).setCell ⟨gb181, 3, none⟩ (.bool t205)) w.heap.size (fun k_ => some k_ ≠ (.slice Ao66 y196.length co66 : Value).ownBlock ∧ some k_ ≠ (.slice Ao73 t201.length co73 : Value).ownBlock) (.slice Ao19 t175.length co19) t175) := ⟨by (with_reducible repeat (first | apply Kd.R_alloc | apply Kd.R_drewN | apply Kd.R_drew)); exact Kd.R_mono (Kd.R_far (p := ⟨gb181, 3, none⟩) (Kd.R_far (p := ⟨gb181, 2, none⟩) (Kd.R_far (p := ⟨gb181, 1, none⟩) (Kd.R_far (p := ⟨gb181, 0, none⟩) (Kd.R_types HO_182001.out BK181.out (by decide)) (fun _ hk => hk.2) (.int .i64 t200)) (fun _ hk => hk.2) (.slice Ao73 t201.length co73)) (fun _ hk => hk.2) (.string t204)) (fun _ hk => hk.2) (.bool t205)) (fun _ hk => ⟨hk.1.1.2, hk.1.2⟩)⟩
                                  have n1_ : Aside0 (Kd.R Kd.string 9 ((((w71.setCell ⟨gb181, 0, none⟩ (.int .i64 t200)).setCell ⟨gb181, 1, none⟩ (.slice Ao73 t201.length co73)).setCell ⟨gb181, 2, none⟩ (.string t204)).setCell ⟨gb181, 3, none⟩ (.bool t205)) w.heap.size (fun _ => True) (.slice (some adz_v192) y191.length co64) y191) := ⟨by (with_reducible repeat (first | apply Kd.R_alloc | apply Kd.R_drewN | apply Kd.R_drew)); exact Kd.R_mono (Kd.R_far (p := ⟨gb181, 3, none⟩) (Kd.R_far (p := ⟨gb181, 2, none⟩) (Kd.R_far (p := ⟨gb181, 1, none⟩) (Kd.R_far (p := ⟨gb181, 0, none⟩) (Kd.R_types HO193.out BK181.out (by decide)) (fun _ hk => hk.2) (.int .i64 t200)) (fun _ hk => hk.2) (.slice Ao73 t201.length co73)) (fun _ hk => hk.2) (.string t204)) (fun _ hk => hk.2) (.bool t205)) (fun _ hk => trivial)⟩
                                  have n2_ : Aside0 (Kd.R k27 27 ((((w71.setCell ⟨gb181, 0, none⟩ (.int .i64 t200)).setCell ⟨gb181, 1, none⟩ (.slice Ao73 t201.length co73)).setCell ⟨gb181, 2, none⟩ (.string t204)).setCell ⟨gb181, 3, none⟩ (.bool t205)) w.heap.size (fun k_ => some k_ ≠ (.slice Ao19 t175.length co19 : Value).ownBlock ∧ some k_ ≠ (.slice Ao73 t201.length co73 : Value).ownBlock) (.slice Ao66 y196.length co66) y196) := ⟨by (with_reducible repeat (first | apply Kd.R_alloc | apply Kd.R_drewN | apply Kd.R_drew)); exact Kd.R_mono (Kd.R_far (p := ⟨gb181, 3, none⟩) (Kd.R_far (p := ⟨gb181, 2, none⟩) (Kd.R_far (p := ⟨gb181, 1, none⟩) (Kd.R_far (p := ⟨gb181, 0, none⟩) (Kd.R_types HO198.out BK181.out (by decide)) (fun _ hk => hk.2) (.int .i64 t200)) (fun _ hk => hk.2) (.slice Ao73 t201.length co73)) (fun _ hk => hk.2) (.string t204)) (fun _ hk => hk.2) (.bool t205)) (fun _ hk => ⟨hk.1.1, hk.1.2⟩)⟩
                                  have n3_ : Aside0 (Kd.R k27 27 ((((w71.setCell ⟨gb181, 0, none⟩ (.int .i64 t200)).setCell ⟨gb181, 1, none⟩ (.slice Ao73 t201.length co73)).setCell ⟨gb181, 2, none⟩ (.string t204)).setCell ⟨gb181, 3, none⟩ (.bool t205)) w.heap.size (fun k_ => some k_ ≠ (.slice Ao19 t175.length co19 : Value).ownBlock ∧ some k_ ≠ (.slice Ao66 y196.length co66 : Value).ownBlock) (.slice Ao73 t201.length co73) t201) := ⟨by (with_reducible repeat (first | apply Kd.R_alloc | apply Kd.R_drewN | apply Kd.R_drew)); exact Kd.R_mono (Kd.R_far (p := ⟨gb181, 3, none⟩) (Kd.R_far (p := ⟨gb181, 2, none⟩) (Kd.R_far (p := ⟨gb181, 1, none⟩) (Kd.R_far (p := ⟨gb181, 0, none⟩) (Kd.R_types HO203.out BK181.out (by decide)) (fun _ hk => hk.2) (.int .i64 t200)) (fun _ hk => hk.2) (.slice Ao73 t201.length co73)) (fun _ hk => hk.2) (.string t204)) (fun _ hk => hk.2) (.bool t205)) (fun _ hk => ⟨hk.1.1.2, hk.1.2⟩)⟩
                                  have n4_ : Aside0 (((((w71.setCell ⟨gb181, 0, none⟩ (.int .i64 t200)).setCell ⟨gb181, 1, none⟩ (.slice Ao73 t201.length co73)).setCell ⟨gb181, 2, none⟩ (.string t204)).setCell ⟨gb181, 3, none⟩ (.bool t205)).heap[gb172]? = some (.cells #[.int .i64 (wrap64 (100 + t168)), .slice Ao66 y196.length co66, .string a1, .bool false] 29 (0, 0))) := ⟨by (with_reducible repeat (first | refine blk_drewN ?_ _ | refine blk_drew ?_ | refine blk_alloc ?_ _)); refine blk_far ?_ NB172_181.out _; (with_reducible repeat (first | refine blk_drewN ?_ _ | refine blk_drew ?_ | refine blk_alloc ?_ _)); refine blk_far ?_ NB172_181.out _; (with_reducible repeat (first | refine blk_drewN ?_ _ | refine blk_drew ?_ | refine blk_alloc ?_ _)); refine blk_far ?_ NB172_181.out _; (with_reducible repeat (first | refine blk_drewN ?_ _ | refine blk_drew ?_ | refine blk_alloc ?_ _)); refine blk_far ?_ NB172_181.out _; (with_reducible repeat (first | refine blk_drewN ?_ _ | refine blk_drew ?_ | refine blk_alloc ?_ _)); exact BK172.out⟩
                                  have n5_ : Aside0 (((((w71.setCell ⟨gb181, 0, none⟩ (.int .i64 t200)).setCell ⟨gb181, 1, none⟩ (.slice Ao73 t201.length co73)).setCell ⟨gb181, 2, none⟩ (.string t204)).setCell ⟨gb181, 3, none⟩ (.bool t205)).heap[gb181]? = some (.cells #[.int .i64 t200, .slice Ao73 t201.length co73, .string t204, .bool t205] 29 (0, 0))) := ⟨by (with_reducible repeat (first | refine blk_drewN ?_ _ | refine blk_drew ?_ | refine blk_alloc ?_ _)); refine blk_put (cs := #[.int .i64 t200, .slice Ao73 t201.length co73, .string t204, .bool t179]) ?_ 3 _ rfl; (with_reducible repeat (first | refine blk_drewN ?_ _ | refine blk_drew ?_ | refine blk_alloc ?_ _)); refine blk_put (cs := #[.int .i64 t200, .slice Ao73 t201.length co73, .string t178, .bool t179]) ?_ 2 _ rfl; (with_reducible repeat (first | refine blk_drewN ?_ _ | refine blk_drew ?_ | refine blk_alloc ?_ _)); refine blk_put (cs := #[.int .i64 t200, .slice Ao19 t175.length co19, .string t178, .bool t179]) ?_ 1 _ rfl; (with_reducible repeat (first | refine blk_drewN ?_ _ | refine blk_drew ?_ | refine blk_alloc ?_ _)); refine blk_put (cs := #[.int .i64 t174, .slice Ao19 t175.length co19, .string t178, .bool t179]) ?_ 0 _ rfl; (with_reducible repeat (first | refine blk_drewN ?_ _ | refine blk_drew ?_ | refine blk_alloc ?_ _)); exact BK181.out⟩
                                  have n6_ : Aside0 (Below w.heap.size w ((((w71.setCell ⟨gb181, 0, none⟩ (.int .i64 t200)).setCell ⟨gb181, 1, none⟩ (.slice Ao73 t201.length co73)).setCell ⟨gb181, 2, none⟩ (.string t204)).setCell ⟨gb181, 3, none⟩ (.bool t205))) := ⟨by repeat (first | (with_reducible first | exact HB.out | apply below_alloc | apply pw_below_drewN | apply below_drew1 | refine below_set ?_ GE172.out | refine below_set ?_ GE181.out) | exact HB.out)⟩
                                  (try clear HO_182001)
                                  (try clear HO193)
                                  (try clear HO198)
                                  (try clear HO203)
                                  (try clear BK172)
                                  (try clear BK181)
                                  (try clear HB)
                                  generalize ((((w71.setCell ⟨gb181, 0, none⟩ (.int .i64 t200)).setCell ⟨gb181, 1, none⟩ (.slice Ao73 t201.length co73)).setCell ⟨gb181, 2, none⟩ (.string t204)).setCell ⟨gb181, 3, none⟩ (.bool t205)) = w81 at n0_ n1_ n2_ n3_ n4_ n5_ n6_ ⊢
                                  have HO_182001 := n0_
                                  have HO193 := n1_
                                  have HO198 := n2_
                                  have HO203 := n3_
                                  have BK172 := n4_
                                  have BK181 := n5_
                                  have HB := n6_
                                  clear n0_ n1_ n2_ n3_ n4_ n5_ n6_
                                  have n0_ := Aside0.mk (Kd.R_drew HO_182001.out)
                                  have n1_ := Aside0.mk (Kd.R_drew HO193.out)
                                  have n2_ := Aside0.mk (Kd.R_drew HO198.out)
                                  have n3_ := Aside0.mk (Kd.R_drew HO203.out)
                                  have n4_ := Aside0.mk (blk_drew BK172.out)
                                  have n5_ := Aside0.mk (blk_drew BK181.out)
                                  have n6_ := Aside0.mk (below_drew1 HB.out)
                                  clear HO_182001
                                  clear HO193
                                  clear HO198
                                  clear HO203
                                  clear BK172
                                  clear BK181
                                  clear HB
                                  have HO_182001 := n0_
                                  have HO193 := n1_
                                  have HO198 := n2_
                                  have HO203 := n3_
                                  have BK172 := n4_
                                  have BK181 := n5_
                                  have HB := n6_
                                  clear n0_ n1_ n2_ n3_ n4_ n5_ n6_
                                  refine start_ (n := 22) (S := fun w' => w'.cell? ⟨gb181, 0, none⟩ = some (.int .i64 t200) ∧ w'.cell? ⟨gb181, 1, none⟩ = some (.slice Ao73 t201.length co73) ∧ w'.cell? ⟨gb181, 2, none⟩ = some (.string t204) ∧ w'.cell? ⟨gb181, 3, none⟩ = some (.bool t205)) (ds := []) #[false, false, false, false, false, false, false, false, false, false, false, false, false, false, false, false, false, false, false, false, false, false] (by kernel_rfl) rfl rfl ⟨(blk_cell BK181.out 0).trans rfl, (blk_cell BK181.out 1).trans rfl, (blk_cell BK181.out 2).trans rfl, (blk_cell BK181.out 3).trans rfl⟩ (fun hHeld => ?_); refine with_tabW postilionlaw09_ReplyBack.tab15 postilionlaw09_ReplyBack.bits15 (fun HT_ HW_ => ?_)
                                  generalize w81.drew = w82 at HO_182001 HO193 HO198 HO203 BK172 BK181 HB hHeld ⊢
                                  refine pure_ (i := 0) (N := some 98) (v := ?_) (a' := ?_) #[true, false, false, false, false, false, false, false, false, false, false, false, false, false, false, false, false, false, false, false, false, false] rfl rfl (any_of HT_.out (by kernel_rfl)) (fun _ _ _ h => h) (Or.inl ⟨by rfl, ?_⟩) ?_ ?_
                                  rotate_left
                                  · intro w'
                                    go_simp
                                    with_reducible rfl
                                  rotate_left
                                  · simp only [Act.put, List.setIfInBounds_toArray, List.set_cons_zero, List.set_cons_succ, i64_w, i32_w]
                                    rfl
                                  refine pure_ (i := 1) (N := some 99) (v := ?_) (a' := ?_) #[true, true, false, false, false, false, false, false, false, false, false, false, false, false, false, false, false, false, false, false, false, false] rfl rfl (any_of HT_.out (by kernel_rfl)) (fun _ _ _ h => h) (Or.inl ⟨by rfl, ?_⟩) ?_ ?_
                                  rotate_left
                                  · intro w'
                                    go_simp
                                    with_reducible rfl
                                  rotate_left
                                  · simp only [Act.put, List.setIfInBounds_toArray, List.set_cons_zero, List.set_cons_succ, i64_w, i32_w]
                                    rfl
                                  refine pure_ (i := 2) (N := some 100) (v := ?_) (a' := ?_) #[true, true, true, false, false, false, false, false, false, false, false, false, false, false, false, false, false, false, false, false, false, false] rfl rfl (any_of HT_.out (by kernel_rfl)) (fun _ _ _ h => h) (Or.inl ⟨by rfl, ?_⟩) ?_ ?_
                                  rotate_left
                                  · intro w'
                                    go_simp
                                    with_reducible rfl
                                  rotate_left
                                  · simp only [Act.put, List.setIfInBounds_toArray, List.set_cons_zero, List.set_cons_succ, i64_w, i32_w]
                                    rfl
                                  refine pure_ (i := 3) (N := some 101) (v := ?_) (a' := ?_) #[true, true, true, true, false, false, false, false, false, false, false, false, false, false, false, false, false, false, false, false, false, false] rfl rfl (any_of HT_.out (by kernel_rfl)) (fun _ _ _ h => h) (Or.inl ⟨by rfl, ?_⟩) ?_ ?_
                                  rotate_left
                                  · intro w'
                                    go_simp
                                    with_reducible rfl
                                  rotate_left
                                  · simp only [Act.put, List.setIfInBounds_toArray, List.set_cons_zero, List.set_cons_succ, i64_w, i32_w]
                                    rfl
                                  refine pure_ (i := 5) (N := some 103) (v := ?_) (a' := ?_) #[true, true, true, true, false, true, false, false, false, false, false, false, false, false, false, false, false, false, false, false, false, false] rfl rfl (any_of HT_.out (by kernel_rfl)) (fun _ _ _ h => h) (Or.inl ⟨by rfl, ?_⟩) ?_ ?_
                                  rotate_left
                                  · intro w'
                                    go_simp
                                    with_reducible rfl
                                  rotate_left
                                  · simp only [Act.put, List.setIfInBounds_toArray, List.set_cons_zero, List.set_cons_succ, i64_w, i32_w]
                                    rfl
                                  refine pure_ (i := 6) (N := some 104) (v := ?_) (a' := ?_) #[true, true, true, true, false, true, true, false, false, false, false, false, false, false, false, false, false, false, false, false, false, false] rfl rfl (any_of HT_.out (by kernel_rfl)) (fun _ _ _ h => h) (Or.inl ⟨by rfl, ?_⟩) ?_ ?_
                                  rotate_left
                                  · intro w'
                                    go_simp
                                    with_reducible rfl
                                  rotate_left
                                  · simp only [Act.put, List.setIfInBounds_toArray, List.set_cons_zero, List.set_cons_succ, i64_w, i32_w]
                                    rfl
                                  refine pure_ (i := 7) (N := some 105) (v := ?_) (a' := ?_) #[true, true, true, true, false, true, true, true, false, false, false, false, false, false, false, false, false, false, false, false, false, false] rfl rfl (any_of HT_.out (by kernel_rfl)) (fun _ _ _ h => h) (Or.inl ⟨by rfl, ?_⟩) ?_ ?_
                                  rotate_left
                                  · intro w'
                                    go_simp
                                    with_reducible rfl
                                  rotate_left
                                  · simp only [Act.put, List.setIfInBounds_toArray, List.set_cons_zero, List.set_cons_succ, i64_w, i32_w]
                                    rfl
                                  refine pure_ (i := 8) (N := some 106) (v := ?_) (a' := ?_) #[true, true, true, true, false, true, true, true, true, false, false, false, false, false, false, false, false, false, false, false, false, false] rfl rfl (any_of HT_.out (by kernel_rfl)) (fun _ _ _ h => h) (Or.inl ⟨by rfl, ?_⟩) ?_ ?_
                                  rotate_left
                                  · intro w'
                                    go_simp
                                    with_reducible rfl
                                  rotate_left
                                  · simp only [Act.put, List.setIfInBounds_toArray, List.set_cons_zero, List.set_cons_succ, i64_w, i32_w]
                                    rfl
                                  refine take_ (i := 4) (N := some 102) (v := ?_) (a' := ?_) #[true, true, true, true, true, true, true, true, true, false, false, false, false, false, false, false, false, false, false, false, false, false] rfl rfl (take_ofW HT_.out HW_.out (by kernel_rfl)) (fun _ _ _ h => h) (Or.inl ⟨by rfl, ?_⟩) hHeld ?_ ?_
                                  rotate_left
                                  · rintro w' ⟨s0, s1, s2, s3⟩
                                    go_simp
                                    with_reducible rfl
                                  rotate_left
                                  · simp only [Act.put, List.setIfInBounds_toArray, List.set_cons_zero, List.set_cons_succ, i64_w, i32_w]
                                    rfl
                                  refine pure_ (i := 9) (N := some 107) (v := ?_) (a' := ?_) #[true, true, true, true, true, true, true, true, true, true, false, false, false, false, false, false, false, false, false, false, false, false] rfl rfl (any_of HT_.out (by kernel_rfl)) (fun _ _ _ h => h) (Or.inl ⟨by rfl, ?_⟩) ?_ ?_
                                  rotate_left
                                  · intro w'
                                    go_simp
                                    with_reducible rfl
                                  rotate_left
                                  · simp only [Act.put, List.setIfInBounds_toArray, List.set_cons_zero, List.set_cons_succ, i64_w, i32_w]
                                    rfl
                                  refine pure_ (i := 10) (N := some 108) (v := ?_) (a' := ?_) #[true, true, true, true, true, true, true, true, true, true, true, false, false, false, false, false, false, false, false, false, false, false] rfl rfl (any_of HT_.out (by kernel_rfl)) (fun _ _ _ h => h) (Or.inl ⟨by rfl, ?_⟩) ?_ ?_
                                  rotate_left
                                  · intro w'
                                    go_simp
                                    with_reducible rfl
                                  rotate_left
                                  · simp only [Act.put, List.setIfInBounds_toArray, List.set_cons_zero, List.set_cons_succ, i64_w, i32_w]
                                    rfl
                                  refine pure_ (i := 11) (N := some 109) (v := ?_) (a' := ?_) #[true, true, true, true, true, true, true, true, true, true, true, true, false, false, false, false, false, false, false, false, false, false] rfl rfl (any_of HT_.out (by kernel_rfl)) (fun _ _ _ h => h) (Or.inl ⟨by rfl, ?_⟩) ?_ ?_
                                  rotate_left
                                  · intro w'
                                    go_simp
                                    with_reducible rfl
                                  rotate_left
                                  · simp only [Act.put, List.setIfInBounds_toArray, List.set_cons_zero, List.set_cons_succ, i64_w, i32_w]
                                    rfl
                                  refine pure_ (i := 12) (N := some 110) (v := ?_) (a' := ?_) #[true, true, true, true, true, true, true, true, true, true, true, true, true, false, false, false, false, false, false, false, false, false] rfl rfl (any_of HT_.out (by kernel_rfl)) (fun _ _ _ h => h) (Or.inl ⟨by rfl, ?_⟩) ?_ ?_
                                  rotate_left
                                  · intro w'
                                    go_simp
                                    with_reducible rfl
                                  rotate_left
                                  · simp only [Act.put, List.setIfInBounds_toArray, List.set_cons_zero, List.set_cons_succ, i64_w, i32_w]
                                    rfl
                                  refine pure_ (i := 14) (N := some 112) (v := ?_) (a' := ?_) #[true, true, true, true, true, true, true, true, true, true, true, true, true, false, true, false, false, false, false, false, false, false] rfl rfl (any_of HT_.out (by kernel_rfl)) (fun _ _ _ h => h) (Or.inl ⟨by rfl, ?_⟩) ?_ ?_
                                  rotate_left
                                  · intro w'
                                    go_simp
                                    with_reducible rfl
                                  rotate_left
                                  · simp only [Act.put, List.setIfInBounds_toArray, List.set_cons_zero, List.set_cons_succ, i64_w, i32_w]
                                    rfl
                                  refine pure_ (i := 15) (N := some 113) (v := ?_) (a' := ?_) #[true, true, true, true, true, true, true, true, true, true, true, true, true, false, true, true, false, false, false, false, false, false] rfl rfl (any_of HT_.out (by kernel_rfl)) (fun _ _ _ h => h) (Or.inl ⟨by rfl, ?_⟩) ?_ ?_
                                  rotate_left
                                  · intro w'
                                    go_simp
                                    with_reducible rfl
                                  rotate_left
                                  · simp only [Act.put, List.setIfInBounds_toArray, List.set_cons_zero, List.set_cons_succ, i64_w, i32_w]
                                    rfl
                                  refine pure_ (i := 16) (N := some 114) (v := ?_) (a' := ?_) #[true, true, true, true, true, true, true, true, true, true, true, true, true, false, true, true, true, false, false, false, false, false] rfl rfl (any_of HT_.out (by kernel_rfl)) (fun _ _ _ h => h) (Or.inl ⟨by rfl, ?_⟩) ?_ ?_
                                  rotate_left
                                  · intro w'
                                    go_simp
                                    with_reducible rfl
                                  rotate_left
                                  · simp only [Act.put, List.setIfInBounds_toArray, List.set_cons_zero, List.set_cons_succ, i64_w, i32_w]
                                    rfl
                                  refine pure_ (i := 17) (N := some 115) (v := ?_) (a' := ?_) #[true, true, true, true, true, true, true, true, true, true, true, true, true, false, true, true, true, true, false, false, false, false] rfl rfl (any_of HT_.out (by kernel_rfl)) (fun _ _ _ h => h) (Or.inl ⟨by rfl, ?_⟩) ?_ ?_
                                  rotate_left
                                  · intro w'
                                    go_simp
                                    with_reducible rfl
                                  rotate_left
                                  · simp only [Act.put, List.setIfInBounds_toArray, List.set_cons_zero, List.set_cons_succ, i64_w, i32_w]
                                    rfl
                                  refine pure_ (i := 18) (N := some 116) (v := ?_) (a' := ?_) #[true, true, true, true, true, true, true, true, true, true, true, true, true, false, true, true, true, true, true, false, false, false] rfl rfl (any_of HT_.out (by kernel_rfl)) (fun _ _ _ h => h) (Or.inl ⟨by rfl, ?_⟩) ?_ ?_
                                  rotate_left
                                  · intro w'
                                    go_simp
                                    with_reducible rfl
                                  rotate_left
                                  · simp only [Act.put, List.setIfInBounds_toArray, List.set_cons_zero, List.set_cons_succ, i64_w, i32_w]
                                    rfl
                                  refine pure_ (i := 19) (N := some 117) (v := ?_) (a' := ?_) #[true, true, true, true, true, true, true, true, true, true, true, true, true, false, true, true, true, true, true, true, false, false] rfl rfl (any_of HT_.out (by kernel_rfl)) (fun _ _ _ h => h) (Or.inl ⟨by rfl, ?_⟩) ?_ ?_
                                  rotate_left
                                  · intro w'
                                    go_simp
                                    with_reducible rfl
                                  rotate_left
                                  · simp only [Act.put, List.setIfInBounds_toArray, List.set_cons_zero, List.set_cons_succ, i64_w, i32_w]
                                    rfl
                                  refine take_ (i := 13) (N := some 111) (v := ?_) (a' := ?_) #[true, true, true, true, true, true, true, true, true, true, true, true, true, true, true, true, true, true, true, true, false, false] rfl rfl (take_ofW HT_.out HW_.out (by kernel_rfl)) (fun _ _ _ h => h) (Or.inl ⟨by rfl, ?_⟩) hHeld ?_ ?_
                                  rotate_left
                                  · rintro w' ⟨s0, s1, s2, s3⟩
                                    go_simp
                                    with_reducible rfl
                                  rotate_left
                                  · simp only [Act.put, List.setIfInBounds_toArray, List.set_cons_zero, List.set_cons_succ, i64_w, i32_w]
                                    rfl
                                  refine pure_ (i := 20) (N := some 118) (v := ?_) (a' := ?_) #[true, true, true, true, true, true, true, true, true, true, true, true, true, true, true, true, true, true, true, true, true, false] rfl rfl (any_of HT_.out (by kernel_rfl)) (fun _ _ _ h => h) (Or.inl ⟨by rfl, ?_⟩) ?_ ?_
                                  rotate_left
                                  · intro w'
                                    go_simp
                                    with_reducible rfl
                                  rotate_left
                                  · simp only [Act.put, List.setIfInBounds_toArray, List.set_cons_zero, List.set_cons_succ, i64_w, i32_w]
                                    rfl
                                  refine pure_ (i := 21) (N := some 119) (v := ?_) (a' := ?_) #[true, true, true, true, true, true, true, true, true, true, true, true, true, true, true, true, true, true, true, true, true, true] rfl rfl (any_of HT_.out (by kernel_rfl)) (fun _ _ _ h => h) (Or.inl ⟨by rfl, ?_⟩) ?_ ?_
                                  rotate_left
                                  · intro w'
                                    go_simp
                                    with_reducible rfl
                                  rotate_left
                                  · simp only [Act.put, List.setIfInBounds_toArray, List.set_cons_zero, List.set_cons_succ, i64_w, i32_w]
                                    rfl
                                  refine done_ (done_of HT_.out (by kernel_rfl)) ?_
                                  try go_wp2
                                  go_meet
                                  case rel => exact ⟨_, ((t204.toList != (a1.extract 0 ((ji78) : Int).toNat).toList)), (by first | rfl | (simp; done) | (simp only [← hji78] <;> (first | rfl | simp)) | (simp [*]; done)), H', ⟨by have := HJ7.out; have := HK2.out; first | omega | exact Nat.le_refl _⟩, ⟨by (with_reducible repeat (first | apply Kd.R_alloc | apply Kd.R_drewN | apply Kd.R_drew)); exact Kd.R_mono HO198.out (fun _ hk => hk.2)⟩, ⟨by (with_reducible repeat (first | apply Kd.R_alloc | apply Kd.R_drewN | apply Kd.R_drew)); exact Kd.R_mono HO203.out (fun _ hk => hk.2)⟩, ⟨by (with_reducible repeat (first | refine blk_drewN ?_ _ | refine blk_drew ?_ | refine blk_alloc ?_ _)); exact BK172.out⟩, ⟨by (with_reducible repeat (first | refine blk_drewN ?_ _ | refine blk_drew ?_ | refine blk_alloc ?_ _)); exact BK181.out⟩, ⟨by repeat (first | (with_reducible first | exact HB.out | apply below_alloc | apply pw_below_drewN | apply below_drew1 | refine below_set ?_ GE172.out | refine below_set ?_ GE181.out) | exact HB.out)⟩⟩
                                · rw [if_neg c80] at H
                                  exact absurd H (by simp)
                              · rw [if_neg c79] at H
                                exact absurd H (by simp)
                          · rw [if_neg c74] at H
                            have c74b0 : (t206 == 0) = false := beq_eq_false_iff_ne.mpr c74
                            have c74b1 : (t206 != 0) = true := bne_iff_ne.mpr c74
                            (first | rw [c74b0] | (simp only [i64_w, i32_w]; rw [c74b0]) | skip)
                            have H' := Aside0.mk H
                            clear H
                            try go_wp2
                            have n0_ : Aside0 (Kd.R k27 27 ((((w71.setCell ⟨gb181, 0, none⟩ (.int .i64 t200)).setCell ⟨gb181, 1, none⟩ (.slice Ao73 t201.length co73)).setCell ⟨gb181, 2, none⟩ (.string t204)).setCell ⟨gb181, 3, none⟩ (.bool t205)) w.heap.size (fun k_ => some k_ ≠ (.slice Ao66 y196.length co66 : Value).ownBlock ∧ some k_ ≠ (.slice Ao73 t201.length co73 : Value).ownBlock) (.slice Ao19 t175.length co19) t175) := ⟨by (with_reducible repeat (first | apply Kd.R_alloc | apply Kd.R_drewN | apply Kd.R_drew)); exact Kd.R_mono (Kd.R_far (p := ⟨gb181, 3, none⟩) (Kd.R_far (p := ⟨gb181, 2, none⟩) (Kd.R_far (p := ⟨gb181, 1, none⟩) (Kd.R_far (p := ⟨gb181, 0, none⟩) (Kd.R_types HO_182001.out BK181.out (by decide)) (fun _ hk => hk.2) (.int .i64 t200)) (fun _ hk => hk.2) (.slice Ao73 t201.length co73)) (fun _ hk => hk.2) (.string t204)) (fun _ hk => hk.2) (.bool t205)) (fun _ hk => ⟨hk.1.1.2, hk.1.2⟩)⟩
                            have n1_ : Aside0 (Kd.R Kd.string 9 ((((w71.setCell ⟨gb181, 0, none⟩ (.int .i64 t200)).setCell ⟨gb181, 1, none⟩ (.slice Ao73 t201.length co73)).setCell ⟨gb181, 2, none⟩ (.string t204)).setCell ⟨gb181, 3, none⟩ (.bool t205)) w.heap.size (fun _ => True) (.slice (some adz_v192) y191.length co64) y191) := ⟨by (with_reducible repeat (first | apply Kd.R_alloc | apply Kd.R_drewN | apply Kd.R_drew)); exact Kd.R_mono (Kd.R_far (p := ⟨gb181, 3, none⟩) (Kd.R_far (p := ⟨gb181, 2, none⟩) (Kd.R_far (p := ⟨gb181, 1, none⟩) (Kd.R_far (p := ⟨gb181, 0, none⟩) (Kd.R_types HO193.out BK181.out (by decide)) (fun _ hk => hk.2) (.int .i64 t200)) (fun _ hk => hk.2) (.slice Ao73 t201.length co73)) (fun _ hk => hk.2) (.string t204)) (fun _ hk => hk.2) (.bool t205)) (fun _ hk => trivial)⟩
                            have n2_ : Aside0 (Kd.R k27 27 ((((w71.setCell ⟨gb181, 0, none⟩ (.int .i64 t200)).setCell ⟨gb181, 1, none⟩ (.slice Ao73 t201.length co73)).setCell ⟨gb181, 2, none⟩ (.string t204)).setCell ⟨gb181, 3, none⟩ (.bool t205)) w.heap.size (fun k_ => some k_ ≠ (.slice Ao19 t175.length co19 : Value).ownBlock ∧ some k_ ≠ (.slice Ao73 t201.length co73 : Value).ownBlock) (.slice Ao66 y196.length co66) y196) := ⟨by (with_reducible repeat (first | apply Kd.R_alloc | apply Kd.R_drewN | apply Kd.R_drew)); exact Kd.R_mono (Kd.R_far (p := ⟨gb181, 3, none⟩) (Kd.R_far (p := ⟨gb181, 2, none⟩) (Kd.R_far (p := ⟨gb181, 1, none⟩) (Kd.R_far (p := ⟨gb181, 0, none⟩) (Kd.R_types HO198.out BK181.out (by decide)) (fun _ hk => hk.2) (.int .i64 t200)) (fun _ hk => hk.2) (.slice Ao73 t201.length co73)) (fun _ hk => hk.2) (.string t204)) (fun _ hk => hk.2) (.bool t205)) (fun _ hk => ⟨hk.1.1, hk.1.2⟩)⟩
                            have n3_ : Aside0 (Kd.R k27 27 ((((w71.setCell ⟨gb181, 0, none⟩ (.int .i64 t200)).setCell ⟨gb181, 1, none⟩ (.slice Ao73 t201.length co73)).setCell ⟨gb181, 2, none⟩ (.string t204)).setCell ⟨gb181, 3, none⟩ (.bool t205)) w.heap.size (fun k_ => some k_ ≠ (.slice Ao19 t175.length co19 : Value).ownBlock ∧ some k_ ≠ (.slice Ao66 y196.length co66 : Value).ownBlock) (.slice Ao73 t201.length co73) t201) := ⟨by (with_reducible repeat (first | apply Kd.R_alloc | apply Kd.R_drewN | apply Kd.R_drew)); exact Kd.R_mono (Kd.R_far (p := ⟨gb181, 3, none⟩) (Kd.R_far (p := ⟨gb181, 2, none⟩) (Kd.R_far (p := ⟨gb181, 1, none⟩) (Kd.R_far (p := ⟨gb181, 0, none⟩) (Kd.R_types HO203.out BK181.out (by decide)) (fun _ hk => hk.2) (.int .i64 t200)) (fun _ hk => hk.2) (.slice Ao73 t201.length co73)) (fun _ hk => hk.2) (.string t204)) (fun _ hk => hk.2) (.bool t205)) (fun _ hk => ⟨hk.1.1.2, hk.1.2⟩)⟩
                            have n4_ : Aside0 (((((w71.setCell ⟨gb181, 0, none⟩ (.int .i64 t200)).setCell ⟨gb181, 1, none⟩ (.slice Ao73 t201.length co73)).setCell ⟨gb181, 2, none⟩ (.string t204)).setCell ⟨gb181, 3, none⟩ (.bool t205)).heap[gb172]? = some (.cells #[.int .i64 (wrap64 (100 + t168)), .slice Ao66 y196.length co66, .string a1, .bool false] 29 (0, 0))) := ⟨by (with_reducible repeat (first | refine blk_drewN ?_ _ | refine blk_drew ?_ | refine blk_alloc ?_ _)); refine blk_far ?_ NB172_181.out _; (with_reducible repeat (first | refine blk_drewN ?_ _ | refine blk_drew ?_ | refine blk_alloc ?_ _)); refine blk_far ?_ NB172_181.out _; (with_reducible repeat (first | refine blk_drewN ?_ _ | refine blk_drew ?_ | refine blk_alloc ?_ _)); refine blk_far ?_ NB172_181.out _; (with_reducible repeat (first | refine blk_drewN ?_ _ | refine blk_drew ?_ | refine blk_alloc ?_ _)); refine blk_far ?_ NB172_181.out _; (with_reducible repeat (first | refine blk_drewN ?_ _ | refine blk_drew ?_ | refine blk_alloc ?_ _)); exact BK172.out⟩
                            have n5_ : Aside0 (((((w71.setCell ⟨gb181, 0, none⟩ (.int .i64 t200)).setCell ⟨gb181, 1, none⟩ (.slice Ao73 t201.length co73)).setCell ⟨gb181, 2, none⟩ (.string t204)).setCell ⟨gb181, 3, none⟩ (.bool t205)).heap[gb181]? = some (.cells #[.int .i64 t200, .slice Ao73 t201.length co73, .string t204, .bool t205] 29 (0, 0))) := ⟨by (with_reducible repeat (first | refine blk_drewN ?_ _ | refine blk_drew ?_ | refine blk_alloc ?_ _)); refine blk_put (cs := #[.int .i64 t200, .slice Ao73 t201.length co73, .string t204, .bool t179]) ?_ 3 _ rfl; (with_reducible repeat (first | refine blk_drewN ?_ _ | refine blk_drew ?_ | refine blk_alloc ?_ _)); refine blk_put (cs := #[.int .i64 t200, .slice Ao73 t201.length co73, .string t178, .bool t179]) ?_ 2 _ rfl; (with_reducible repeat (first | refine blk_drewN ?_ _ | refine blk_drew ?_ | refine blk_alloc ?_ _)); refine blk_put (cs := #[.int .i64 t200, .slice Ao19 t175.length co19, .string t178, .bool t179]) ?_ 1 _ rfl; (with_reducible repeat (first | refine blk_drewN ?_ _ | refine blk_drew ?_ | refine blk_alloc ?_ _)); refine blk_put (cs := #[.int .i64 t174, .slice Ao19 t175.length co19, .string t178, .bool t179]) ?_ 0 _ rfl; (with_reducible repeat (first | refine blk_drewN ?_ _ | refine blk_drew ?_ | refine blk_alloc ?_ _)); exact BK181.out⟩
                            have n6_ : Aside0 (Below w.heap.size w ((((w71.setCell ⟨gb181, 0, none⟩ (.int .i64 t200)).setCell ⟨gb181, 1, none⟩ (.slice Ao73 t201.length co73)).setCell ⟨gb181, 2, none⟩ (.string t204)).setCell ⟨gb181, 3, none⟩ (.bool t205))) := ⟨by repeat (first | (with_reducible first | exact HB.out | apply below_alloc | apply pw_below_drewN | apply below_drew1 | refine below_set ?_ GE172.out | refine below_set ?_ GE181.out) | exact HB.out)⟩
                            (try clear HO_182001)
                            (try clear HO193)
                            (try clear HO198)
                            (try clear HO203)
                            (try clear BK172)
                            (try clear BK181)
                            (try clear HB)
                            generalize ((((w71.setCell ⟨gb181, 0, none⟩ (.int .i64 t200)).setCell ⟨gb181, 1, none⟩ (.slice Ao73 t201.length co73)).setCell ⟨gb181, 2, none⟩ (.string t204)).setCell ⟨gb181, 3, none⟩ (.bool t205)) = w83 at n0_ n1_ n2_ n3_ n4_ n5_ n6_ ⊢
                            have HO_182001 := n0_
                            have HO193 := n1_
                            have HO198 := n2_
                            have HO203 := n3_
                            have BK172 := n4_
                            have BK181 := n5_
                            have HB := n6_
                            clear n0_ n1_ n2_ n3_ n4_ n5_ n6_
                            have n0_ := Aside0.mk (Kd.R_drew HO_182001.out)
                            have n1_ := Aside0.mk (Kd.R_drew HO193.out)
                            have n2_ := Aside0.mk (Kd.R_drew HO198.out)
                            have n3_ := Aside0.mk (Kd.R_drew HO203.out)
                            have n4_ := Aside0.mk (blk_drew BK172.out)
                            have n5_ := Aside0.mk (blk_drew BK181.out)
                            have n6_ := Aside0.mk (below_drew1 HB.out)
                            clear HO_182001
                            clear HO193
                            clear HO198
                            clear HO203
                            clear BK172
                            clear BK181
                            clear HB
                            have HO_182001 := n0_
                            have HO193 := n1_
                            have HO198 := n2_
                            have HO203 := n3_
                            have BK172 := n4_
                            have BK181 := n5_
                            have HB := n6_
                            clear n0_ n1_ n2_ n3_ n4_ n5_ n6_
                            refine start_ (n := 22) (S := fun w' => True) (ds := []) #[false, false, false, false, false, false, false, false, false, false, false, false, false, false, false, false, false, false, false, false, false, false] (by kernel_rfl) rfl rfl trivial (fun hHeld => ?_); refine with_tabW postilionlaw09_ReplyBack.tab15 postilionlaw09_ReplyBack.bits15 (fun HT_ HW_ => ?_)
                            generalize w83.drew = w84 at HO_182001 HO193 HO198 HO203 BK172 BK181 HB hHeld ⊢
                            refine pure_ (i := 0) (N := some 98) (v := ?_) (a' := ?_) #[true, false, false, false, false, false, false, false, false, false, false, false, false, false, false, false, false, false, false, false, false, false] rfl rfl (any_of HT_.out (by kernel_rfl)) (fun _ _ _ h => h) (Or.inl ⟨by rfl, ?_⟩) ?_ ?_
                            rotate_left
                            · intro w'
                              go_simp
                              with_reducible rfl
                            rotate_left
                            · simp only [Act.put, List.setIfInBounds_toArray, List.set_cons_zero, List.set_cons_succ, i64_w, i32_w]
                              rfl
                            refine pure_ (i := 1) (N := some 99) (v := ?_) (a' := ?_) #[true, true, false, false, false, false, false, false, false, false, false, false, false, false, false, false, false, false, false, false, false, false] rfl rfl (any_of HT_.out (by kernel_rfl)) (fun _ _ _ h => h) (Or.inl ⟨by rfl, ?_⟩) ?_ ?_
                            rotate_left
                            · intro w'
                              go_simp
                              with_reducible rfl
                            rotate_left
                            · simp only [Act.put, List.setIfInBounds_toArray, List.set_cons_zero, List.set_cons_succ, i64_w, i32_w]
                              rfl
                            refine pure_ (i := 2) (N := some 100) (v := ?_) (a' := ?_) #[true, true, true, false, false, false, false, false, false, false, false, false, false, false, false, false, false, false, false, false, false, false] rfl rfl (any_of HT_.out (by kernel_rfl)) (fun _ _ _ h => h) (Or.inl ⟨by rfl, ?_⟩) ?_ ?_
                            rotate_left
                            · intro w'
                              go_simp
                              with_reducible rfl
                            rotate_left
                            · simp only [Act.put, List.setIfInBounds_toArray, List.set_cons_zero, List.set_cons_succ, i64_w, i32_w]
                              rfl
                            refine pure_ (i := 3) (N := some 101) (v := undef) (a' := ?_) #[true, true, true, true, false, false, false, false, false, false, false, false, false, false, false, false, false, false, false, false, false, false] rfl rfl (any_of HT_.out (by kernel_rfl)) (fun _ _ _ h => h) (Or.inr ⟨by rfl, rfl⟩) ?_ ?_
                            rotate_left
                            · simp only [Act.put, List.setIfInBounds_toArray, List.set_cons_zero, List.set_cons_succ, i64_w, i32_w]
                              rfl
                            refine pure_ (i := 4) (N := some 102) (v := undef) (a' := ?_) #[true, true, true, true, true, false, false, false, false, false, false, false, false, false, false, false, false, false, false, false, false, false] rfl rfl (any_of HT_.out (by kernel_rfl)) (fun _ _ _ h => h) (Or.inr ⟨by rfl, rfl⟩) ?_ ?_
                            rotate_left
                            · simp only [Act.put, List.setIfInBounds_toArray, List.set_cons_zero, List.set_cons_succ, i64_w, i32_w]
                              rfl
                            refine pure_ (i := 5) (N := some 103) (v := undef) (a' := ?_) #[true, true, true, true, true, true, false, false, false, false, false, false, false, false, false, false, false, false, false, false, false, false] rfl rfl (any_of HT_.out (by kernel_rfl)) (fun _ _ _ h => h) (Or.inr ⟨by rfl, rfl⟩) ?_ ?_
                            rotate_left
                            · simp only [Act.put, List.setIfInBounds_toArray, List.set_cons_zero, List.set_cons_succ, i64_w, i32_w]
                              rfl
                            refine pure_ (i := 6) (N := some 104) (v := undef) (a' := ?_) #[true, true, true, true, true, true, true, false, false, false, false, false, false, false, false, false, false, false, false, false, false, false] rfl rfl (any_of HT_.out (by kernel_rfl)) (fun _ _ _ h => h) (Or.inr ⟨by rfl, rfl⟩) ?_ ?_
                            rotate_left
                            · simp only [Act.put, List.setIfInBounds_toArray, List.set_cons_zero, List.set_cons_succ, i64_w, i32_w]
                              rfl
                            refine pure_ (i := 7) (N := some 105) (v := undef) (a' := ?_) #[true, true, true, true, true, true, true, true, false, false, false, false, false, false, false, false, false, false, false, false, false, false] rfl rfl (any_of HT_.out (by kernel_rfl)) (fun _ _ _ h => h) (Or.inr ⟨by rfl, rfl⟩) ?_ ?_
                            rotate_left
                            · simp only [Act.put, List.setIfInBounds_toArray, List.set_cons_zero, List.set_cons_succ, i64_w, i32_w]
                              rfl
                            refine pure_ (i := 8) (N := some 106) (v := undef) (a' := ?_) #[true, true, true, true, true, true, true, true, true, false, false, false, false, false, false, false, false, false, false, false, false, false] rfl rfl (any_of HT_.out (by kernel_rfl)) (fun _ _ _ h => h) (Or.inr ⟨by rfl, rfl⟩) ?_ ?_
                            rotate_left
                            · simp only [Act.put, List.setIfInBounds_toArray, List.set_cons_zero, List.set_cons_succ, i64_w, i32_w]
                              rfl
                            refine pure_ (i := 9) (N := some 107) (v := undef) (a' := ?_) #[true, true, true, true, true, true, true, true, true, true, false, false, false, false, false, false, false, false, false, false, false, false] rfl rfl (any_of HT_.out (by kernel_rfl)) (fun _ _ _ h => h) (Or.inr ⟨by rfl, rfl⟩) ?_ ?_
                            rotate_left
                            · simp only [Act.put, List.setIfInBounds_toArray, List.set_cons_zero, List.set_cons_succ, i64_w, i32_w]
                              rfl
                            refine pure_ (i := 10) (N := some 108) (v := ?_) (a' := ?_) #[true, true, true, true, true, true, true, true, true, true, true, false, false, false, false, false, false, false, false, false, false, false] rfl rfl (any_of HT_.out (by kernel_rfl)) (fun _ _ _ h => h) (Or.inl ⟨by rfl, ?_⟩) ?_ ?_
                            rotate_left
                            · intro w'
                              go_simp
                              with_reducible rfl
                            rotate_left
                            · simp only [Act.put, List.setIfInBounds_toArray, List.set_cons_zero, List.set_cons_succ, i64_w, i32_w]
                              rfl
                            refine pure_ (i := 11) (N := some 109) (v := ?_) (a' := ?_) #[true, true, true, true, true, true, true, true, true, true, true, true, false, false, false, false, false, false, false, false, false, false] rfl rfl (any_of HT_.out (by kernel_rfl)) (fun _ _ _ h => h) (Or.inl ⟨by rfl, ?_⟩) ?_ ?_
                            rotate_left
                            · intro w'
                              go_simp
                              with_reducible rfl
                            rotate_left
                            · simp only [Act.put, List.setIfInBounds_toArray, List.set_cons_zero, List.set_cons_succ, i64_w, i32_w]
                              rfl
                            refine pure_ (i := 12) (N := some 110) (v := undef) (a' := ?_) #[true, true, true, true, true, true, true, true, true, true, true, true, true, false, false, false, false, false, false, false, false, false] rfl rfl (any_of HT_.out (by kernel_rfl)) (fun _ _ _ h => h) (Or.inr ⟨by rfl, rfl⟩) ?_ ?_
                            rotate_left
                            · simp only [Act.put, List.setIfInBounds_toArray, List.set_cons_zero, List.set_cons_succ, i64_w, i32_w]
                              rfl
                            refine pure_ (i := 13) (N := some 111) (v := undef) (a' := ?_) #[true, true, true, true, true, true, true, true, true, true, true, true, true, true, false, false, false, false, false, false, false, false] rfl rfl (any_of HT_.out (by kernel_rfl)) (fun _ _ _ h => h) (Or.inr ⟨by rfl, rfl⟩) ?_ ?_
                            rotate_left
                            · simp only [Act.put, List.setIfInBounds_toArray, List.set_cons_zero, List.set_cons_succ, i64_w, i32_w]
                              rfl
                            refine pure_ (i := 14) (N := some 112) (v := undef) (a' := ?_) #[true, true, true, true, true, true, true, true, true, true, true, true, true, true, true, false, false, false, false, false, false, false] rfl rfl (any_of HT_.out (by kernel_rfl)) (fun _ _ _ h => h) (Or.inr ⟨by rfl, rfl⟩) ?_ ?_
                            rotate_left
                            · simp only [Act.put, List.setIfInBounds_toArray, List.set_cons_zero, List.set_cons_succ, i64_w, i32_w]
                              rfl
                            refine pure_ (i := 15) (N := some 113) (v := undef) (a' := ?_) #[true, true, true, true, true, true, true, true, true, true, true, true, true, true, true, true, false, false, false, false, false, false] rfl rfl (any_of HT_.out (by kernel_rfl)) (fun _ _ _ h => h) (Or.inr ⟨by rfl, rfl⟩) ?_ ?_
                            rotate_left
                            · simp only [Act.put, List.setIfInBounds_toArray, List.set_cons_zero, List.set_cons_succ, i64_w, i32_w]
                              rfl
                            refine pure_ (i := 16) (N := some 114) (v := undef) (a' := ?_) #[true, true, true, true, true, true, true, true, true, true, true, true, true, true, true, true, true, false, false, false, false, false] rfl rfl (any_of HT_.out (by kernel_rfl)) (fun _ _ _ h => h) (Or.inr ⟨by rfl, rfl⟩) ?_ ?_
                            rotate_left
                            · simp only [Act.put, List.setIfInBounds_toArray, List.set_cons_zero, List.set_cons_succ, i64_w, i32_w]
                              rfl
                            refine pure_ (i := 17) (N := some 115) (v := undef) (a' := ?_) #[true, true, true, true, true, true, true, true, true, true, true, true, true, true, true, true, true, true, false, false, false, false] rfl rfl (any_of HT_.out (by kernel_rfl)) (fun _ _ _ h => h) (Or.inr ⟨by rfl, rfl⟩) ?_ ?_
                            rotate_left
                            · simp only [Act.put, List.setIfInBounds_toArray, List.set_cons_zero, List.set_cons_succ, i64_w, i32_w]
                              rfl
                            refine pure_ (i := 18) (N := some 116) (v := undef) (a' := ?_) #[true, true, true, true, true, true, true, true, true, true, true, true, true, true, true, true, true, true, true, false, false, false] rfl rfl (any_of HT_.out (by kernel_rfl)) (fun _ _ _ h => h) (Or.inr ⟨by rfl, rfl⟩) ?_ ?_
                            rotate_left
                            · simp only [Act.put, List.setIfInBounds_toArray, List.set_cons_zero, List.set_cons_succ, i64_w, i32_w]
                              rfl
                            refine pure_ (i := 19) (N := some 117) (v := undef) (a' := ?_) #[true, true, true, true, true, true, true, true, true, true, true, true, true, true, true, true, true, true, true, true, false, false] rfl rfl (any_of HT_.out (by kernel_rfl)) (fun _ _ _ h => h) (Or.inr ⟨by rfl, rfl⟩) ?_ ?_
                            rotate_left
                            · simp only [Act.put, List.setIfInBounds_toArray, List.set_cons_zero, List.set_cons_succ, i64_w, i32_w]
                              rfl
                            refine pure_ (i := 20) (N := some 118) (v := undef) (a' := ?_) #[true, true, true, true, true, true, true, true, true, true, true, true, true, true, true, true, true, true, true, true, true, false] rfl rfl (any_of HT_.out (by kernel_rfl)) (fun _ _ _ h => h) (Or.inr ⟨by rfl, rfl⟩) ?_ ?_
                            rotate_left
                            · simp only [Act.put, List.setIfInBounds_toArray, List.set_cons_zero, List.set_cons_succ, i64_w, i32_w]
                              rfl
                            refine pure_ (i := 21) (N := some 119) (v := ?_) (a' := ?_) #[true, true, true, true, true, true, true, true, true, true, true, true, true, true, true, true, true, true, true, true, true, true] rfl rfl (any_of HT_.out (by kernel_rfl)) (fun _ _ _ h => h) (Or.inl ⟨by rfl, ?_⟩) ?_ ?_
                            rotate_left
                            · intro w'
                              go_simp
                              with_reducible rfl
                            rotate_left
                            · simp only [Act.put, List.setIfInBounds_toArray, List.set_cons_zero, List.set_cons_succ, i64_w, i32_w]
                              rfl
                            refine done_ (done_of HT_.out (by kernel_rfl)) ?_
                            try go_wp2
                            go_meet
                            case rel => exact ⟨_, (true), (by first | rfl | (simp; done) | (simp [*]; done)), H', ⟨by have := HJ7.out; have := HK2.out; first | omega | exact Nat.le_refl _⟩, ⟨by (with_reducible repeat (first | apply Kd.R_alloc | apply Kd.R_drewN | apply Kd.R_drew)); exact Kd.R_mono HO198.out (fun _ hk => hk.2)⟩, ⟨by (with_reducible repeat (first | apply Kd.R_alloc | apply Kd.R_drewN | apply Kd.R_drew)); exact Kd.R_mono HO203.out (fun _ hk => hk.2)⟩, ⟨by (with_reducible repeat (first | refine blk_drewN ?_ _ | refine blk_drew ?_ | refine blk_alloc ?_ _)); exact BK172.out⟩, ⟨by (with_reducible repeat (first | refine blk_drewN ?_ _ | refine blk_drew ?_ | refine blk_alloc ?_ _)); exact BK181.out⟩, ⟨by repeat (first | (with_reducible first | exact HB.out | apply below_alloc | apply pw_below_drewN | apply below_drew1 | refine below_set ?_ GE172.out | refine below_set ?_ GE181.out) | exact HB.out)⟩⟩
                        case rest =>
                          clear HC58
                          try clear p2
                          try clear p6
                          try clear c7
                          try clear c8
                          try clear p64
                          try clear c74
                          try clear c74b0
                          try clear c74b1
                          try clear c75
                          try clear c75b0
                          try clear c75b1
                          try clear c75b2
                          try clear c79
                          try clear c79b0
                          try clear c79b1
                          try clear c80
                          try clear c80b0
                          try clear c80b1
                          obtain ⟨kq, x119_57, rfl, HA, HJ57, HO_173001, HO_182001, BK172, BK181, HB⟩ := hcut
                          cases kq with
                          | zero => exact absurd HA.out (by simp [postilionlaw09_ReplyBack.j2])
                          | succ kj57 =>
                            have H := HA.out
                            clear HA
                            simp only [postilionlaw09_ReplyBack.j2] at H
                            by_cases c85 : x119_57 = true
                            · subst c85
                              have H1 : (some false) = some r := by rw [if_pos rfl] at H; exact H
                              clear H
                              have H := H1
                              clear H1
                              obtain rfl := Option.some.inj H
                              cases hT
                            · replace c85 := Bool.eq_false_iff.mpr c85
                              subst c85
                              have H1 : (if 1 < (y196.length : Int) then (if y196.length < 4398046511104 then ((reply_Print.f kj57 (wrap64 (100 + t168)) (y196 ++ [(⟨(rd_T27 y196 1).f0, (rd_T27 y196 1).f1⟩ : S27)]) a1 false).bind fun t211 => ((reply_Parse.f kj57 t211).bind fun bt212 => (if bt212.2.2.2.2 = 2 then ((postilionlaw09_wakes.f kj57).bind fun t219 => (some t219)) else (some false)))) else (none)) else (none)) = some r := by rw [if_neg (show ¬ (false = true) by decide)] at H; exact H
                              clear H
                              have H := H1
                              clear H1
                              by_cases c86 : 1 < (y196.length : Int)
                              · rw [if_pos c86] at H
                                have c86b0 : decide (1 < (y196.length : Int)) = true := decide_eq_true c86
                                have c86b1 : decide (1 < y196.length) = true := decide_eq_true (by omega)
                                clear c86
                                by_cases c87 : y196.length < 4398046511104
                                · rw [if_pos c87] at H
                                  have LMc87 := Aside0.mk c87
                                  clear c87
                                  obtain ⟨y208, hy208⟩ : ∃ y_ : List (S27), y_ = (y196 ++ [(⟨(rd_T27 y196 1).f0, (rd_T27 y196 1).f1⟩ : S27)]) := ⟨_, rfl⟩
                                  replace H : ((reply_Print.f kj57 (wrap64 (100 + t168)) y208 a1 false).bind fun t211 => ((reply_Parse.f kj57 t211).bind fun bt212 => (if bt212.2.2.2.2 = 2 then ((postilionlaw09_wakes.f kj57).bind fun t219 => (some t219)) else (some false)))) = some r := by first | (rw [hy208]; with_reducible exact H) | (have H2_ := (Option.bind_some _ _).symm.trans H; rw [hy208]; with_reducible exact H2_) | (have H2_ := (Option.bind_some _ _).symm.trans H; with_reducible exact H2_) | with_reducible exact H | (rw [hy208]; exact H) | exact H
                                  have Ny208 := Aside0.mk hy208
                                  clear hy208
                                  replace H := Option.bind_eq_some_iff.mp H
                                  obtain ⟨t211, A880, H⟩ := H
                                  replace H : ((reply_Parse.f kj57 t211).bind fun bt212 => (if bt212.2.2.2.2 = 2 then ((postilionlaw09_wakes.f kj57).bind fun t219 => (some t219)) else (some false))) = some r := H
                                  have A88 := Aside0.mk A880
                                  clear A880
                                  replace H := Option.bind_eq_some_iff.mp H
                                  obtain ⟨⟨t212, t213, t216, t217, t218⟩, A890, H⟩ := H
                                  replace H : (if t218 = 2 then ((postilionlaw09_wakes.f kj57).bind fun t219 => (some t219)) else (some false)) = some r := H
                                  have A89 := Aside0.mk A890
                                  clear A890
                                  by_cases c90 : t218 = 2
                                  · rw [if_pos c90] at H
                                    have c90b0 : (t218 == 2) = true := beq_iff_eq.mpr c90
                                    have c90b1 : (t218 != 2) = false := bne_eq_false_iff_eq.mpr c90
                                    clear c90
                                    replace H := Option.bind_eq_some_iff.mp H
                                    obtain ⟨t219, A910, H⟩ := H
                                    replace H : (some t219) = some r := H
                                    have A91 := Aside0.mk A910
                                    clear A910
                                    obtain rfl := Option.some.inj H
                                    try go_wp2
                                    have n0_ := Aside0.mk (Kd.R_drew HO_173001.out)
                                    have n1_ := Aside0.mk (Kd.R_drew HO_182001.out)
                                    have n2_ := Aside0.mk (blk_drew BK172.out)
                                    have n3_ := Aside0.mk (blk_drew BK181.out)
                                    have n4_ := Aside0.mk (below_drew1 HB.out)
                                    clear HO_173001
                                    clear HO_182001
                                    clear BK172
                                    clear BK181
                                    clear HB
                                    have HO_173001 := n0_
                                    have HO_182001 := n1_
                                    have BK172 := n2_
                                    have BK181 := n3_
                                    have HB := n4_
                                    clear n0_ n1_ n2_ n3_ n4_
                                    have p207 : 0 ≤ (1 : Int) := (by omega)
                                    have q207 : 1 < (y196.length : Int) := of_decide_eq_true (by first | (with_reducible assumption) | assumption)
                                    obtain ⟨ad207, e207, hx207_0, hx207_1⟩ := at_T27 (Kd.R_reads' HO_173001.out).2.2 1 p207 q207
                                    cases e207
                                    (try simp only [show (1 : Int).toNat = 1 from rfl, Nat.reduceMul, Nat.reduceEqDiff, Go.Addr.add, ↓reduceIte] at hx207_0)
                                    (try simp only [show (1 : Int).toNat = 1 from rfl, Nat.reduceMul, Nat.reduceEqDiff, Go.Addr.add, ↓reduceIte] at hx207_1)
                                    have qi207 : (1 < y196.length) = True := eq_true (by omega)
                                    (try rw [show ((1 : Int)).toNat = 1 from rfl] at hx207_0)
                                    (try rw [show 1 * 2 = 2 from rfl] at hx207_0)
                                    (try rw [show ((1 : Int)).toNat = 1 from rfl] at hx207_1)
                                    (try rw [show 1 * 2 = 2 from rfl] at hx207_1)
                                    replace p207 := eq_true p207
                                    replace q207 := eq_true q207
                                    refine start_ (n := 10) (S := fun w' => w'.cell? ⟨gb172, 0, none⟩ = some (.int .i64 (wrap64 (100 + t168))) ∧ w'.cell? ⟨gb172, 1, none⟩ = some (.slice (some ad207) y196.length co66) ∧ w'.cell? ⟨gb172, 2, none⟩ = some (.string a1) ∧ w'.cell? ⟨gb172, 3, none⟩ = some (.bool false) ∧ w'.cell? ⟨ad207.block, ad207.off + 2, none⟩ = some (.string ((rd_T27 y196 1).f0)) ∧ w'.cell? ⟨ad207.block, ad207.off + 2 + 1, none⟩ = some (.string ((rd_T27 y196 1).f1))) (ds := [7, 9]) #[false, false, false, false, false, false, false, false, false, false] (by kernel_rfl) rfl rfl ⟨(blk_cell BK172.out 0).trans rfl, (blk_cell BK172.out 1).trans rfl, (blk_cell BK172.out 2).trans rfl, (blk_cell BK172.out 3).trans rfl, hx207_0, hx207_1⟩ (fun hHeld => ?_); refine with_tabW postilionlaw09_ReplyBack.tab17 postilionlaw09_ReplyBack.bits17 (fun HT_ HW_ => ?_)
                                    generalize wc.drew = w92 at HO_173001 HO_182001 BK172 BK181 HB hx207_0 hx207_1 hHeld ⊢
                                    refine pure_ (i := 0) (N := some 120) (v := ?_) (a' := ?_) #[true, false, false, false, false, false, false, false, false, false] rfl rfl (any_of HT_.out (by kernel_rfl)) (fun _ _ _ h => h) (Or.inl ⟨by rfl, ?_⟩) ?_ ?_
                                    rotate_left
                                    · intro w'
                                      go_simp
                                      with_reducible rfl
                                    rotate_left
                                    · simp only [Act.put, List.setIfInBounds_toArray, List.set_cons_zero, List.set_cons_succ, i64_w, i32_w]
                                      rfl
                                    refine pure_ (i := 2) (N := some 122) (v := ?_) (a' := ?_) #[true, false, true, false, false, false, false, false, false, false] rfl rfl (any_of HT_.out (by kernel_rfl)) (fun _ _ _ h => h) (Or.inl ⟨by rfl, ?_⟩) ?_ ?_
                                    rotate_left
                                    · intro w'
                                      go_simp
                                      with_reducible rfl
                                    rotate_left
                                    · simp only [Act.put, List.setIfInBounds_toArray, List.set_cons_zero, List.set_cons_succ, i64_w, i32_w]
                                      rfl
                                    refine take_ (i := 1) (N := some 121) (v := ?_) (a' := ?_) #[true, true, true, false, false, false, false, false, false, false] rfl rfl (take_ofW HT_.out HW_.out (by kernel_rfl)) (fun _ _ _ h => h) (Or.inl ⟨by rfl, ?_⟩) hHeld ?_ ?_
                                    rotate_left
                                    · rintro w' ⟨s0, s1, s2, s3, s4, s5⟩
                                      go_simp
                                      with_reducible rfl
                                    rotate_left
                                    · simp only [Act.put, List.setIfInBounds_toArray, List.set_cons_zero, List.set_cons_succ, i64_w, i32_w]
                                      rfl
                                    refine take_ (i := 3) (N := some 123) (v := ?_) (a' := ?_) #[true, true, true, true, false, false, false, false, false, false] rfl rfl (take_ofW HT_.out HW_.out (by kernel_rfl)) (fun _ _ _ h => h) (Or.inl ⟨by rfl, ?_⟩) hHeld ?_ ?_
                                    rotate_left
                                    · rintro w' ⟨s0, s1, s2, s3, s4, s5⟩
                                      go_simp
                                      with_reducible rfl
                                    rotate_left
                                    · simp only [Act.put, List.setIfInBounds_toArray, List.set_cons_zero, List.set_cons_succ, i64_w, i32_w]
                                      rfl
                                    refine pure_ (i := 4) (N := some 124) (v := ?_) (a' := ?_) #[true, true, true, true, true, false, false, false, false, false] rfl rfl (any_of HT_.out (by kernel_rfl)) (fun _ _ _ h => h) (Or.inl ⟨by rfl, ?_⟩) ?_ ?_
                                    rotate_left
                                    · intro w'
                                      go_simp
                                      with_reducible rfl
                                    rotate_left
                                    · simp only [Act.put, List.setIfInBounds_toArray, List.set_cons_zero, List.set_cons_succ, i64_w, i32_w]
                                      rfl
                                    refine take_ (i := 5) (N := some 125) (v := ?_) (a' := ?_) #[true, true, true, true, true, true, false, false, false, false] rfl rfl (take_ofW HT_.out HW_.out (by kernel_rfl)) (fun _ _ _ h => h) (Or.inl ⟨by rfl, ?_⟩) hHeld ?_ ?_
                                    rotate_left
                                    · rintro w' ⟨s0, s1, s2, s3, s4, s5⟩
                                      go_simp
                                      with_reducible rfl
                                    rotate_left
                                    · simp only [Act.put, List.setIfInBounds_toArray, List.set_cons_zero, List.set_cons_succ, i64_w, i32_w]
                                      rfl
                                    refine one_ (i := 6) (N := some 126) #[true, true, true, true, true, true, true, false, false, false] rfl rfl (one_of HT_.out (by kernel_rfl)) (by decide) (fun K hK => ?_)
                                    refine value_ (w1 := ?_) (v := ?_) (by rfl) rfl ?_ ?_
                                    rotate_left 2
                                    · go_simp
                                      constructor
                                      · rfl
                                      · rfl
                                    refine hK.out _ _ ⟨(blk_cell (blk_alloc BK172.out _) 0).trans rfl, (blk_cell (blk_alloc BK172.out _) 1).trans rfl, (blk_cell (blk_alloc BK172.out _) 2).trans rfl, (blk_cell (blk_alloc BK172.out _) 3).trans rfl, (World.cell?_alloc_lt _ _ _ (World.block_lt_of_cell? _ _ (hHeld.2.2.2.2.1))).trans (hHeld.2.2.2.2.1), (World.cell?_alloc_lt _ _ _ (World.block_lt_of_cell? _ _ (hHeld.2.2.2.2.2))).trans (hHeld.2.2.2.2.2)⟩ (fun hHeld => ?_)
                                    clear hK K
                                    refine norm_ (a' := ?_) ?_ ?_
                                    rotate_left
                                    · show Act.put _ (some 126) _ = _
                                      simp only [Act.put, List.setIfInBounds_toArray, List.set_cons_zero, List.set_cons_succ, i64_w, i32_w]
                                      rfl
                                    refine last_ (i := 7) (N := some 127) #[true, true, true, true, true, true, true, true, false, false] rfl rfl (one_of HT_.out (by kernel_rfl)) (by decide) (fun K hK => ?_)
                                    refine Kd.R_append_step k27 (w0 := w) w.heap.size (by rfl) (.tmp 121) (.tmp 126) 23 27 (.agg #[(.string ⟨#[]⟩), (.string ⟨#[]⟩)]) 32 rfl Tryd.underlying23 info27 rfl (by decide) (by omega) (.slice (some ad207) y196.length co66) y196 (⟨(rd_T27 y196 1).f0, (rd_T27 y196 1).f1⟩ : S27) [.string ((rd_T27 y196 1).f0), .string ((rd_T27 y196 1).f1)] (fun k_ => some k_ ≠ (.slice Ao73 t201.length co73 : Value).ownBlock) (fun _ => False) rfl rfl ?aP (fun _ hk => hk.elim) ?aF ?aO ?aB ?aS ?aL ?_
                                    (case aP => exact k27_mkM _ _ _ (⟨(rd_T27 y196 1).f0, (rd_T27 y196 1).f1⟩ : S27))
                                    (case aB => exact (by repeat (first | (with_reducible first | exact HB.out | apply below_alloc | apply pw_below_drewN | apply below_drew1 | refine below_set ?_ GE172.out | refine below_set ?_ GE181.out) | exact HB.out)))
                                    (case aF => exact (fun k_ hk => Kd.fresh' (Kd.R_lt (by (with_reducible repeat (first | apply Kd.R_alloc | apply Kd.R_drewN | apply Kd.R_drew)); exact HO_182001.out)) k_ hk))
                                    (case aO => exact (by (with_reducible repeat (first | apply Kd.R_alloc | apply Kd.R_drewN | apply Kd.R_drew)); exact HO_173001.out))
                                    (case aS => exact (below_size (by repeat (first | (with_reducible first | exact HB.out | apply below_alloc | apply pw_below_drewN | apply below_drew1 | refine below_set ?_ GE172.out | refine below_set ?_ GE181.out) | exact HB.out))))
                                    (case aL => have := LMc87.out; omega)
                                    intro v209 w93 ho hb hg hat
                                    rw [← Ny208.out] at ho
                                    have n0_ := Aside0.mk (Kd.R_after (ok := (fun _ => True)) (by (with_reducible repeat (first | apply Kd.R_alloc | apply Kd.R_drewN | apply Kd.R_drew)); exact Kd.R_mono HO_182001.out (fun _ hk => ⟨trivial, hk⟩)) hg hat)
                                    have n1_ := Aside0.mk (blk_grown (g := gb172) (o := .cells #[.int .i64 (wrap64 (100 + t168)), .slice (some ad207) y196.length co66, .string a1, .bool false] 29 (0, 0)) (by (with_reducible repeat (first | refine blk_drewN ?_ _ | refine blk_drew ?_ | refine blk_alloc ?_ _)); exact BK172.out) hg (Kd.R_ne HO_173001.out BK172.out (by decide)))
                                    have n2_ := Aside0.mk (blk_grown (g := gb181) (o := .cells #[.int .i64 t200, .slice Ao73 t201.length co73, .string t204, .bool t205] 29 (0, 0)) (by (with_reducible repeat (first | refine blk_drewN ?_ _ | refine blk_drew ?_ | refine blk_alloc ?_ _)); exact BK181.out) hg (Kd.R_ne HO_173001.out BK181.out (by decide)))
                                    have n3_ := Aside0.mk (hb)
                                    have n4_ := Aside0.mk (ho)
                                    clear HO_182001
                                    clear BK172
                                    clear BK181
                                    clear HB
                                    clear HO_173001
                                    have HO_182001 := n0_
                                    have BK172 := n1_
                                    have BK181 := n2_
                                    have HB := n3_
                                    have HO210 := n4_
                                    clear n0_ n1_ n2_ n3_ n4_
                                    clear ho hb hg hat
                                    obtain ⟨Ao94, co94, eo94⟩ := Kd.R_slice HO210.out
                                    (first | subst eo94 | (injection eo94 with f1_ f2_ f3_; have f4_ := f1_.symm; have f5_ := f3_.symm; clear f1_ f2_ f3_; subst f4_; subst f5_))
                                    refine hK.out _ _ ?_
                                    clear hK K
                                    refine norm_ (a' := ?_) ?_ ?_
                                    rotate_left
                                    · show Act.put _ (some 127) _ = _
                                      simp only [Act.put, List.setIfInBounds_toArray, List.set_cons_zero, List.set_cons_succ, i64_w, i32_w]
                                      rfl
                                    refine pure_ (i := 8) (N := some 128) (v := ?_) (a' := ?_) #[true, true, true, true, true, true, true, true, true, false] rfl rfl (any_of HT_.out (by kernel_rfl)) (fun _ _ _ h => h) (Or.inl ⟨by rfl, ?_⟩) ?_ ?_
                                    rotate_left
                                    · intro w'
                                      go_simp
                                      with_reducible rfl
                                    rotate_left
                                    · simp only [Act.put, List.setIfInBounds_toArray, List.set_cons_zero, List.set_cons_succ, i64_w, i32_w]
                                      rfl
                                    refine last_ (i := 9) (N := none) #[true, true, true, true, true, true, true, true, true, true] rfl rfl (one_of HT_.out (by kernel_rfl)) (by decide) (fun K hK => ?_)
                                    have hs95 : w93.cell? ⟨gb172, 1, none⟩ = some (.slice (some ad207) y196.length co66) := (blk_cell BK172.out 1).trans rfl
                                    have hfs95 := blk_frozen BK172.out 1
                                    have hns95_1 := NB181_172.out
                                    have hms95_1 := NB172_181.out
                                    refine skip_ (w1 := ?_) (by rfl) rfl ?_ ?_
                                    rotate_left
                                    · go_simp
                                      rfl
                                    refine hK.out _ _ ?_
                                    clear hK K
                                    refine done_ (done_of HT_.out (by kernel_rfl)) ?_
                                    have hnb96 := NB172_181.out
                                    have hnc96 := NB181_172.out
                                    have hcz97_0 : w93.cell? ⟨gb172, 0, none⟩ = some (.int .i64 (wrap64 (100 + t168))) := (blk_cell BK172.out 0).trans rfl
                                    have hcz97_1 : w93.cell? ⟨gb172, 1, none⟩ = some (.slice (some ad207) y196.length co66) := (blk_cell BK172.out 1).trans rfl
                                    have hcz97_2 : w93.cell? ⟨gb172, 2, none⟩ = some (.string a1) := (blk_cell BK172.out 2).trans rfl
                                    have hcz97_3 : w93.cell? ⟨gb172, 3, none⟩ = some (.bool false) := (blk_cell BK172.out 3).trans rfl
                                    have hfz97_0 := blk_frozen BK172.out 0
                                    have hfz97_1 := blk_frozen BK172.out 1
                                    have hfz97_2 := blk_frozen BK172.out 2
                                    have hfz97_3 := blk_frozen BK172.out 3
                                    try go_wp2_with (first | ((with_reducible refine gate_callee (f := 29) rfl ?_); refine goesL_ (some 131) rfl rfl Tryd.func29 (by kernel_rfl) rfl #[.agg #[.int .i64 (wrap64 (100 + t168)), .slice Ao94 y208.length co94, .string a1, .bool false]] rfl (by (try simp only [List.map_toArray, List.map_cons, List.map_nil]); first | done | rfl | (simp only [List.length_drop, List.length_take]; rfl)) ?_; (with_reducible refine (reply_Print.calls kj57 (wrap64 (100 + t168)) _ _ y208 a1 false t211 _ ?side1 ?side2 ?side3 A88.out).mono ?_); (case side1 => exact Gl.below hG (by repeat (first | (with_reducible first | exact HB.out | apply below_alloc | apply pw_below_drewN | apply below_drew1 | refine below_set ?_ GE172.out | refine below_set ?_ GE181.out) | exact HB.out))); (case side2 => refine (Kd.R_reads' (e := 27) (base := w.heap.size) (ok := fun k_ => some k_ ≠ (.slice Ao73 t201.length co73 : Value).ownBlock) (n := y208.length) (c := co94) ?_).2.2; exact (by (with_reducible repeat (first | apply Kd.R_alloc | apply Kd.R_drewN | apply Kd.R_drew)); exact (Kd.R_mono (Kd.R_far (p := ⟨gb172, 1, none⟩) (Kd.R_types HO210.out BK172.out (by decide)) (fun _ hk => hk.2) (.slice Ao94 y208.length co94)) (fun _ h_ => h_.1)))); (case side3 => exact (Kd.R_reads' HO210.out).2.1); rintro e w98 ⟨rfl, hb⟩; refine ⟨_, rfl, ?_⟩; have n0_ := Aside0.mk (Kd.R_below (by (with_reducible repeat (first | apply Kd.R_alloc | apply Kd.R_drewN | apply Kd.R_drew)); exact (Kd.R_mono (Kd.R_far (p := ⟨gb172, 1, none⟩) (Kd.R_types HO_182001.out BK172.out (by decide)) (fun _ hk => hk.2) (.slice Ao94 y208.length co94)) (fun _ h_ => h_.1))) hb); have n1_ := Aside0.mk (Kd.R_below (by (with_reducible repeat (first | apply Kd.R_alloc | apply Kd.R_drewN | apply Kd.R_drew)); exact (Kd.R_mono (Kd.R_far (p := ⟨gb172, 1, none⟩) (Kd.R_types HO210.out BK172.out (by decide)) (fun _ hk => hk.2) (.slice Ao94 y208.length co94)) (fun _ h_ => h_.1))) hb); have n2_ := Aside0.mk (blk_below (g := gb172) (o := .cells #[.int .i64 (wrap64 (100 + t168)), .slice Ao94 y208.length co94, .string a1, .bool false] 29 (0, 0)) (by (with_reducible repeat (first | refine blk_drewN ?_ _ | refine blk_drew ?_ | refine blk_alloc ?_ _)); refine blk_put (cs := #[.int .i64 (wrap64 (100 + t168)), .slice (some ad207) y196.length co66, .string a1, .bool false]) ?_ 1 _ rfl; (with_reducible repeat (first | refine blk_drewN ?_ _ | refine blk_drew ?_ | refine blk_alloc ?_ _)); exact BK172.out) hb); have n3_ := Aside0.mk (blk_below (g := gb181) (o := .cells #[.int .i64 t200, .slice Ao73 t201.length co73, .string t204, .bool t205] 29 (0, 0)) (by (with_reducible repeat (first | refine blk_drewN ?_ _ | refine blk_drew ?_ | refine blk_alloc ?_ _)); refine blk_far ?_ NB181_172.out _; (with_reducible repeat (first | refine blk_drewN ?_ _ | refine blk_drew ?_ | refine blk_alloc ?_ _)); exact BK181.out) hb); have n4_ := Aside0.mk (below_step (by repeat (first | (with_reducible first | exact HB.out | apply below_alloc | apply pw_below_drewN | apply below_drew1 | refine below_set ?_ GE172.out | refine below_set ?_ GE181.out) | exact HB.out)) hb); clear HO_182001; clear HO210; clear BK172; clear BK181; clear HB; have HO_182001 := n0_; have HO210 := n1_; have BK172 := n2_; have BK181 := n3_; have HB := n4_; clear n0_ n1_ n2_ n3_ n4_; (try clear hb); (try clear hb2); (try clear hk); (try clear hi)) | ((with_reducible refine gate_callee (f := 13) rfl ?_); refine goesL_ (some 132) rfl rfl Tryd.func13 (by kernel_rfl) rfl #[.string t211] rfl (by (try simp only [List.map_toArray, List.map_cons, List.map_nil]); first | done | rfl | (simp only [List.length_drop, List.length_take]; rfl)) ?_; (with_reducible refine (reply_Parse.calls kj57 t211 t212 t213 t216 t217 t218 _ ?side1 A89.out).mono ?_); (case side1 => exact Gl.below hG (by repeat (first | (with_reducible first | exact HB.out | apply below_alloc | apply pw_below_drewN | apply below_drew1 | refine below_set ?_ GE172.out | refine below_set ?_ GE181.out) | exact HB.out))); rintro e w99 ⟨v214, rfl, ho0, hb⟩; refine ⟨_, rfl, ?_⟩; have n0_ := Aside0.mk (Kd.R_elder' (by (with_reducible repeat (first | apply Kd.R_alloc | apply Kd.R_drewN | apply Kd.R_drew)); exact HO_182001.out) (Kd.R_base ho0) hb); have n1_ := Aside0.mk (Kd.R_elder' (by (with_reducible repeat (first | apply Kd.R_alloc | apply Kd.R_drewN | apply Kd.R_drew)); exact HO210.out) (Kd.R_base ho0) hb); have n2_ := Aside0.mk (Kd.R_lower (Kd.R_new' (Kd.R_new' ho0 (Kd.R_lt (by (with_reducible repeat (first | apply Kd.R_alloc | apply Kd.R_drewN | apply Kd.R_drew)); exact HO_182001.out))) (Kd.R_lt (by (with_reducible repeat (first | apply Kd.R_alloc | apply Kd.R_drewN | apply Kd.R_drew)); exact HO210.out))) (below_size (by repeat (first | (with_reducible first | exact HB.out | apply below_alloc | apply pw_below_drewN | apply below_drew1 | refine below_set ?_ GE172.out | refine below_set ?_ GE181.out) | exact HB.out)))); have n3_ := Aside0.mk (blk_below (g := gb172) (o := .cells #[.int .i64 (wrap64 (100 + t168)), .slice Ao94 y208.length co94, .string a1, .bool false] 29 (0, 0)) (by (with_reducible repeat (first | refine blk_drewN ?_ _ | refine blk_drew ?_ | refine blk_alloc ?_ _)); exact BK172.out) hb); have n4_ := Aside0.mk (blk_below (g := gb181) (o := .cells #[.int .i64 t200, .slice Ao73 t201.length co73, .string t204, .bool t205] 29 (0, 0)) (by (with_reducible repeat (first | refine blk_drewN ?_ _ | refine blk_drew ?_ | refine blk_alloc ?_ _)); exact BK181.out) hb); have n5_ := Aside0.mk (below_step (by repeat (first | (with_reducible first | exact HB.out | apply below_alloc | apply pw_below_drewN | apply below_drew1 | refine below_set ?_ GE172.out | refine below_set ?_ GE181.out) | exact HB.out)) hb); clear HO_182001; clear HO210; clear BK172; clear BK181; clear HB; have HO_182001 := n0_; have HO210 := n1_; have HO215 := n2_; have BK172 := n3_; have BK181 := n4_; have HB := n5_; clear n0_ n1_ n2_ n3_ n4_ n5_; (try clear hb); (try clear hb2); (try clear hk); (try clear hi); (try clear ho0)) | (go_at_call 14; (with_reducible refine (postilionlaw09_wakes.calls kj57  t219 _ ?side1 A91.out).mono ?_); (case side1 => exact Gl.below hG (by repeat (first | (with_reducible first | exact HB.out | apply below_alloc | apply pw_below_drewN | apply below_drew1 | refine below_set ?_ GE172.out | refine below_set ?_ GE181.out) | exact HB.out))); rintro e w100 ⟨rfl, hb⟩; have n0_ := Aside0.mk (Kd.R_below (by (with_reducible repeat (first | apply Kd.R_alloc | apply Kd.R_drewN | apply Kd.R_drew)); exact HO_182001.out) hb); have n1_ := Aside0.mk (Kd.R_below (by (with_reducible repeat (first | apply Kd.R_alloc | apply Kd.R_drewN | apply Kd.R_drew)); exact HO210.out) hb); have n2_ := Aside0.mk (Kd.R_below (by (with_reducible repeat (first | apply Kd.R_alloc | apply Kd.R_drewN | apply Kd.R_drew)); exact HO215.out) hb); have n3_ := Aside0.mk (blk_below (g := gb172) (o := .cells #[.int .i64 (wrap64 (100 + t168)), .slice Ao94 y208.length co94, .string a1, .bool false] 29 (0, 0)) (by (with_reducible repeat (first | refine blk_drewN ?_ _ | refine blk_drew ?_ | refine blk_alloc ?_ _)); exact BK172.out) hb); have n4_ := Aside0.mk (blk_below (g := gb181) (o := .cells #[.int .i64 t200, .slice Ao73 t201.length co73, .string t204, .bool t205] 29 (0, 0)) (by (with_reducible repeat (first | refine blk_drewN ?_ _ | refine blk_drew ?_ | refine blk_alloc ?_ _)); exact BK181.out) hb); have n5_ := Aside0.mk (below_step (by repeat (first | (with_reducible first | exact HB.out | apply below_alloc | apply pw_below_drewN | apply below_drew1 | refine below_set ?_ GE172.out | refine below_set ?_ GE181.out) | exact HB.out)) hb); clear HO_182001; clear HO210; clear HO215; clear BK172; clear BK181; clear HB; have HO_182001 := n0_; have HO210 := n1_; have HO215 := n2_; have BK172 := n3_; have BK181 := n4_; have HB := n5_; clear n0_ n1_ n2_ n3_ n4_ n5_; (try clear hb); (try clear hb2); (try clear hk); (try clear hi)))
                                    go_ret
                                    exact ⟨by first | rfl | (simp [errW_none, errW_some] <;> rfl) | (simp [*, errW_none, errW_some] <;> rfl), by repeat (first | (with_reducible first | exact HB.out | apply below_alloc | apply pw_below_drewN | apply below_drew1 | refine below_set ?_ GE172.out | refine below_set ?_ GE181.out) | exact HB.out)⟩
                                  · rw [if_neg c90] at H
                                    have c90b0 : (t218 == 2) = false := beq_eq_false_iff_ne.mpr c90
                                    have c90b1 : (t218 != 2) = true := bne_iff_ne.mpr c90
                                    obtain rfl := Option.some.inj H
                                    cases hT
                                · rw [if_neg c87] at H
                                  exact absurd H (by simp)
                              · rw [if_neg c86] at H
                                exact absurd H (by simp)
                      · rw [if_neg c55] at H
                        exact absurd H (by simp)
                    · rw [if_neg c54] at H
                      exact absurd H (by simp)
                  · rw [if_neg c53] at H
                    exact absurd H (by simp)

/-- THE ONE PURE STATEMENT of postilionlaw09_ReplyBack: yours. -/
def postilionlaw09_ReplyBack.Pure : Prop := ∀ (a0 : Int) (a1 : ByteArray) (a2 : Int) (a3 : Int), (Lit.int .i64 a0).wf = true → a1.size ≤ 140737488351232 → (Lit.int .i64 a2).wf = true → (Lit.int .i64 a3).wf = true → ∃ k, postilionlaw09_ReplyBack.f k a0 a1 a2 a3 = some true
theorem postilionlaw09_ReplyBack.walk (P : postilionlaw09_ReplyBack.Pure) (a0 : Int) (a1 : ByteArray) (a2 : Int) (a3 : Int) (w : World) (w0 : (Lit.int .i64 a0).wf = true) (w1 : a1.size ≤ 140737488351232) (w2 : (Lit.int .i64 a2).wf = true) (w3 : (Lit.int .i64 a3).wf = true) (hG : Gl w) :
    Calls Tryd.prog 11 #[.int .i64 a0, .string a1, .int .i64 a2, .int .i64 a3] w fun e w' => e = .returned (.bool true) ∧ Below w.heap.size w w' := by
  obtain ⟨k, h⟩ := P a0 a1 a2 a3 w0 w1 w2 w3
  refine (postilionlaw09_ReplyBack.calls k a0 a1 a2 a3 true w hG rfl h).mono ?_
  rintro e w' ⟨rfl, hd⟩
  exact ⟨rfl, hd⟩

end Go.Proofs.YtllblgjhoeopjaaDoor.GReplyBack
