-- Made by this session's changed copy of the kit's printer (wip/myprint). Not trusted: Lean checks it.
import Derived.Test.YtiabjeeelgkneaaDoorGPartFitsx0
import Derived.Test.YtiabjeeelgkneaaDoorGPartFitsx1
import Derived.Test.YtiabjeeelgkneaaDoorGPartFitsx2
import Derived.Test.YtiabjeeelgkneaaDoorGivP
namespace Go.Proofs.YtiabjeeelgkneaaDoor.GPartFits
open Go.RowKit Go.Proofs.YtiabjeeelgkneaaDoor.GivP Go.Proofs.YtiabjeeelgkneaaDoor.Mw Go.Proofs.YtiabjeeelgkneaaDoorW.PrintWords Go.Proofs.YtiabjeeelgkneaaDoorW.PrintLast Go.Proofs.YtiabjeeelgkneaaDoorW.PrintMore
attribute [local go_sem] max2_int min2_int max_two min_two max_three min_three max_four min_four   -- for this text's walks alone
set_option linter.unusedVariables false
set_option linter.unusedSimpArgs false

/-! ### postilionlaw15_PartFits: function 6 -/
mutual
def postilionlaw15_PartFits.j0 : Nat → Int → Int → Int → Int → Bool → Int → List (S26) → ByteArray → Bool → Option (Bool)
  | 0, _, _, _, _, _, _, _, _, _ => none
  | k + 1, x0, x1, x2, x3, x59, x170000, x170001, x170002, x170003 => if x59 = true then (some false) else ((postilionref01_Digits.f (wrap64 (x0 - x1))).bind fun t172 => (if x170001.length < 4398046511104 then ((some (x170001 ++ [(⟨(⟨#[99, 111, 110, 116, 101, 110, 116, 45, 108, 101, 110, 103, 116, 104]⟩ : ByteArray), t172⟩ : S26)] : List (S26))).bind fun y173 => ((part_Fits.f k x170000 y173 x170002 x170003 x1 (⟨#[34, 118, 49, 34]⟩ : ByteArray)).bind fun bt176 => (if bt176.2 = true then (postilionlaw15_PartFits.j1 k x0 x1 x2 x3 (bt176.1 != x0) x170000 y173 x170002 x170003) else (postilionlaw15_PartFits.j1 k x0 x1 x2 x3 true x170000 y173 x170002 x170003)))) else (none)))
def postilionlaw15_PartFits.j1 : Nat → Int → Int → Int → Int → Bool → Int → List (S26) → ByteArray → Bool → Option (Bool)
  | 0, _, _, _, _, _, _, _, _, _ => none
  | k + 1, x0, x1, x2, x3, x82, x170000, x170001, x170002, x170003 => if x82 = true then (some false) else ((postilionkeep_Within.f x2 30).bind fun t178 => ((part_Fits.f k x170000 x170001 x170002 x170003 (wrap64 (x1 + (wrap64 (1 + t178)))) (⟨#[34, 118, 49, 34]⟩ : ByteArray)).bind fun bt179 => ((part_Fits.f k x170000 x170001 x170002 x170003 x1 (⟨#[34, 118, 50, 34]⟩ : ByteArray)).bind fun bt181 => ((part_Fits.f k x170000 x170001 x170002 x170003 x1 (⟨#[]⟩ : ByteArray)).bind fun bt183 => ((postilionkeep_Within.f x3 4).bind fun t185 => (if t185 = 0 then ((part_Fits.f k 200 x170001 x170002 x170003 x1 (⟨#[34, 118, 49, 34]⟩ : ByteArray)).bind fun bt186 => (if bt179.2 = true then (some false) else (if bt181.2 = true then (some false) else (if bt183.2 = true then (some false) else (if bt186.2 = true then (some false) else ((postilionlaw15_wakes.f k).bind fun t188 => (some t188))))))) else (if t185 = 1 then ((postilionref01_Digits.f x1).bind fun t189 => (if 6 + t189.size ≤ 9223372036854775807 then (if 6 + t189.size + 1 ≤ 9223372036854775807 then ((postilionref01_Digits.f (wrap64 (x0 - 1))).bind fun t190 => (if 6 + t189.size + 1 + t190.size ≤ 9223372036854775807 then (if 6 + t189.size + 1 + t190.size + 1 ≤ 9223372036854775807 then ((postilionref01_Digits.f (wrap64 (x0 + (wrap64 (1 + t178))))).bind fun t191 => (if 6 + t189.size + 1 + t190.size + 1 + t191.size ≤ 9223372036854775807 then (if 1 < (x170001.length : Int) then ((part_Fits.f k x170000 (x170001.set (1 : Int).toNat (⟨(rd_T26 x170001 1).f0, (((((⟨#[98, 121, 116, 101, 115, 32]⟩ : ByteArray) ++ t189) ++ (⟨#[45]⟩ : ByteArray)) ++ t190) ++ (⟨#[47]⟩ : ByteArray)) ++ t191⟩ : S26)) x170002 x170003 x1 (⟨#[34, 118, 49, 34]⟩ : ByteArray)).bind fun bt193 => (if bt179.2 = true then (some false) else (if bt181.2 = true then (some false) else (if bt183.2 = true then (some false) else (if bt193.2 = true then (some false) else ((postilionlaw15_wakes.f k).bind fun t195 => (some t195))))))) else (none)) else (none))) else (none)) else (none))) else (none)) else (none))) else (if t185 = 2 then ((postilionref01_Digits.f (wrap64 ((wrap64 (x0 - x1)) + (wrap64 (1 + t178))))).bind fun t196 => (if 2 < (x170001.length : Int) then ((part_Fits.f k x170000 (x170001.set (2 : Int).toNat (⟨(rd_T26 x170001 2).f0, t196⟩ : S26)) x170002 x170003 x1 (⟨#[34, 118, 49, 34]⟩ : ByteArray)).bind fun bt198 => (if bt179.2 = true then (some false) else (if bt181.2 = true then (some false) else (if bt183.2 = true then (some false) else (if bt198.2 = true then (some false) else ((postilionlaw15_wakes.f k).bind fun t200 => (some t200))))))) else (none))) else (if 0 < (x170001.length : Int) then ((part_Fits.f k x170000 (x170001.set (0 : Int).toNat (⟨(rd_T26 x170001 0).f0, (⟨#[87, 47, 34, 118, 49, 34]⟩ : ByteArray)⟩ : S26)) x170002 x170003 x1 (⟨#[34, 118, 49, 34]⟩ : ByteArray)).bind fun bt202 => (if bt179.2 = true then (some false) else (if bt181.2 = true then (some false) else (if bt183.2 = true then (some false) else (if bt202.2 = true then (some false) else ((postilionlaw15_wakes.f k).bind fun t204 => (some t204))))))) else (none))))))))))
end
def postilionlaw15_PartFits.f (k : Nat) (a0 : Int) (a1 : Int) (a2 : Int) (a3 : Int) : Option (Bool) := (postilionkeep_Within.f a0 40).bind fun t158 => ((postilionkeep_Within.f a1 (wrap64 (1 + t158))).bind fun t159 => ((postilionref01_Digits.f t159).bind fun t160 => (if 6 + t160.size ≤ 9223372036854775807 then (if 6 + t160.size + 1 ≤ 9223372036854775807 then ((postilionref01_Digits.f (wrap64 ((wrap64 (1 + t158)) - 1))).bind fun t161 => (if 6 + t160.size + 1 + t161.size ≤ 9223372036854775807 then (if 6 + t160.size + 1 + t161.size + 1 ≤ 9223372036854775807 then ((postilionref01_Digits.f (wrap64 (1 + t158))).bind fun t162 => (if 6 + t160.size + 1 + t161.size + 1 + t162.size ≤ 9223372036854775807 then ((some (([(⟨(⟨#[69, 84, 97, 103]⟩ : ByteArray), (⟨#[34, 118, 49, 34]⟩ : ByteArray)⟩ : S26), (⟨(⟨#[67, 111, 110, 116, 101, 110, 116, 45, 82, 97, 110, 103, 101]⟩ : ByteArray), (((((⟨#[98, 121, 116, 101, 115, 32]⟩ : ByteArray) ++ t160) ++ (⟨#[45]⟩ : ByteArray)) ++ t161) ++ (⟨#[47]⟩ : ByteArray)) ++ t162⟩ : S26)] : List (S26)) : List (S26))).bind fun y163 => ((postilionplay_Bytes.f k 65 (wrap64 ((wrap64 (1 + t158)) - t159))).bind fun t166 => ((part_Fits.f k 206 y163 (strOfNums t166) false t159 (⟨#[34, 118, 49, 34]⟩ : ByteArray)).bind fun bt170 => (if bt170.2 = true then (postilionlaw15_PartFits.j0 k (wrap64 (1 + t158)) t159 a2 a3 (bt170.1 != (wrap64 (1 + t158))) 206 y163 (strOfNums t166) false) else (postilionlaw15_PartFits.j0 k (wrap64 (1 + t158)) t159 a2 a3 true 206 y163 (strOfNums t166) false))))) else (none))) else (none)) else (none))) else (none)) else (none))))
theorem postilionlaw15_PartFits.mono_l : ∀ k, (∀ y0 y1 y2 y3 y4 y5 y6 y7 y8, LeO (postilionlaw15_PartFits.j0 k y0 y1 y2 y3 y4 y5 y6 y7 y8) (postilionlaw15_PartFits.j0 (k + 1) y0 y1 y2 y3 y4 y5 y6 y7 y8)) ∧ (∀ y0 y1 y2 y3 y4 y5 y6 y7 y8, LeO (postilionlaw15_PartFits.j1 k y0 y1 y2 y3 y4 y5 y6 y7 y8) (postilionlaw15_PartFits.j1 (k + 1) y0 y1 y2 y3 y4 y5 y6 y7 y8))
  | 0 => ⟨fun _ _ _ _ _ _ _ _ _ r h => by simp [postilionlaw15_PartFits.j0] at h, fun _ _ _ _ _ _ _ _ _ r h => by simp [postilionlaw15_PartFits.j1] at h⟩
  | k + 1 => by
    obtain ⟨ih0, ih1⟩ := postilionlaw15_PartFits.mono_l k
    refine ⟨?_, ?_⟩
    · intro y0 y1 y2 y3 y4 y5 y6 y7 y8
      unfold postilionlaw15_PartFits.j0
      repeat' first
      | (with_reducible exact ih0 _ _ _ _ _ _ _ _ _)
      | (with_reducible exact ih1 _ _ _ _ _ _ _ _ _)
      | (with_reducible exact part_Fits.mono _ _ _ _ _ _ _)
      | (with_reducible exact postilionlaw15_wakes.mono _)
      | (with_reducible exact postilionplay_Bytes.mono _ _ _)
      | (with_reducible exact LeO.refl _)
      | (with_reducible exact LeO.none _)
      | (with_reducible refine LeO.ite ?_ ?_)
      | (with_reducible refine LeO.bind ?_ (fun _ => ?_))
      | exact ih0 _ _ _ _ _ _ _ _ _
      | exact ih1 _ _ _ _ _ _ _ _ _
      | exact part_Fits.mono _ _ _ _ _ _ _
      | exact postilionlaw15_wakes.mono _
      | exact postilionplay_Bytes.mono _ _ _
      | exact LeO.none _
      | refine LeO.ite ?_ ?_
      | refine LeO.bind ?_ (fun _ => ?_)
    · intro y0 y1 y2 y3 y4 y5 y6 y7 y8
      unfold postilionlaw15_PartFits.j1
      repeat' first
      | (with_reducible exact ih0 _ _ _ _ _ _ _ _ _)
      | (with_reducible exact ih1 _ _ _ _ _ _ _ _ _)
      | (with_reducible exact part_Fits.mono _ _ _ _ _ _ _)
      | (with_reducible exact postilionlaw15_wakes.mono _)
      | (with_reducible exact postilionplay_Bytes.mono _ _ _)
      | (with_reducible exact LeO.refl _)
      | (with_reducible exact LeO.none _)
      | (with_reducible refine LeO.ite ?_ ?_)
      | (with_reducible refine LeO.bind ?_ (fun _ => ?_))
      | exact ih0 _ _ _ _ _ _ _ _ _
      | exact ih1 _ _ _ _ _ _ _ _ _
      | exact part_Fits.mono _ _ _ _ _ _ _
      | exact postilionlaw15_wakes.mono _
      | exact postilionplay_Bytes.mono _ _ _
      | exact LeO.none _
      | refine LeO.ite ?_ ?_
      | refine LeO.bind ?_ (fun _ => ?_)
theorem postilionlaw15_PartFits.mono : ∀ a0 a1 a2 a3 k, LeO (postilionlaw15_PartFits.f k a0 a1 a2 a3) (postilionlaw15_PartFits.f (k + 1) a0 a1 a2 a3) := by
  intro a0 a1 a2 a3 k
  obtain ⟨ih0, ih1⟩ := postilionlaw15_PartFits.mono_l k
  unfold postilionlaw15_PartFits.f
  repeat' first
      | (with_reducible exact ih0 _ _ _ _ _ _ _ _ _)
      | (with_reducible exact ih1 _ _ _ _ _ _ _ _ _)
      | (with_reducible exact part_Fits.mono _ _ _ _ _ _ _)
      | (with_reducible exact postilionlaw15_wakes.mono _)
      | (with_reducible exact postilionplay_Bytes.mono _ _ _)
      | (with_reducible exact LeO.refl _)
      | (with_reducible exact LeO.none _)
      | (with_reducible refine LeO.ite ?_ ?_)
      | (with_reducible refine LeO.bind ?_ (fun _ => ?_))
      | exact ih0 _ _ _ _ _ _ _ _ _
      | exact ih1 _ _ _ _ _ _ _ _ _
      | exact part_Fits.mono _ _ _ _ _ _ _
      | exact postilionlaw15_wakes.mono _
      | exact postilionplay_Bytes.mono _ _ _
      | exact LeO.none _
      | refine LeO.ite ?_ ?_
      | refine LeO.bind ?_ (fun _ => ?_)
def postilionlaw15_PartFits.T7 : Bool × List (List Nat × List Nat) := (true, [([], []), ([0], [0]), ([], []), ([], []), ([2, 3], [2, 3]), ([4], [4]), ([5], [5]), ([6], [6]), ([1, 7, 5], [1, 7]), ([0, 1, 2, 3, 4, 5, 6, 7, 8], []), ([9, 8, 8, 0, 1, 2, 3, 4, 5, 6, 7, 8], [8, 9])])
def postilionlaw15_PartFits.B7 : List Nat := [0, 1, 0, 0, 12, 28, 60, 124, 255, 511, 1023]
theorem postilionlaw15_PartFits.tab7 : rtab .any (opsOf Tryd.f6 7) = postilionlaw15_PartFits.T7 := by kernel_rfl
theorem postilionlaw15_PartFits.bits7 : waitsOk postilionlaw15_PartFits.T7.2 postilionlaw15_PartFits.B7 = true := by kernel_rfl
def postilionlaw15_PartFits.T20 : Bool × List (List Nat × List Nat) := (true, [([], []), ([0], [0]), ([], []), ([2], [2]), ([3], [3]), ([4], [4]), ([], []), ([6], [6]), ([7, 3], [7]), ([5, 8], [5, 8]), ([9], [9]), ([], []), ([], []), ([11, 12], [11, 12]), ([13, 8], [13]), ([10, 14], [10, 14]), ([1, 0, 1, 2, 3, 4, 5, 6, 7, 8, 9, 10, 11, 12, 13, 14, 15], [1]), ([16, 0, 1, 2, 3, 4, 5, 6, 7, 8, 9, 10, 11, 12, 13, 14, 15], [16]), ([17, 15, 14, 0, 1, 2, 3, 4, 5, 6, 7, 8, 9, 10, 11, 12, 13, 14, 15], [15, 17])])
def postilionlaw15_PartFits.B20 : List Nat := [0, 1, 0, 4, 12, 28, 0, 64, 204, 508, 1020, 0, 0, 6144, 14796, 32764, 65535, 131071, 262143]
theorem postilionlaw15_PartFits.tab20 : rtab .any (opsOf Tryd.f6 20) = postilionlaw15_PartFits.T20 := by kernel_rfl
theorem postilionlaw15_PartFits.bits20 : waitsOk postilionlaw15_PartFits.T20.2 postilionlaw15_PartFits.B20 = true := by kernel_rfl
def postilionlaw15_PartFits.T22 : Bool × List (List Nat × List Nat) := (true, [([], []), ([0], [0]), ([], []), ([], []), ([2, 3], [2, 3]), ([], []), ([4, 5], [4, 5]), ([6], [6]), ([1, 0, 1, 2, 3, 4, 5, 6, 7], [1]), ([8, 0, 1, 2, 3, 4, 5, 6, 7], [8]), ([9, 7, 7, 0, 1, 2, 3, 4, 5, 6, 7], [7, 9])])
def postilionlaw15_PartFits.B22 : List Nat := [0, 1, 0, 0, 12, 0, 60, 124, 255, 511, 1023]
theorem postilionlaw15_PartFits.tab22 : rtab .any (opsOf Tryd.f6 22) = postilionlaw15_PartFits.T22 := by kernel_rfl
theorem postilionlaw15_PartFits.bits22 : waitsOk postilionlaw15_PartFits.T22.2 postilionlaw15_PartFits.B22 = true := by kernel_rfl
set_option maxHeartbeats 8000000 in
set_option maxRecDepth 100000 in
theorem postilionlaw15_PartFits.calls (k : Nat) (a0 : Int) (a1 : Int) (a2 : Int) (a3 : Int) (r : Bool) (w : World) (hG : Gl w) (hT : r = true) (h : postilionlaw15_PartFits.f k a0 a1 a2 a3 = some r) :
    Calls Tryd.prog 6 #[.int .i64 a0, .int .i64 a1, .int .i64 a2, .int .i64 a3] w fun e w' => e = .returned (.bool r) ∧ Below w.heap.size w w' := by
  have hu26 := Tryd.underlying26
  have hu45 := Tryd.underlying45
  have HB := Aside0.mk (Below.refl w.heap.size w)
  have H : ((postilionkeep_Within.f a0 40).bind fun t158 => ((postilionkeep_Within.f a1 (wrap64 (1 + t158))).bind fun t159 => ((postilionref01_Digits.f t159).bind fun t160 => (if 6 + t160.size ≤ 9223372036854775807 then (if 6 + t160.size + 1 ≤ 9223372036854775807 then ((postilionref01_Digits.f (wrap64 ((wrap64 (1 + t158)) - 1))).bind fun t161 => (if 6 + t160.size + 1 + t161.size ≤ 9223372036854775807 then (if 6 + t160.size + 1 + t161.size + 1 ≤ 9223372036854775807 then ((postilionref01_Digits.f (wrap64 (1 + t158))).bind fun t162 => (if 6 + t160.size + 1 + t161.size + 1 + t162.size ≤ 9223372036854775807 then ((some (([(⟨(⟨#[69, 84, 97, 103]⟩ : ByteArray), (⟨#[34, 118, 49, 34]⟩ : ByteArray)⟩ : S26), (⟨(⟨#[67, 111, 110, 116, 101, 110, 116, 45, 82, 97, 110, 103, 101]⟩ : ByteArray), (((((⟨#[98, 121, 116, 101, 115, 32]⟩ : ByteArray) ++ t160) ++ (⟨#[45]⟩ : ByteArray)) ++ t161) ++ (⟨#[47]⟩ : ByteArray)) ++ t162⟩ : S26)] : List (S26)) : List (S26))).bind fun y163 => ((postilionplay_Bytes.f k 65 (wrap64 ((wrap64 (1 + t158)) - t159))).bind fun t166 => ((part_Fits.f k 206 y163 (strOfNums t166) false t159 (⟨#[34, 118, 49, 34]⟩ : ByteArray)).bind fun bt170 => (if bt170.2 = true then (postilionlaw15_PartFits.j0 k (wrap64 (1 + t158)) t159 a2 a3 (bt170.1 != (wrap64 (1 + t158))) 206 y163 (strOfNums t166) false) else (postilionlaw15_PartFits.j0 k (wrap64 (1 + t158)) t159 a2 a3 true 206 y163 (strOfNums t166) false))))) else (none))) else (none)) else (none))) else (none)) else (none))))) = some r := h
  clear h
  replace H := Option.bind_eq_some_iff.mp H
  obtain ⟨t158, A50, H⟩ := H
  replace H : ((postilionkeep_Within.f a1 (wrap64 (1 + t158))).bind fun t159 => ((postilionref01_Digits.f t159).bind fun t160 => (if 6 + t160.size ≤ 9223372036854775807 then (if 6 + t160.size + 1 ≤ 9223372036854775807 then ((postilionref01_Digits.f (wrap64 ((wrap64 (1 + t158)) - 1))).bind fun t161 => (if 6 + t160.size + 1 + t161.size ≤ 9223372036854775807 then (if 6 + t160.size + 1 + t161.size + 1 ≤ 9223372036854775807 then ((postilionref01_Digits.f (wrap64 (1 + t158))).bind fun t162 => (if 6 + t160.size + 1 + t161.size + 1 + t162.size ≤ 9223372036854775807 then ((some (([(⟨(⟨#[69, 84, 97, 103]⟩ : ByteArray), (⟨#[34, 118, 49, 34]⟩ : ByteArray)⟩ : S26), (⟨(⟨#[67, 111, 110, 116, 101, 110, 116, 45, 82, 97, 110, 103, 101]⟩ : ByteArray), (((((⟨#[98, 121, 116, 101, 115, 32]⟩ : ByteArray) ++ t160) ++ (⟨#[45]⟩ : ByteArray)) ++ t161) ++ (⟨#[47]⟩ : ByteArray)) ++ t162⟩ : S26)] : List (S26)) : List (S26))).bind fun y163 => ((postilionplay_Bytes.f k 65 (wrap64 ((wrap64 (1 + t158)) - t159))).bind fun t166 => ((part_Fits.f k 206 y163 (strOfNums t166) false t159 (⟨#[34, 118, 49, 34]⟩ : ByteArray)).bind fun bt170 => (if bt170.2 = true then (postilionlaw15_PartFits.j0 k (wrap64 (1 + t158)) t159 a2 a3 (bt170.1 != (wrap64 (1 + t158))) 206 y163 (strOfNums t166) false) else (postilionlaw15_PartFits.j0 k (wrap64 (1 + t158)) t159 a2 a3 true 206 y163 (strOfNums t166) false))))) else (none))) else (none)) else (none))) else (none)) else (none)))) = some r := H
  have A5 := Aside0.mk A50
  clear A50
  replace H := Option.bind_eq_some_iff.mp H
  obtain ⟨t159, A60, H⟩ := H
  replace H : ((postilionref01_Digits.f t159).bind fun t160 => (if 6 + t160.size ≤ 9223372036854775807 then (if 6 + t160.size + 1 ≤ 9223372036854775807 then ((postilionref01_Digits.f (wrap64 ((wrap64 (1 + t158)) - 1))).bind fun t161 => (if 6 + t160.size + 1 + t161.size ≤ 9223372036854775807 then (if 6 + t160.size + 1 + t161.size + 1 ≤ 9223372036854775807 then ((postilionref01_Digits.f (wrap64 (1 + t158))).bind fun t162 => (if 6 + t160.size + 1 + t161.size + 1 + t162.size ≤ 9223372036854775807 then ((some (([(⟨(⟨#[69, 84, 97, 103]⟩ : ByteArray), (⟨#[34, 118, 49, 34]⟩ : ByteArray)⟩ : S26), (⟨(⟨#[67, 111, 110, 116, 101, 110, 116, 45, 82, 97, 110, 103, 101]⟩ : ByteArray), (((((⟨#[98, 121, 116, 101, 115, 32]⟩ : ByteArray) ++ t160) ++ (⟨#[45]⟩ : ByteArray)) ++ t161) ++ (⟨#[47]⟩ : ByteArray)) ++ t162⟩ : S26)] : List (S26)) : List (S26))).bind fun y163 => ((postilionplay_Bytes.f k 65 (wrap64 ((wrap64 (1 + t158)) - t159))).bind fun t166 => ((part_Fits.f k 206 y163 (strOfNums t166) false t159 (⟨#[34, 118, 49, 34]⟩ : ByteArray)).bind fun bt170 => (if bt170.2 = true then (postilionlaw15_PartFits.j0 k (wrap64 (1 + t158)) t159 a2 a3 (bt170.1 != (wrap64 (1 + t158))) 206 y163 (strOfNums t166) false) else (postilionlaw15_PartFits.j0 k (wrap64 (1 + t158)) t159 a2 a3 true 206 y163 (strOfNums t166) false))))) else (none))) else (none)) else (none))) else (none)) else (none))) = some r := H
  have A6 := Aside0.mk A60
  clear A60
  replace H := Option.bind_eq_some_iff.mp H
  obtain ⟨t160, A70, H⟩ := H
  replace H : (if 6 + t160.size ≤ 9223372036854775807 then (if 6 + t160.size + 1 ≤ 9223372036854775807 then ((postilionref01_Digits.f (wrap64 ((wrap64 (1 + t158)) - 1))).bind fun t161 => (if 6 + t160.size + 1 + t161.size ≤ 9223372036854775807 then (if 6 + t160.size + 1 + t161.size + 1 ≤ 9223372036854775807 then ((postilionref01_Digits.f (wrap64 (1 + t158))).bind fun t162 => (if 6 + t160.size + 1 + t161.size + 1 + t162.size ≤ 9223372036854775807 then ((some (([(⟨(⟨#[69, 84, 97, 103]⟩ : ByteArray), (⟨#[34, 118, 49, 34]⟩ : ByteArray)⟩ : S26), (⟨(⟨#[67, 111, 110, 116, 101, 110, 116, 45, 82, 97, 110, 103, 101]⟩ : ByteArray), (((((⟨#[98, 121, 116, 101, 115, 32]⟩ : ByteArray) ++ t160) ++ (⟨#[45]⟩ : ByteArray)) ++ t161) ++ (⟨#[47]⟩ : ByteArray)) ++ t162⟩ : S26)] : List (S26)) : List (S26))).bind fun y163 => ((postilionplay_Bytes.f k 65 (wrap64 ((wrap64 (1 + t158)) - t159))).bind fun t166 => ((part_Fits.f k 206 y163 (strOfNums t166) false t159 (⟨#[34, 118, 49, 34]⟩ : ByteArray)).bind fun bt170 => (if bt170.2 = true then (postilionlaw15_PartFits.j0 k (wrap64 (1 + t158)) t159 a2 a3 (bt170.1 != (wrap64 (1 + t158))) 206 y163 (strOfNums t166) false) else (postilionlaw15_PartFits.j0 k (wrap64 (1 + t158)) t159 a2 a3 true 206 y163 (strOfNums t166) false))))) else (none))) else (none)) else (none))) else (none)) else (none)) = some r := H
  have A7 := Aside0.mk A70
  clear A70
  by_cases c8 : 6 + t160.size ≤ 9223372036854775807
  · rw [if_pos c8] at H
    have c8b0 := eq_true c8
    have c8b1 : decide (6 + t160.size ≤ 9223372036854775807) = true := decide_eq_true c8
    try have c8b2 : (9223372036854775807 < 6 + t160.size) = False := eq_false (Nat.not_lt.2 c8)
    by_cases c9 : 6 + t160.size + 1 ≤ 9223372036854775807
    · rw [if_pos c9] at H
      have c9b0 := eq_true c9
      have c9b1 : decide (6 + t160.size + 1 ≤ 9223372036854775807) = true := decide_eq_true c9
      try have c9b2 : (9223372036854775807 < 6 + t160.size + 1) = False := eq_false (Nat.not_lt.2 c9)
      replace H := Option.bind_eq_some_iff.mp H
      obtain ⟨t161, A100, H⟩ := H
      replace H : (if 6 + t160.size + 1 + t161.size ≤ 9223372036854775807 then (if 6 + t160.size + 1 + t161.size + 1 ≤ 9223372036854775807 then ((postilionref01_Digits.f (wrap64 (1 + t158))).bind fun t162 => (if 6 + t160.size + 1 + t161.size + 1 + t162.size ≤ 9223372036854775807 then ((some (([(⟨(⟨#[69, 84, 97, 103]⟩ : ByteArray), (⟨#[34, 118, 49, 34]⟩ : ByteArray)⟩ : S26), (⟨(⟨#[67, 111, 110, 116, 101, 110, 116, 45, 82, 97, 110, 103, 101]⟩ : ByteArray), (((((⟨#[98, 121, 116, 101, 115, 32]⟩ : ByteArray) ++ t160) ++ (⟨#[45]⟩ : ByteArray)) ++ t161) ++ (⟨#[47]⟩ : ByteArray)) ++ t162⟩ : S26)] : List (S26)) : List (S26))).bind fun y163 => ((postilionplay_Bytes.f k 65 (wrap64 ((wrap64 (1 + t158)) - t159))).bind fun t166 => ((part_Fits.f k 206 y163 (strOfNums t166) false t159 (⟨#[34, 118, 49, 34]⟩ : ByteArray)).bind fun bt170 => (if bt170.2 = true then (postilionlaw15_PartFits.j0 k (wrap64 (1 + t158)) t159 a2 a3 (bt170.1 != (wrap64 (1 + t158))) 206 y163 (strOfNums t166) false) else (postilionlaw15_PartFits.j0 k (wrap64 (1 + t158)) t159 a2 a3 true 206 y163 (strOfNums t166) false))))) else (none))) else (none)) else (none)) = some r := H
      have A10 := Aside0.mk A100
      clear A100
      by_cases c11 : 6 + t160.size + 1 + t161.size ≤ 9223372036854775807
      · rw [if_pos c11] at H
        have c11b0 := eq_true c11
        have c11b1 : decide (6 + t160.size + 1 + t161.size ≤ 9223372036854775807) = true := decide_eq_true c11
        try have c11b2 : (9223372036854775807 < 6 + t160.size + 1 + t161.size) = False := eq_false (Nat.not_lt.2 c11)
        by_cases c12 : 6 + t160.size + 1 + t161.size + 1 ≤ 9223372036854775807
        · rw [if_pos c12] at H
          have c12b0 := eq_true c12
          have c12b1 : decide (6 + t160.size + 1 + t161.size + 1 ≤ 9223372036854775807) = true := decide_eq_true c12
          try have c12b2 : (9223372036854775807 < 6 + t160.size + 1 + t161.size + 1) = False := eq_false (Nat.not_lt.2 c12)
          replace H := Option.bind_eq_some_iff.mp H
          obtain ⟨t162, A130, H⟩ := H
          replace H : (if 6 + t160.size + 1 + t161.size + 1 + t162.size ≤ 9223372036854775807 then ((some (([(⟨(⟨#[69, 84, 97, 103]⟩ : ByteArray), (⟨#[34, 118, 49, 34]⟩ : ByteArray)⟩ : S26), (⟨(⟨#[67, 111, 110, 116, 101, 110, 116, 45, 82, 97, 110, 103, 101]⟩ : ByteArray), (((((⟨#[98, 121, 116, 101, 115, 32]⟩ : ByteArray) ++ t160) ++ (⟨#[45]⟩ : ByteArray)) ++ t161) ++ (⟨#[47]⟩ : ByteArray)) ++ t162⟩ : S26)] : List (S26)) : List (S26))).bind fun y163 => ((postilionplay_Bytes.f k 65 (wrap64 ((wrap64 (1 + t158)) - t159))).bind fun t166 => ((part_Fits.f k 206 y163 (strOfNums t166) false t159 (⟨#[34, 118, 49, 34]⟩ : ByteArray)).bind fun bt170 => (if bt170.2 = true then (postilionlaw15_PartFits.j0 k (wrap64 (1 + t158)) t159 a2 a3 (bt170.1 != (wrap64 (1 + t158))) 206 y163 (strOfNums t166) false) else (postilionlaw15_PartFits.j0 k (wrap64 (1 + t158)) t159 a2 a3 true 206 y163 (strOfNums t166) false))))) else (none)) = some r := H
          have A13 := Aside0.mk A130
          clear A130
          by_cases c14 : 6 + t160.size + 1 + t161.size + 1 + t162.size ≤ 9223372036854775807
          · rw [if_pos c14] at H
            have c14b0 := eq_true c14
            have c14b1 : decide (6 + t160.size + 1 + t161.size + 1 + t162.size ≤ 9223372036854775807) = true := decide_eq_true c14
            try have c14b2 : (9223372036854775807 < 6 + t160.size + 1 + t161.size + 1 + t162.size) = False := eq_false (Nat.not_lt.2 c14)
            obtain ⟨y163, hy163⟩ : ∃ y_ : List (S26), y_ = (([(⟨(⟨#[69, 84, 97, 103]⟩ : ByteArray), (⟨#[34, 118, 49, 34]⟩ : ByteArray)⟩ : S26), (⟨(⟨#[67, 111, 110, 116, 101, 110, 116, 45, 82, 97, 110, 103, 101]⟩ : ByteArray), (((((⟨#[98, 121, 116, 101, 115, 32]⟩ : ByteArray) ++ t160) ++ (⟨#[45]⟩ : ByteArray)) ++ t161) ++ (⟨#[47]⟩ : ByteArray)) ++ t162⟩ : S26)] : List (S26))) := ⟨_, rfl⟩
            replace H : ((postilionplay_Bytes.f k 65 (wrap64 ((wrap64 (1 + t158)) - t159))).bind fun t166 => ((part_Fits.f k 206 y163 (strOfNums t166) false t159 (⟨#[34, 118, 49, 34]⟩ : ByteArray)).bind fun bt170 => (if bt170.2 = true then (postilionlaw15_PartFits.j0 k (wrap64 (1 + t158)) t159 a2 a3 (bt170.1 != (wrap64 (1 + t158))) 206 y163 (strOfNums t166) false) else (postilionlaw15_PartFits.j0 k (wrap64 (1 + t158)) t159 a2 a3 true 206 y163 (strOfNums t166) false)))) = some r := by first | (rw [hy163]; with_reducible exact H) | (have H2_ := (Option.bind_some _ _).symm.trans H; rw [hy163]; with_reducible exact H2_) | (have H2_ := (Option.bind_some _ _).symm.trans H; with_reducible exact H2_) | with_reducible exact H | (rw [hy163]; exact H) | exact H
            have Ny163 := Aside0.mk hy163
            clear hy163
            replace H := Option.bind_eq_some_iff.mp H
            obtain ⟨t166, A150, H⟩ := H
            replace H : ((part_Fits.f k 206 y163 (strOfNums t166) false t159 (⟨#[34, 118, 49, 34]⟩ : ByteArray)).bind fun bt170 => (if bt170.2 = true then (postilionlaw15_PartFits.j0 k (wrap64 (1 + t158)) t159 a2 a3 (bt170.1 != (wrap64 (1 + t158))) 206 y163 (strOfNums t166) false) else (postilionlaw15_PartFits.j0 k (wrap64 (1 + t158)) t159 a2 a3 true 206 y163 (strOfNums t166) false))) = some r := H
            have A15 := Aside0.mk A150
            clear A150
            replace H := Option.bind_eq_some_iff.mp H
            obtain ⟨⟨t170, t171⟩, A160, H⟩ := H
            replace H : (if t171 = true then (postilionlaw15_PartFits.j0 k (wrap64 (1 + t158)) t159 a2 a3 (t170 != (wrap64 (1 + t158))) 206 y163 (strOfNums t166) false) else (postilionlaw15_PartFits.j0 k (wrap64 (1 + t158)) t159 a2 a3 true 206 y163 (strOfNums t166) false)) = some r := H
            have A16 := Aside0.mk A160
            clear A160
            have HC17 := Aside0.mk H
            clear H
            go_enter Tryd.func6, Tryd.ntmps6
            go_upto_region 5 with (first | ((with_reducible refine gate_callee (f := 11) rfl ?_); refine goesL_ (some 21) rfl rfl Tryd.func11 (by kernel_rfl) rfl #[.int .i64 a0, .int .i64 40] rfl (by (try simp only [List.map_toArray, List.map_cons, List.map_nil]); first | done | rfl | (simp only [List.length_drop, List.length_take]; rfl)) ?_; (with_reducible refine (postilionkeep_Within.calls a0 40 t158 _ A5.out).mono ?_); rintro e w' ⟨rfl, ⟨nd, rfl⟩⟩; refine ⟨_, rfl, ?_⟩) | ((with_reducible refine gate_callee (f := 11) rfl ?_); refine goesL_ (some 25) rfl rfl Tryd.func11 (by kernel_rfl) rfl #[.int .i64 a1, .int .i64 (wrap64 (1 + t158))] rfl (by (try simp only [List.map_toArray, List.map_cons, List.map_nil]); first | done | rfl | (simp only [List.length_drop, List.length_take]; rfl)) ?_; (with_reducible refine (postilionkeep_Within.calls a1 (wrap64 (1 + t158)) t159 _ A6.out).mono ?_); rintro e w' ⟨rfl, ⟨nd, rfl⟩⟩; refine ⟨_, rfl, ?_⟩) | ((with_reducible refine gate_callee (f := 15) rfl ?_); refine goesL_ (some 28) rfl rfl Tryd.func15 (by kernel_rfl) rfl #[.int .i64 t159] rfl (by (try simp only [List.map_toArray, List.map_cons, List.map_nil]); first | done | rfl | (simp only [List.length_drop, List.length_take]; rfl)) ?_; (with_reducible refine (postilionref01_Digits.calls t159 t160 _ A7.out).mono ?_); rintro e w' ⟨rfl, ⟨nd, rfl⟩⟩; refine ⟨_, rfl, ?_⟩) | ((with_reducible refine gate_callee (f := 15) rfl ?_); refine goesL_ (some 33) rfl rfl Tryd.func15 (by kernel_rfl) rfl #[.int .i64 (wrap64 ((wrap64 (1 + t158)) - 1))] rfl (by (try simp only [List.map_toArray, List.map_cons, List.map_nil]); first | done | rfl | (simp only [List.length_drop, List.length_take]; rfl)) ?_; (with_reducible refine (postilionref01_Digits.calls (wrap64 ((wrap64 (1 + t158)) - 1)) t161 _ A10.out).mono ?_); rintro e w' ⟨rfl, ⟨nd, rfl⟩⟩; refine ⟨_, rfl, ?_⟩) | ((with_reducible refine gate_callee (f := 15) rfl ?_); refine goesL_ (some 37) rfl rfl Tryd.func15 (by kernel_rfl) rfl #[.int .i64 (wrap64 (1 + t158))] rfl (by (try simp only [List.map_toArray, List.map_cons, List.map_nil]); first | done | rfl | (simp only [List.length_drop, List.length_take]; rfl)) ?_; (with_reducible refine (postilionref01_Digits.calls (wrap64 (1 + t158)) t162 _ A13.out).mono ?_); rintro e w' ⟨rfl, ⟨nd, rfl⟩⟩; refine ⟨_, rfl, ?_⟩) | ((with_reducible refine gate_dst (N := 40) rfl ?_); refine Kd.R_lit k26 _ 26 ?hg (N := 40) ?hd (xs := ([(⟨(⟨#[69, 84, 97, 103]⟩ : ByteArray), (⟨#[34, 118, 49, 34]⟩ : ByteArray)⟩ : S26), (⟨(⟨#[67, 111, 110, 116, 101, 110, 116, 45, 82, 97, 110, 103, 101]⟩ : ByteArray), (((((⟨#[98, 121, 116, 101, 115, 32]⟩ : ByteArray) ++ t160) ++ (⟨#[45]⟩ : ByteArray)) ++ t161) ++ (⟨#[47]⟩ : ByteArray)) ++ t162⟩ : S26)] : List (S26))) (inner := [.string (⟨#[69, 84, 97, 103]⟩ : ByteArray), .string (⟨#[34, 118, 49, 34]⟩ : ByteArray), .string (⟨#[67, 111, 110, 116, 101, 110, 116, 45, 82, 97, 110, 103, 101]⟩ : ByteArray), .string ((((((⟨#[98, 121, 116, 101, 115, 32]⟩ : ByteArray) ++ t160) ++ (⟨#[45]⟩ : ByteArray)) ++ t161) ++ (⟨#[47]⟩ : ByteArray)) ++ t162)]) (ok := fun _ => True) (okp := fun _ => True) ?hr ?hp (fun _ hk => hk) trivial (Below.refl _ _) (Nat.le_refl _) (by simp) ?_; (case hd => rfl); (case hg => rfl); (case hr => first | (go_simp; done) | (go_simp; rfl)); (case hp => exact (Reps.c2 (show Kd.M k26 _ _ _ (⟨(⟨#[69, 84, 97, 103]⟩ : ByteArray), (⟨#[34, 118, 49, 34]⟩ : ByteArray)⟩ : S26) [.string (⟨#[69, 84, 97, 103]⟩ : ByteArray), .string (⟨#[34, 118, 49, 34]⟩ : ByteArray)] from (k26_mkM _ _ _ (⟨(⟨#[69, 84, 97, 103]⟩ : ByteArray), (⟨#[34, 118, 49, 34]⟩ : ByteArray)⟩ : S26) )) (Reps.c2 (show Kd.M k26 _ _ _ (⟨(⟨#[67, 111, 110, 116, 101, 110, 116, 45, 82, 97, 110, 103, 101]⟩ : ByteArray), (((((⟨#[98, 121, 116, 101, 115, 32]⟩ : ByteArray) ++ t160) ++ (⟨#[45]⟩ : ByteArray)) ++ t161) ++ (⟨#[47]⟩ : ByteArray)) ++ t162⟩ : S26) [.string (⟨#[67, 111, 110, 116, 101, 110, 116, 45, 82, 97, 110, 103, 101]⟩ : ByteArray), .string ((((((⟨#[98, 121, 116, 101, 115, 32]⟩ : ByteArray) ++ t160) ++ (⟨#[45]⟩ : ByteArray)) ++ t161) ++ (⟨#[47]⟩ : ByteArray)) ++ t162)] from (k26_mkM _ _ _ (⟨(⟨#[67, 111, 110, 116, 101, 110, 116, 45, 82, 97, 110, 103, 101]⟩ : ByteArray), (((((⟨#[98, 121, 116, 101, 115, 32]⟩ : ByteArray) ++ t160) ++ (⟨#[45]⟩ : ByteArray)) ++ t161) ++ (⟨#[47]⟩ : ByteArray)) ++ t162⟩ : S26) )) (Reps.none _ _)))); intro v164 w18 ho19 hb hg_ hnew_; clear hg_ hnew_; (first | rw [← Ny163.out] at ho19 | (simp only [Int.reduceToNat] at ho19; rw [← Ny163.out] at ho19)); have n0_ := Aside0.mk (Kd.R_lower ho19 (below_size (by repeat (first | (with_reducible first | exact HB.out | apply below_alloc | apply pw_below_drewN | apply below_drew1) | exact HB.out)))); have n1_ := Aside0.mk (below_step (by repeat (first | (with_reducible first | exact HB.out | apply below_alloc | apply pw_below_drewN | apply below_drew1) | exact HB.out)) hb); clear HB; have HO165 := n0_; have HB := n1_; clear n0_ n1_; clear hb ho19) | ((with_reducible refine gate_callee (f := 23) rfl ?_); refine goesL_ (some 44) rfl rfl Tryd.func23 (by kernel_rfl) rfl #[.int .i64 65, .int .i64 (wrap64 ((wrap64 (1 + t158)) - t159))] rfl (by (try simp only [List.map_toArray, List.map_cons, List.map_nil]); first | done | rfl | (simp only [List.length_drop, List.length_take]; rfl)) ?_; (with_reducible refine (postilionplay_Bytes.calls k 65 (wrap64 ((wrap64 (1 + t158)) - t159)) t166 _ A15.out).mono ?_); rintro e w20 ⟨v167, rfl, ho0, hb⟩; refine ⟨_, rfl, ?_⟩; have n0_ := Aside0.mk (Kd.R_below (by (with_reducible repeat (first | apply Kd.R_alloc | apply Kd.R_drewN | apply Kd.R_drew)); exact HO165.out) hb); have n1_ := Aside0.mk (Kd.R_lower ho0 (below_size (by repeat (first | (with_reducible first | exact HB.out | apply below_alloc | apply pw_below_drewN | apply below_drew1) | exact HB.out)))); have n2_ := Aside0.mk (below_step (by repeat (first | (with_reducible first | exact HB.out | apply below_alloc | apply pw_below_drewN | apply below_drew1) | exact HB.out)) hb); clear HO165; clear HB; have HO165 := n0_; have HO168 := n1_; have HB := n2_; clear n0_ n1_ n2_; (try clear hb); (try clear hb2); (try clear hk); (try clear hi); (try clear ho0); have hcv21 := own_string (P := Tryd.prog) Tryd.underlying49 Tryd.underlying5 Tryd.underlying9 (Kd.own_of_R HO168.out); obtain ⟨Ao22, co22, eo22⟩ := Kd.R_slice HO165.out; subst eo22) | ((with_reducible refine gate_dst (N := 9) rfl ?_); refine box_event ?hg (N := 9) ?hd (cs := #[.int .i64 0, .slice none 0 0, .string (⟨#[]⟩ : ByteArray), .bool false]) (t := 45) ?hr ?_; (case hd => rfl); (case hg => rfl); (case hr => first | (go_simp; done) | (go_simp; rfl)); intro gb169 hg w23 hbox hb; have n0_ := Aside0.mk (Kd.R_below (by (with_reducible repeat (first | apply Kd.R_alloc | apply Kd.R_drewN | apply Kd.R_drew)); exact HO165.out) hb); have n1_ := Aside0.mk (Kd.R_below (by (with_reducible repeat (first | apply Kd.R_alloc | apply Kd.R_drewN | apply Kd.R_drew)); exact HO168.out) hb); have n2_ := Aside0.mk (below_step (by repeat (first | (with_reducible first | exact HB.out | apply below_alloc | apply pw_below_drewN | apply below_drew1) | exact HB.out)) hb); have n3_ := Aside0.mk (hbox); have n4_ := Aside0.mk ((by rw [hg]; exact (below_size (by repeat (first | (with_reducible first | exact HB.out | apply below_alloc | apply pw_below_drewN | apply below_drew1) | exact HB.out))) : w.heap.size ≤ gb169)); have n5_ := Aside0.mk ((by rw [hg]; exact (below_size (by repeat (first | (with_reducible first | exact HB.out | apply below_alloc | apply pw_below_drewN | apply below_drew1) | exact HB.out))) : w.heap.size ≤ gb169)); clear HO165; clear HO168; clear HB; have HO165 := n0_; have HO168 := n1_; have HB := n2_; have BK169 := n3_; have GW169 := n4_; have GE169 := n5_; clear n0_ n1_ n2_ n3_ n4_ n5_; clear hb hbox hg; have hcz24_0 : w23.cell? ⟨gb169, 0, none⟩ = some (.int .i64 0) := (blk_cell BK169.out 0).trans rfl; have hcz24_1 : w23.cell? ⟨gb169, 1, none⟩ = some (.slice none 0 0) := (blk_cell BK169.out 1).trans rfl; have hcz24_2 : w23.cell? ⟨gb169, 2, none⟩ = some (.string (⟨#[]⟩ : ByteArray)) := (blk_cell BK169.out 2).trans rfl; have hcz24_3 : w23.cell? ⟨gb169, 3, none⟩ = some (.bool false) := (blk_cell BK169.out 3).trans rfl; have hfz24_0 := blk_frozen BK169.out 0; have hfz24_1 := blk_frozen BK169.out 1; have hfz24_2 := blk_frozen BK169.out 2; have hfz24_3 := blk_frozen BK169.out 3) | ((with_reducible refine gate_callee (f := 19) rfl ?_); refine goesL_ (some 50) rfl rfl Tryd.func19 (by kernel_rfl) rfl #[.agg #[.int .i64 206, .slice Ao22 y163.length co22, .string (strOfNums t166), .bool false], .int .i64 t159, .string (⟨#[34, 118, 49, 34]⟩ : ByteArray)] rfl (by (try simp only [List.map_toArray, List.map_cons, List.map_nil]); first | done | rfl | (simp only [List.length_drop, List.length_take]; rfl)) ?_; (with_reducible refine (part_Fits.calls k 206 _ _ y163 (strOfNums t166) false t159 (⟨#[34, 118, 49, 34]⟩ : ByteArray) t170 t171 _ ?side1 ?side2 ?side3 A16.out).mono ?_); (case side1 => exact Gl.below hG (by repeat (first | (with_reducible first | exact HB.out | apply below_alloc | apply pw_below_drewN | apply below_drew1 | refine below_set ?_ GE169.out) | exact HB.out))); (case side2 => refine (Kd.R_reads' (e := 26) (base := w.heap.size) (ok := fun k_ => True) (n := y163.length) (c := co22) ?_).2.2; exact (by (with_reducible repeat (first | apply Kd.R_alloc | apply Kd.R_drewN | apply Kd.R_drew)); exact (Kd.R_mono (Kd.R_far (p := ⟨gb169, 3, none⟩) (Kd.R_far (p := ⟨gb169, 2, none⟩) (Kd.R_far (p := ⟨gb169, 1, none⟩) (Kd.R_far (p := ⟨gb169, 0, none⟩) (Kd.R_types HO165.out BK169.out (by decide)) (fun _ hk => hk.2) (.int .i64 206)) (fun _ hk => hk.2) (.slice Ao22 y163.length co22)) (fun _ hk => hk.2) (.string (strOfNums t166))) (fun _ hk => hk.2) (.bool false)) (fun _ h_ => h_.1)))); (case side3 => exact (Kd.R_reads' HO165.out).2.1); rintro e w25 ⟨rfl, hb⟩; refine ⟨_, rfl, ?_⟩; have n0_ := Aside0.mk (Kd.R_below (by (with_reducible repeat (first | apply Kd.R_alloc | apply Kd.R_drewN | apply Kd.R_drew)); exact (Kd.R_mono (Kd.R_far (p := ⟨gb169, 3, none⟩) (Kd.R_far (p := ⟨gb169, 2, none⟩) (Kd.R_far (p := ⟨gb169, 1, none⟩) (Kd.R_far (p := ⟨gb169, 0, none⟩) (Kd.R_types HO165.out BK169.out (by decide)) (fun _ hk => hk.2) (.int .i64 206)) (fun _ hk => hk.2) (.slice Ao22 y163.length co22)) (fun _ hk => hk.2) (.string (strOfNums t166))) (fun _ hk => hk.2) (.bool false)) (fun _ h_ => h_.1))) hb); have n1_ := Aside0.mk (Kd.R_below (by (with_reducible repeat (first | apply Kd.R_alloc | apply Kd.R_drewN | apply Kd.R_drew)); exact (Kd.R_mono (Kd.R_far (p := ⟨gb169, 3, none⟩) (Kd.R_far (p := ⟨gb169, 2, none⟩) (Kd.R_far (p := ⟨gb169, 1, none⟩) (Kd.R_far (p := ⟨gb169, 0, none⟩) (Kd.R_types HO168.out BK169.out (by decide)) (fun _ hk => hk.2) (.int .i64 206)) (fun _ hk => hk.2) (.slice Ao22 y163.length co22)) (fun _ hk => hk.2) (.string (strOfNums t166))) (fun _ hk => hk.2) (.bool false)) (fun _ h_ => h_.1))) hb); have n2_ := Aside0.mk (blk_below (g := gb169) (o := .cells #[.int .i64 206, .slice Ao22 y163.length co22, .string (strOfNums t166), .bool false] 45 (0, 0)) (by (with_reducible repeat (first | refine blk_drewN ?_ _ | refine blk_drew ?_ | refine blk_alloc ?_ _)); refine blk_put (cs := #[.int .i64 206, .slice Ao22 y163.length co22, .string (strOfNums t166), .bool false]) ?_ 3 _ rfl; (with_reducible repeat (first | refine blk_drewN ?_ _ | refine blk_drew ?_ | refine blk_alloc ?_ _)); refine blk_put (cs := #[.int .i64 206, .slice Ao22 y163.length co22, .string (⟨#[]⟩ : ByteArray), .bool false]) ?_ 2 _ rfl; (with_reducible repeat (first | refine blk_drewN ?_ _ | refine blk_drew ?_ | refine blk_alloc ?_ _)); refine blk_put (cs := #[.int .i64 206, .slice none 0 0, .string (⟨#[]⟩ : ByteArray), .bool false]) ?_ 1 _ rfl; (with_reducible repeat (first | refine blk_drewN ?_ _ | refine blk_drew ?_ | refine blk_alloc ?_ _)); refine blk_put (cs := #[.int .i64 0, .slice none 0 0, .string (⟨#[]⟩ : ByteArray), .bool false]) ?_ 0 _ rfl; (with_reducible repeat (first | refine blk_drewN ?_ _ | refine blk_drew ?_ | refine blk_alloc ?_ _)); exact BK169.out) hb); have n3_ := Aside0.mk (below_step (by repeat (first | (with_reducible first | exact HB.out | apply below_alloc | apply pw_below_drewN | apply below_drew1 | refine below_set ?_ GE169.out) | exact HB.out)) hb); clear HO165; clear HO168; clear BK169; clear HB; have HO165 := n0_; have HO168 := n1_; have BK169 := n2_; have HB := n3_; clear n0_ n1_ n2_ n3_; (try clear hb); (try clear hb2); (try clear hk); (try clear hi)))
            (try simp only [Act.put, List.setIfInBounds_toArray, List.set_cons_zero, List.set_cons_succ])
            go_cut [59] (fun v59 wc => ∃ (kq : Nat) (x59_16 : Bool), v59 = .bool x59_16 ∧ Aside0 (postilionlaw15_PartFits.j0 kq (wrap64 (1 + t158)) t159 a2 a3 x59_16 206 y163 (strOfNums t166) false = some r) ∧ Aside0 (kq ≤ k) ∧ Aside0 (Kd.R k26 26 wc w.heap.size (fun _ => True) (.slice Ao22 y163.length co22) y163) ∧ Aside0 (wc.heap[gb169]? = some (.cells #[.int .i64 206, (.slice Ao22 y163.length co22), .string (strOfNums t166), .bool false] 45 (0, 0))) ∧ Aside0 (Below w.heap.size w wc))
            case first =>
              have H := HC17.out
              clear HC17
              by_cases c26 : t171 = true
              · subst c26
                have H1 : (postilionlaw15_PartFits.j0 k (wrap64 (1 + t158)) t159 a2 a3 (t170 != (wrap64 (1 + t158))) 206 y163 (strOfNums t166) false) = some r := by rw [if_pos rfl] at H; exact H
                clear H
                have H := H1
                clear H1
                have H' := Aside0.mk H
                clear H
                go_wp2
                go_meet
                case rel => exact ⟨_, ((t170 != (wrap64 (1 + t158)))), (by first | rfl | (simp; done) | (simp [*]; done)), H', ⟨by first | omega | exact Nat.le_refl _⟩, ⟨by (with_reducible repeat (first | apply Kd.R_alloc | apply Kd.R_drewN | apply Kd.R_drew)); exact HO165.out⟩, ⟨by (with_reducible repeat (first | refine blk_drewN ?_ _ | refine blk_drew ?_ | refine blk_alloc ?_ _)); exact BK169.out⟩, ⟨by repeat (first | (with_reducible first | exact HB.out | apply below_alloc | apply pw_below_drewN | apply below_drew1 | refine below_set ?_ GE169.out) | exact HB.out)⟩⟩
              · replace c26 := Bool.eq_false_iff.mpr c26
                subst c26
                have H1 : (postilionlaw15_PartFits.j0 k (wrap64 (1 + t158)) t159 a2 a3 true 206 y163 (strOfNums t166) false) = some r := by rw [if_neg (show ¬ (false = true) by decide)] at H; exact H
                clear H
                have H := H1
                clear H1
                have H' := Aside0.mk H
                clear H
                go_wp2
                go_meet
                case rel => exact ⟨_, (true), (by first | rfl | (simp; done) | (simp [*]; done)), H', ⟨by first | omega | exact Nat.le_refl _⟩, ⟨by (with_reducible repeat (first | apply Kd.R_alloc | apply Kd.R_drewN | apply Kd.R_drew)); exact HO165.out⟩, ⟨by (with_reducible repeat (first | refine blk_drewN ?_ _ | refine blk_drew ?_ | refine blk_alloc ?_ _)); exact BK169.out⟩, ⟨by repeat (first | (with_reducible first | exact HB.out | apply below_alloc | apply pw_below_drewN | apply below_drew1 | refine below_set ?_ GE169.out) | exact HB.out)⟩⟩
            case rest =>
              clear HC17
              try clear c1
              try clear c2
              try clear p2
              try clear hcv2
              try clear c6
              try clear p6
              try clear c8
              try clear c8b0
              try clear c8b1
              try clear c8b2
              try clear c9
              try clear c9b0
              try clear c9b1
              try clear c9b2
              try clear c11
              try clear c11b0
              try clear c11b1
              try clear c11b2
              try clear c12
              try clear c12b0
              try clear c12b1
              try clear c12b2
              try clear c14
              try clear c14b0
              try clear c14b1
              try clear c14b2
              try clear c15
              try clear c19
              try clear hcv21
              try clear c23
              try clear c26
              try clear hcz24_0
              try clear hcz24_1
              try clear hcz24_2
              try clear hcz24_3
              try clear hfz24_0
              try clear hfz24_1
              try clear hfz24_2
              try clear hfz24_3
              obtain ⟨kq, x59_16, rfl, HA, HJ16, HO_170001, BK169, HB⟩ := hcut
              cases kq with
              | zero => exact absurd HA.out (by simp [postilionlaw15_PartFits.j0])
              | succ kj16 =>
                have H := HA.out
                clear HA
                simp only [postilionlaw15_PartFits.j0] at H
                by_cases c27 : x59_16 = true
                · subst c27
                  have H1 : (some false) = some r := by rw [if_pos rfl] at H; exact H
                  clear H
                  have H := H1
                  clear H1
                  obtain rfl := Option.some.inj H
                  cases hT
                · replace c27 := Bool.eq_false_iff.mpr c27
                  subst c27
                  have H1 : ((postilionref01_Digits.f (wrap64 ((wrap64 (1 + t158)) - t159))).bind fun t172 => (if y163.length < 4398046511104 then ((some (y163 ++ [(⟨(⟨#[99, 111, 110, 116, 101, 110, 116, 45, 108, 101, 110, 103, 116, 104]⟩ : ByteArray), t172⟩ : S26)] : List (S26))).bind fun y173 => ((part_Fits.f kj16 206 y173 (strOfNums t166) false t159 (⟨#[34, 118, 49, 34]⟩ : ByteArray)).bind fun bt176 => (if bt176.2 = true then (postilionlaw15_PartFits.j1 kj16 (wrap64 (1 + t158)) t159 a2 a3 (bt176.1 != (wrap64 (1 + t158))) 206 y173 (strOfNums t166) false) else (postilionlaw15_PartFits.j1 kj16 (wrap64 (1 + t158)) t159 a2 a3 true 206 y173 (strOfNums t166) false)))) else (none))) = some r := by rw [if_neg (show ¬ (false = true) by decide)] at H; exact H
                  clear H
                  have H := H1
                  clear H1
                  replace H := Option.bind_eq_some_iff.mp H
                  obtain ⟨t172, A280, H⟩ := H
                  replace H : (if y163.length < 4398046511104 then ((some (y163 ++ [(⟨(⟨#[99, 111, 110, 116, 101, 110, 116, 45, 108, 101, 110, 103, 116, 104]⟩ : ByteArray), t172⟩ : S26)] : List (S26))).bind fun y173 => ((part_Fits.f kj16 206 y173 (strOfNums t166) false t159 (⟨#[34, 118, 49, 34]⟩ : ByteArray)).bind fun bt176 => (if bt176.2 = true then (postilionlaw15_PartFits.j1 kj16 (wrap64 (1 + t158)) t159 a2 a3 (bt176.1 != (wrap64 (1 + t158))) 206 y173 (strOfNums t166) false) else (postilionlaw15_PartFits.j1 kj16 (wrap64 (1 + t158)) t159 a2 a3 true 206 y173 (strOfNums t166) false)))) else (none)) = some r := H
                  have A28 := Aside0.mk A280
                  clear A280
                  by_cases c29 : y163.length < 4398046511104
                  · rw [if_pos c29] at H
                    have LMc29 := Aside0.mk c29
                    clear c29
                    obtain ⟨y173, hy173⟩ : ∃ y_ : List (S26), y_ = (y163 ++ [(⟨(⟨#[99, 111, 110, 116, 101, 110, 116, 45, 108, 101, 110, 103, 116, 104]⟩ : ByteArray), t172⟩ : S26)]) := ⟨_, rfl⟩
                    replace H : ((part_Fits.f kj16 206 y173 (strOfNums t166) false t159 (⟨#[34, 118, 49, 34]⟩ : ByteArray)).bind fun bt176 => (if bt176.2 = true then (postilionlaw15_PartFits.j1 kj16 (wrap64 (1 + t158)) t159 a2 a3 (bt176.1 != (wrap64 (1 + t158))) 206 y173 (strOfNums t166) false) else (postilionlaw15_PartFits.j1 kj16 (wrap64 (1 + t158)) t159 a2 a3 true 206 y173 (strOfNums t166) false))) = some r := by first | (rw [hy173]; with_reducible exact H) | (have H2_ := (Option.bind_some _ _).symm.trans H; rw [hy173]; with_reducible exact H2_) | (have H2_ := (Option.bind_some _ _).symm.trans H; with_reducible exact H2_) | with_reducible exact H | (rw [hy173]; exact H) | exact H
                    have Ny173 := Aside0.mk hy173
                    clear hy173
                    replace H := Option.bind_eq_some_iff.mp H
                    obtain ⟨⟨t176, t177⟩, A300, H⟩ := H
                    replace H : (if t177 = true then (postilionlaw15_PartFits.j1 kj16 (wrap64 (1 + t158)) t159 a2 a3 (t176 != (wrap64 (1 + t158))) 206 y173 (strOfNums t166) false) else (postilionlaw15_PartFits.j1 kj16 (wrap64 (1 + t158)) t159 a2 a3 true 206 y173 (strOfNums t166) false)) = some r := H
                    have A30 := Aside0.mk A300
                    clear A300
                    have HC31 := Aside0.mk H
                    clear H
                    try go_wp2
                    have n0_ := Aside0.mk (Kd.R_drew HO_170001.out)
                    have n1_ := Aside0.mk (blk_drew BK169.out)
                    have n2_ := Aside0.mk (below_drew1 HB.out)
                    clear HO_170001
                    clear BK169
                    clear HB
                    have HO_170001 := n0_
                    have BK169 := n1_
                    have HB := n2_
                    clear n0_ n1_ n2_
                    refine start_ (n := 11) (S := fun w' => w'.cell? ⟨gb169, 0, none⟩ = some (.int .i64 206) ∧ w'.cell? ⟨gb169, 1, none⟩ = some (.slice Ao22 y163.length co22) ∧ w'.cell? ⟨gb169, 2, none⟩ = some (.string (strOfNums t166)) ∧ w'.cell? ⟨gb169, 3, none⟩ = some (.bool false)) (ds := [10]) #[false, false, false, false, false, false, false, false, false, false, false] (by kernel_rfl) rfl rfl ⟨(blk_cell BK169.out 0).trans rfl, (blk_cell BK169.out 1).trans rfl, (blk_cell BK169.out 2).trans rfl, (blk_cell BK169.out 3).trans rfl⟩ (fun hHeld => ?_); refine with_tabW postilionlaw15_PartFits.tab7 postilionlaw15_PartFits.bits7 (fun HT_ HW_ => ?_)
                    generalize wc.drew = w32 at HO_170001 BK169 HB hHeld ⊢
                    refine pure_ (i := 0) (N := some 60) (v := ?_) (a' := ?_) #[true, false, false, false, false, false, false, false, false, false, false] rfl rfl (any_of HT_.out (by kernel_rfl)) (fun _ _ _ h => h) (Or.inl ⟨by rfl, ?_⟩) ?_ ?_
                    rotate_left
                    · intro w'
                      go_simp
                      with_reducible rfl
                    rotate_left
                    · simp only [Act.put, List.setIfInBounds_toArray, List.set_cons_zero, List.set_cons_succ, i64_w, i32_w]
                      rfl
                    refine pure_ (i := 2) (N := some 62) (v := ?_) (a' := ?_) #[true, false, true, false, false, false, false, false, false, false, false] rfl rfl (any_of HT_.out (by kernel_rfl)) (fun _ _ _ h => h) (Or.inl ⟨by rfl, ?_⟩) ?_ ?_
                    rotate_left
                    · intro w'
                      go_simp
                      with_reducible rfl
                    rotate_left
                    · simp only [Act.put, List.setIfInBounds_toArray, List.set_cons_zero, List.set_cons_succ, i64_w, i32_w]
                      rfl
                    refine pure_ (i := 3) (N := some 63) (v := ?_) (a' := ?_) #[true, false, true, true, false, false, false, false, false, false, false] rfl rfl (any_of HT_.out (by kernel_rfl)) (fun _ _ _ h => h) (Or.inl ⟨by rfl, ?_⟩) ?_ ?_
                    rotate_left
                    · intro w'
                      go_simp
                      with_reducible rfl
                    rotate_left
                    · simp only [Act.put, List.setIfInBounds_toArray, List.set_cons_zero, List.set_cons_succ, i64_w, i32_w]
                      rfl
                    refine pure_ (i := 4) (N := some 64) (v := ?_) (a' := ?_) #[true, false, true, true, true, false, false, false, false, false, false] rfl rfl (any_of HT_.out (by kernel_rfl)) (fun _ _ _ h => h) (Or.inl ⟨by rfl, ?_⟩) ?_ ?_
                    rotate_left
                    · intro w'
                      go_simp
                      with_reducible rfl
                    rotate_left
                    · simp only [Act.put, List.setIfInBounds_toArray, List.set_cons_zero, List.set_cons_succ, i64_w, i32_w]
                      rfl
                    refine take_ (i := 1) (N := some 61) (v := ?_) (a' := ?_) #[true, true, true, true, true, false, false, false, false, false, false] rfl rfl (take_ofW HT_.out HW_.out (by kernel_rfl)) (fun _ _ _ h => h) (Or.inl ⟨by rfl, ?_⟩) hHeld ?_ ?_
                    rotate_left
                    · rintro w' ⟨s0, s1, s2, s3⟩
                      go_simp
                      with_reducible rfl
                    rotate_left
                    · simp only [Act.put, List.setIfInBounds_toArray, List.set_cons_zero, List.set_cons_succ, i64_w, i32_w]
                      rfl
                    refine one_ (i := 5) (N := some 65) #[true, true, true, true, true, true, false, false, false, false, false] rfl rfl (one_of HT_.out (by kernel_rfl)) (by decide) (fun K hK => ?_)
                    refine goes_ Tryd.func15 (by kernel_rfl) rfl #[.int .i64 (wrap64 ((wrap64 (1 + t158)) - t159))] (by rfl) rfl rfl (by (try simp only [List.map_toArray, List.map_cons, List.map_nil]); first | done | rfl | (simp only [List.length_drop, List.length_take]; rfl)) ?_
                    with_reducible refine (postilionref01_Digits.calls (wrap64 ((wrap64 (1 + t158)) - t159)) t172 _ A28.out).mono ?_
                    rintro e w' ⟨rfl, ⟨nd, rfl⟩⟩
                    refine ⟨_, rfl, ?_⟩
                    refine hK.out _ _ ⟨(blk_cell BK169.out 0).trans rfl, (blk_cell BK169.out 1).trans rfl, (blk_cell BK169.out 2).trans rfl, (blk_cell BK169.out 3).trans rfl⟩ (fun hHeld => ?_)
                    clear hK K
                    refine norm_ (a' := ?_) ?_ ?_
                    rotate_left
                    · show Act.put _ (some 65) _ = _
                      simp only [Act.put, List.setIfInBounds_toArray, List.set_cons_zero, List.set_cons_succ, i64_w, i32_w]
                      rfl
                    refine pure_ (i := 6) (N := some 66) (v := ?_) (a' := ?_) #[true, true, true, true, true, true, true, false, false, false, false] rfl rfl (any_of HT_.out (by kernel_rfl)) (fun _ _ _ h => h) (Or.inl ⟨by rfl, ?_⟩) ?_ ?_
                    rotate_left
                    · intro w'
                      go_simp
                      with_reducible rfl
                    rotate_left
                    · simp only [Act.put, List.setIfInBounds_toArray, List.set_cons_zero, List.set_cons_succ, i64_w, i32_w]
                      rfl
                    refine one_ (i := 7) (N := some 67) #[true, true, true, true, true, true, true, true, false, false, false] rfl rfl (one_of HT_.out (by kernel_rfl)) (by decide) (fun K hK => ?_)
                    refine value_ (w1 := ?_) (v := ?_) (by rfl) rfl ?_ ?_
                    rotate_left 2
                    · go_simp
                      constructor
                      · rfl
                      · rfl
                    refine hK.out _ _ ⟨(blk_cell (blk_alloc BK169.out _) 0).trans rfl, (blk_cell (blk_alloc BK169.out _) 1).trans rfl, (blk_cell (blk_alloc BK169.out _) 2).trans rfl, (blk_cell (blk_alloc BK169.out _) 3).trans rfl⟩ (fun hHeld => ?_)
                    clear hK K
                    refine norm_ (a' := ?_) ?_ ?_
                    rotate_left
                    · show Act.put _ (some 67) _ = _
                      simp only [Act.put, List.setIfInBounds_toArray, List.set_cons_zero, List.set_cons_succ, i64_w, i32_w]
                      rfl
                    refine one_ (i := 8) (N := some 68) #[true, true, true, true, true, true, true, true, true, false, false] rfl rfl (one_of HT_.out (by kernel_rfl)) (by decide) (fun K hK => ?_)
                    refine Kd.R_append_step k26 (w0 := w) w.heap.size (by rfl) (.tmp 61) (.tmp 67) 31 26 (.agg #[(.string ⟨#[]⟩), (.string ⟨#[]⟩)]) 32 rfl Tryd.underlying31 info26 rfl (by decide) (by omega) (.slice Ao22 y163.length co22) y163 (⟨(⟨#[99, 111, 110, 116, 101, 110, 116, 45, 108, 101, 110, 103, 116, 104]⟩ : ByteArray), t172⟩ : S26) [.string (⟨#[99, 111, 110, 116, 101, 110, 116, 45, 108, 101, 110, 103, 116, 104]⟩ : ByteArray), .string t172] (fun _ => True) (fun _ => False) rfl rfl ?aP (fun _ hk => hk.elim) ?aF ?aO ?aB ?aS ?aL ?_
                    (case aP => exact k26_mkM _ _ _ (⟨(⟨#[99, 111, 110, 116, 101, 110, 116, 45, 108, 101, 110, 103, 116, 104]⟩ : ByteArray), t172⟩ : S26))
                    (case aB => exact (by repeat (first | (with_reducible first | exact HB.out | apply below_alloc | apply pw_below_drewN | apply below_drew1 | refine below_set ?_ GE169.out) | exact HB.out)))
                    (case aF => exact (fun _ _ => trivial))
                    (case aO => exact (by (with_reducible repeat (first | apply Kd.R_alloc | apply Kd.R_drewN | apply Kd.R_drew)); exact HO_170001.out))
                    (case aS => exact (below_size (by repeat (first | (with_reducible first | exact HB.out | apply below_alloc | apply pw_below_drewN | apply below_drew1 | refine below_set ?_ GE169.out) | exact HB.out))))
                    (case aL => have := LMc29.out; omega)
                    intro v174 w33 ho hb hg hat
                    rw [← Ny173.out] at ho
                    have n0_ := Aside0.mk (blk_grown (g := gb169) (o := .cells #[.int .i64 206, .slice Ao22 y163.length co22, .string (strOfNums t166), .bool false] 45 (0, 0)) (by (with_reducible repeat (first | refine blk_drewN ?_ _ | refine blk_drew ?_ | refine blk_alloc ?_ _)); exact BK169.out) hg (Kd.R_ne HO_170001.out BK169.out (by decide)))
                    have n1_ := Aside0.mk (hb)
                    have n2_ := Aside0.mk (ho)
                    clear BK169
                    clear HB
                    clear HO_170001
                    have BK169 := n0_
                    have HB := n1_
                    have HO175 := n2_
                    clear n0_ n1_ n2_
                    clear ho hb hg hat
                    obtain ⟨Ao34, co34, eo34⟩ := Kd.R_slice HO175.out
                    (first | subst eo34 | (injection eo34 with f1_ f2_ f3_; have f4_ := f1_.symm; have f5_ := f3_.symm; clear f1_ f2_ f3_; subst f4_; subst f5_))
                    refine hK.out _ _ ⟨(blk_cell BK169.out 0).trans rfl, (blk_cell BK169.out 1).trans rfl, (blk_cell BK169.out 2).trans rfl, (blk_cell BK169.out 3).trans rfl⟩ (fun hHeld => ?_)
                    clear hK K
                    refine norm_ (a' := ?_) ?_ ?_
                    rotate_left
                    · show Act.put _ (some 68) _ = _
                      simp only [Act.put, List.setIfInBounds_toArray, List.set_cons_zero, List.set_cons_succ, i64_w, i32_w]
                      rfl
                    refine pure_ (i := 9) (N := some 69) (v := ?_) (a' := ?_) #[true, true, true, true, true, true, true, true, true, true, false] rfl rfl (any_of HT_.out (by kernel_rfl)) (fun _ _ _ h => h) (Or.inl ⟨by rfl, ?_⟩) ?_ ?_
                    rotate_left
                    · intro w'
                      go_simp
                      with_reducible rfl
                    rotate_left
                    · simp only [Act.put, List.setIfInBounds_toArray, List.set_cons_zero, List.set_cons_succ, i64_w, i32_w]
                      rfl
                    refine last_ (i := 10) (N := none) #[true, true, true, true, true, true, true, true, true, true, true] rfl rfl (one_of HT_.out (by kernel_rfl)) (by decide) (fun K hK => ?_)
                    have hs35 : w33.cell? ⟨gb169, 1, none⟩ = some (.slice Ao22 y163.length co22) := (blk_cell BK169.out 1).trans rfl
                    have hfs35 := blk_frozen BK169.out 1
                    refine skip_ (w1 := ?_) (by rfl) rfl ?_ ?_
                    rotate_left
                    · go_simp
                      rfl
                    refine hK.out _ _ ?_
                    clear hK K
                    refine done_ (done_of HT_.out (by kernel_rfl)) ?_
                    have hcz36_0 : w33.cell? ⟨gb169, 0, none⟩ = some (.int .i64 206) := (blk_cell BK169.out 0).trans rfl
                    have hcz36_1 : w33.cell? ⟨gb169, 1, none⟩ = some (.slice Ao22 y163.length co22) := (blk_cell BK169.out 1).trans rfl
                    have hcz36_2 : w33.cell? ⟨gb169, 2, none⟩ = some (.string (strOfNums t166)) := (blk_cell BK169.out 2).trans rfl
                    have hcz36_3 : w33.cell? ⟨gb169, 3, none⟩ = some (.bool false) := (blk_cell BK169.out 3).trans rfl
                    have hfz36_0 := blk_frozen BK169.out 0
                    have hfz36_1 := blk_frozen BK169.out 1
                    have hfz36_2 := blk_frozen BK169.out 2
                    have hfz36_3 := blk_frozen BK169.out 3
                    go_upto_region 9 with (first | ((with_reducible refine gate_callee (f := 19) rfl ?_); refine goesL_ (some 73) rfl rfl Tryd.func19 (by kernel_rfl) rfl #[.agg #[.int .i64 206, .slice Ao34 y173.length co34, .string (strOfNums t166), .bool false], .int .i64 t159, .string (⟨#[34, 118, 49, 34]⟩ : ByteArray)] rfl (by (try simp only [List.map_toArray, List.map_cons, List.map_nil]); first | done | rfl | (simp only [List.length_drop, List.length_take]; rfl)) ?_; (with_reducible refine (part_Fits.calls kj16 206 _ _ y173 (strOfNums t166) false t159 (⟨#[34, 118, 49, 34]⟩ : ByteArray) t176 t177 _ ?side1 ?side2 ?side3 A30.out).mono ?_); (case side1 => exact Gl.below hG (by repeat (first | (with_reducible first | exact HB.out | apply below_alloc | apply pw_below_drewN | apply below_drew1 | refine below_set ?_ GE169.out) | exact HB.out))); (case side2 => refine (Kd.R_reads' (e := 26) (base := w.heap.size) (ok := fun k_ => True) (n := y173.length) (c := co34) ?_).2.2; exact (by (with_reducible repeat (first | apply Kd.R_alloc | apply Kd.R_drewN | apply Kd.R_drew)); exact (Kd.R_mono (Kd.R_far (p := ⟨gb169, 1, none⟩) (Kd.R_types HO175.out BK169.out (by decide)) (fun _ hk => hk.2) (.slice Ao34 y173.length co34)) (fun _ h_ => h_.1)))); (case side3 => exact (Kd.R_reads' HO175.out).2.1); rintro e w37 ⟨rfl, hb⟩; refine ⟨_, rfl, ?_⟩; have n0_ := Aside0.mk (Kd.R_below (by (with_reducible repeat (first | apply Kd.R_alloc | apply Kd.R_drewN | apply Kd.R_drew)); exact (Kd.R_mono (Kd.R_far (p := ⟨gb169, 1, none⟩) (Kd.R_types HO175.out BK169.out (by decide)) (fun _ hk => hk.2) (.slice Ao34 y173.length co34)) (fun _ h_ => h_.1))) hb); have n1_ := Aside0.mk (blk_below (g := gb169) (o := .cells #[.int .i64 206, .slice Ao34 y173.length co34, .string (strOfNums t166), .bool false] 45 (0, 0)) (by (with_reducible repeat (first | refine blk_drewN ?_ _ | refine blk_drew ?_ | refine blk_alloc ?_ _)); refine blk_put (cs := #[.int .i64 206, .slice Ao22 y163.length co22, .string (strOfNums t166), .bool false]) ?_ 1 _ rfl; (with_reducible repeat (first | refine blk_drewN ?_ _ | refine blk_drew ?_ | refine blk_alloc ?_ _)); exact BK169.out) hb); have n2_ := Aside0.mk (below_step (by repeat (first | (with_reducible first | exact HB.out | apply below_alloc | apply pw_below_drewN | apply below_drew1 | refine below_set ?_ GE169.out) | exact HB.out)) hb); clear HO175; clear BK169; clear HB; have HO175 := n0_; have BK169 := n1_; have HB := n2_; clear n0_ n1_ n2_; (try clear hb); (try clear hb2); (try clear hk); (try clear hi)))
                    (try simp only [Act.put, List.setIfInBounds_toArray, List.set_cons_zero, List.set_cons_succ])
                    go_cut [82] (fun v82 wc => ∃ (kq : Nat) (x82_30 : Bool), v82 = .bool x82_30 ∧ Aside0 (postilionlaw15_PartFits.j1 kq (wrap64 (1 + t158)) t159 a2 a3 x82_30 206 y173 (strOfNums t166) false = some r) ∧ Aside0 (kq ≤ kj16) ∧ Aside0 (Kd.R k26 26 wc w.heap.size (fun _ => True) (.slice Ao34 y173.length co34) y173) ∧ Aside0 (wc.heap[gb169]? = some (.cells #[.int .i64 206, (.slice Ao34 y173.length co34), .string (strOfNums t166), .bool false] 45 (0, 0))) ∧ Aside0 (Below w.heap.size w wc))
                    case first =>
                      have H := HC31.out
                      clear HC31
                      by_cases c38 : t177 = true
                      · subst c38
                        have H1 : (postilionlaw15_PartFits.j1 kj16 (wrap64 (1 + t158)) t159 a2 a3 (t176 != (wrap64 (1 + t158))) 206 y173 (strOfNums t166) false) = some r := by rw [if_pos rfl] at H; exact H
                        clear H
                        have H := H1
                        clear H1
                        have H' := Aside0.mk H
                        clear H
                        go_wp2
                        go_meet
                        case rel => exact ⟨_, ((t176 != (wrap64 (1 + t158)))), (by first | rfl | (simp; done) | (simp [*]; done)), H', ⟨by have := HJ16.out; first | omega | exact Nat.le_refl _⟩, ⟨by (with_reducible repeat (first | apply Kd.R_alloc | apply Kd.R_drewN | apply Kd.R_drew)); exact HO175.out⟩, ⟨by (with_reducible repeat (first | refine blk_drewN ?_ _ | refine blk_drew ?_ | refine blk_alloc ?_ _)); exact BK169.out⟩, ⟨by repeat (first | (with_reducible first | exact HB.out | apply below_alloc | apply pw_below_drewN | apply below_drew1 | refine below_set ?_ GE169.out) | exact HB.out)⟩⟩
                      · replace c38 := Bool.eq_false_iff.mpr c38
                        subst c38
                        have H1 : (postilionlaw15_PartFits.j1 kj16 (wrap64 (1 + t158)) t159 a2 a3 true 206 y173 (strOfNums t166) false) = some r := by rw [if_neg (show ¬ (false = true) by decide)] at H; exact H
                        clear H
                        have H := H1
                        clear H1
                        have H' := Aside0.mk H
                        clear H
                        go_wp2
                        go_meet
                        case rel => exact ⟨_, (true), (by first | rfl | (simp; done) | (simp [*]; done)), H', ⟨by have := HJ16.out; first | omega | exact Nat.le_refl _⟩, ⟨by (with_reducible repeat (first | apply Kd.R_alloc | apply Kd.R_drewN | apply Kd.R_drew)); exact HO175.out⟩, ⟨by (with_reducible repeat (first | refine blk_drewN ?_ _ | refine blk_drew ?_ | refine blk_alloc ?_ _)); exact BK169.out⟩, ⟨by repeat (first | (with_reducible first | exact HB.out | apply below_alloc | apply pw_below_drewN | apply below_drew1 | refine below_set ?_ GE169.out) | exact HB.out)⟩⟩
                    case rest =>
                      clear HC31
                      try clear c1
                      try clear c2
                      try clear p2
                      try clear hcv2
                      try clear c3
                      try clear c6
                      try clear p6
                      try clear c8
                      try clear c8b0
                      try clear c8b1
                      try clear c8b2
                      try clear c9
                      try clear c9b0
                      try clear c9b1
                      try clear c9b2
                      try clear c11
                      try clear c11b0
                      try clear c11b1
                      try clear c11b2
                      try clear c12
                      try clear c12b0
                      try clear c12b1
                      try clear c12b2
                      try clear c14
                      try clear c14b0
                      try clear c14b1
                      try clear c14b2
                      try clear c15
                      try clear c19
                      try clear hcv21
                      try clear c23
                      try clear c26
                      try clear c27
                      try clear c29
                      try clear c38
                      try clear hcz24_0
                      try clear hcz24_1
                      try clear hcz24_2
                      try clear hcz24_3
                      try clear hcz36_0
                      try clear hcz36_1
                      try clear hcz36_2
                      try clear hcz36_3
                      try clear hfz24_0
                      try clear hfz24_1
                      try clear hfz24_2
                      try clear hfz24_3
                      try clear hfz36_0
                      try clear hfz36_1
                      try clear hfz36_2
                      try clear hfz36_3
                      try clear p2
                      try clear p6
                      obtain ⟨kq, x82_30, rfl, HA, HJ30, HO_170001, BK169, HB⟩ := hcut
                      cases kq with
                      | zero => exact absurd HA.out (by simp [postilionlaw15_PartFits.j1])
                      | succ kj30 =>
                        have H := HA.out
                        clear HA
                        simp only [postilionlaw15_PartFits.j1] at H
                        by_cases c39 : x82_30 = true
                        · subst c39
                          have H1 : (some false) = some r := by rw [if_pos rfl] at H; exact H
                          clear H
                          have H := H1
                          clear H1
                          obtain rfl := Option.some.inj H
                          cases hT
                        · replace c39 := Bool.eq_false_iff.mpr c39
                          subst c39
                          have H1 : ((postilionkeep_Within.f a2 30).bind fun t178 => ((part_Fits.f kj30 206 y173 (strOfNums t166) false (wrap64 (t159 + (wrap64 (1 + t178)))) (⟨#[34, 118, 49, 34]⟩ : ByteArray)).bind fun bt179 => ((part_Fits.f kj30 206 y173 (strOfNums t166) false t159 (⟨#[34, 118, 50, 34]⟩ : ByteArray)).bind fun bt181 => ((part_Fits.f kj30 206 y173 (strOfNums t166) false t159 (⟨#[]⟩ : ByteArray)).bind fun bt183 => ((postilionkeep_Within.f a3 4).bind fun t185 => (if t185 = 0 then ((part_Fits.f kj30 200 y173 (strOfNums t166) false t159 (⟨#[34, 118, 49, 34]⟩ : ByteArray)).bind fun bt186 => (if bt179.2 = true then (some false) else (if bt181.2 = true then (some false) else (if bt183.2 = true then (some false) else (if bt186.2 = true then (some false) else ((postilionlaw15_wakes.f kj30).bind fun t188 => (some t188))))))) else (if t185 = 1 then ((postilionref01_Digits.f t159).bind fun t189 => (if 6 + t189.size ≤ 9223372036854775807 then (if 6 + t189.size + 1 ≤ 9223372036854775807 then ((postilionref01_Digits.f (wrap64 ((wrap64 (1 + t158)) - 1))).bind fun t190 => (if 6 + t189.size + 1 + t190.size ≤ 9223372036854775807 then (if 6 + t189.size + 1 + t190.size + 1 ≤ 9223372036854775807 then ((postilionref01_Digits.f (wrap64 ((wrap64 (1 + t158)) + (wrap64 (1 + t178))))).bind fun t191 => (if 6 + t189.size + 1 + t190.size + 1 + t191.size ≤ 9223372036854775807 then (if 1 < (y173.length : Int) then ((part_Fits.f kj30 206 (y173.set (1 : Int).toNat (⟨(rd_T26 y173 1).f0, (((((⟨#[98, 121, 116, 101, 115, 32]⟩ : ByteArray) ++ t189) ++ (⟨#[45]⟩ : ByteArray)) ++ t190) ++ (⟨#[47]⟩ : ByteArray)) ++ t191⟩ : S26)) (strOfNums t166) false t159 (⟨#[34, 118, 49, 34]⟩ : ByteArray)).bind fun bt193 => (if bt179.2 = true then (some false) else (if bt181.2 = true then (some false) else (if bt183.2 = true then (some false) else (if bt193.2 = true then (some false) else ((postilionlaw15_wakes.f kj30).bind fun t195 => (some t195))))))) else (none)) else (none))) else (none)) else (none))) else (none)) else (none))) else (if t185 = 2 then ((postilionref01_Digits.f (wrap64 ((wrap64 ((wrap64 (1 + t158)) - t159)) + (wrap64 (1 + t178))))).bind fun t196 => (if 2 < (y173.length : Int) then ((part_Fits.f kj30 206 (y173.set (2 : Int).toNat (⟨(rd_T26 y173 2).f0, t196⟩ : S26)) (strOfNums t166) false t159 (⟨#[34, 118, 49, 34]⟩ : ByteArray)).bind fun bt198 => (if bt179.2 = true then (some false) else (if bt181.2 = true then (some false) else (if bt183.2 = true then (some false) else (if bt198.2 = true then (some false) else ((postilionlaw15_wakes.f kj30).bind fun t200 => (some t200))))))) else (none))) else (if 0 < (y173.length : Int) then ((part_Fits.f kj30 206 (y173.set (0 : Int).toNat (⟨(rd_T26 y173 0).f0, (⟨#[87, 47, 34, 118, 49, 34]⟩ : ByteArray)⟩ : S26)) (strOfNums t166) false t159 (⟨#[34, 118, 49, 34]⟩ : ByteArray)).bind fun bt202 => (if bt179.2 = true then (some false) else (if bt181.2 = true then (some false) else (if bt183.2 = true then (some false) else (if bt202.2 = true then (some false) else ((postilionlaw15_wakes.f kj30).bind fun t204 => (some t204))))))) else (none)))))))))) = some r := by rw [if_neg (show ¬ (false = true) by decide)] at H; exact H
                          clear H
                          have H := H1
                          clear H1
                          replace H := Option.bind_eq_some_iff.mp H
                          obtain ⟨t178, A400, H⟩ := H
                          replace H : ((part_Fits.f kj30 206 y173 (strOfNums t166) false (wrap64 (t159 + (wrap64 (1 + t178)))) (⟨#[34, 118, 49, 34]⟩ : ByteArray)).bind fun bt179 => ((part_Fits.f kj30 206 y173 (strOfNums t166) false t159 (⟨#[34, 118, 50, 34]⟩ : ByteArray)).bind fun bt181 => ((part_Fits.f kj30 206 y173 (strOfNums t166) false t159 (⟨#[]⟩ : ByteArray)).bind fun bt183 => ((postilionkeep_Within.f a3 4).bind fun t185 => (if t185 = 0 then ((part_Fits.f kj30 200 y173 (strOfNums t166) false t159 (⟨#[34, 118, 49, 34]⟩ : ByteArray)).bind fun bt186 => (if bt179.2 = true then (some false) else (if bt181.2 = true then (some false) else (if bt183.2 = true then (some false) else (if bt186.2 = true then (some false) else ((postilionlaw15_wakes.f kj30).bind fun t188 => (some t188))))))) else (if t185 = 1 then ((postilionref01_Digits.f t159).bind fun t189 => (if 6 + t189.size ≤ 9223372036854775807 then (if 6 + t189.size + 1 ≤ 9223372036854775807 then ((postilionref01_Digits.f (wrap64 ((wrap64 (1 + t158)) - 1))).bind fun t190 => (if 6 + t189.size + 1 + t190.size ≤ 9223372036854775807 then (if 6 + t189.size + 1 + t190.size + 1 ≤ 9223372036854775807 then ((postilionref01_Digits.f (wrap64 ((wrap64 (1 + t158)) + (wrap64 (1 + t178))))).bind fun t191 => (if 6 + t189.size + 1 + t190.size + 1 + t191.size ≤ 9223372036854775807 then (if 1 < (y173.length : Int) then ((part_Fits.f kj30 206 (y173.set (1 : Int).toNat (⟨(rd_T26 y173 1).f0, (((((⟨#[98, 121, 116, 101, 115, 32]⟩ : ByteArray) ++ t189) ++ (⟨#[45]⟩ : ByteArray)) ++ t190) ++ (⟨#[47]⟩ : ByteArray)) ++ t191⟩ : S26)) (strOfNums t166) false t159 (⟨#[34, 118, 49, 34]⟩ : ByteArray)).bind fun bt193 => (if bt179.2 = true then (some false) else (if bt181.2 = true then (some false) else (if bt183.2 = true then (some false) else (if bt193.2 = true then (some false) else ((postilionlaw15_wakes.f kj30).bind fun t195 => (some t195))))))) else (none)) else (none))) else (none)) else (none))) else (none)) else (none))) else (if t185 = 2 then ((postilionref01_Digits.f (wrap64 ((wrap64 ((wrap64 (1 + t158)) - t159)) + (wrap64 (1 + t178))))).bind fun t196 => (if 2 < (y173.length : Int) then ((part_Fits.f kj30 206 (y173.set (2 : Int).toNat (⟨(rd_T26 y173 2).f0, t196⟩ : S26)) (strOfNums t166) false t159 (⟨#[34, 118, 49, 34]⟩ : ByteArray)).bind fun bt198 => (if bt179.2 = true then (some false) else (if bt181.2 = true then (some false) else (if bt183.2 = true then (some false) else (if bt198.2 = true then (some false) else ((postilionlaw15_wakes.f kj30).bind fun t200 => (some t200))))))) else (none))) else (if 0 < (y173.length : Int) then ((part_Fits.f kj30 206 (y173.set (0 : Int).toNat (⟨(rd_T26 y173 0).f0, (⟨#[87, 47, 34, 118, 49, 34]⟩ : ByteArray)⟩ : S26)) (strOfNums t166) false t159 (⟨#[34, 118, 49, 34]⟩ : ByteArray)).bind fun bt202 => (if bt179.2 = true then (some false) else (if bt181.2 = true then (some false) else (if bt183.2 = true then (some false) else (if bt202.2 = true then (some false) else ((postilionlaw15_wakes.f kj30).bind fun t204 => (some t204))))))) else (none))))))))) = some r := H
                          have A40 := Aside0.mk A400
                          clear A400
                          replace H := Option.bind_eq_some_iff.mp H
                          obtain ⟨⟨t179, t180⟩, A410, H⟩ := H
                          replace H : ((part_Fits.f kj30 206 y173 (strOfNums t166) false t159 (⟨#[34, 118, 50, 34]⟩ : ByteArray)).bind fun bt181 => ((part_Fits.f kj30 206 y173 (strOfNums t166) false t159 (⟨#[]⟩ : ByteArray)).bind fun bt183 => ((postilionkeep_Within.f a3 4).bind fun t185 => (if t185 = 0 then ((part_Fits.f kj30 200 y173 (strOfNums t166) false t159 (⟨#[34, 118, 49, 34]⟩ : ByteArray)).bind fun bt186 => (if t180 = true then (some false) else (if bt181.2 = true then (some false) else (if bt183.2 = true then (some false) else (if bt186.2 = true then (some false) else ((postilionlaw15_wakes.f kj30).bind fun t188 => (some t188))))))) else (if t185 = 1 then ((postilionref01_Digits.f t159).bind fun t189 => (if 6 + t189.size ≤ 9223372036854775807 then (if 6 + t189.size + 1 ≤ 9223372036854775807 then ((postilionref01_Digits.f (wrap64 ((wrap64 (1 + t158)) - 1))).bind fun t190 => (if 6 + t189.size + 1 + t190.size ≤ 9223372036854775807 then (if 6 + t189.size + 1 + t190.size + 1 ≤ 9223372036854775807 then ((postilionref01_Digits.f (wrap64 ((wrap64 (1 + t158)) + (wrap64 (1 + t178))))).bind fun t191 => (if 6 + t189.size + 1 + t190.size + 1 + t191.size ≤ 9223372036854775807 then (if 1 < (y173.length : Int) then ((part_Fits.f kj30 206 (y173.set (1 : Int).toNat (⟨(rd_T26 y173 1).f0, (((((⟨#[98, 121, 116, 101, 115, 32]⟩ : ByteArray) ++ t189) ++ (⟨#[45]⟩ : ByteArray)) ++ t190) ++ (⟨#[47]⟩ : ByteArray)) ++ t191⟩ : S26)) (strOfNums t166) false t159 (⟨#[34, 118, 49, 34]⟩ : ByteArray)).bind fun bt193 => (if t180 = true then (some false) else (if bt181.2 = true then (some false) else (if bt183.2 = true then (some false) else (if bt193.2 = true then (some false) else ((postilionlaw15_wakes.f kj30).bind fun t195 => (some t195))))))) else (none)) else (none))) else (none)) else (none))) else (none)) else (none))) else (if t185 = 2 then ((postilionref01_Digits.f (wrap64 ((wrap64 ((wrap64 (1 + t158)) - t159)) + (wrap64 (1 + t178))))).bind fun t196 => (if 2 < (y173.length : Int) then ((part_Fits.f kj30 206 (y173.set (2 : Int).toNat (⟨(rd_T26 y173 2).f0, t196⟩ : S26)) (strOfNums t166) false t159 (⟨#[34, 118, 49, 34]⟩ : ByteArray)).bind fun bt198 => (if t180 = true then (some false) else (if bt181.2 = true then (some false) else (if bt183.2 = true then (some false) else (if bt198.2 = true then (some false) else ((postilionlaw15_wakes.f kj30).bind fun t200 => (some t200))))))) else (none))) else (if 0 < (y173.length : Int) then ((part_Fits.f kj30 206 (y173.set (0 : Int).toNat (⟨(rd_T26 y173 0).f0, (⟨#[87, 47, 34, 118, 49, 34]⟩ : ByteArray)⟩ : S26)) (strOfNums t166) false t159 (⟨#[34, 118, 49, 34]⟩ : ByteArray)).bind fun bt202 => (if t180 = true then (some false) else (if bt181.2 = true then (some false) else (if bt183.2 = true then (some false) else (if bt202.2 = true then (some false) else ((postilionlaw15_wakes.f kj30).bind fun t204 => (some t204))))))) else (none)))))))) = some r := H
                          have A41 := Aside0.mk A410
                          clear A410
                          replace H := Option.bind_eq_some_iff.mp H
                          obtain ⟨⟨t181, t182⟩, A420, H⟩ := H
                          replace H : ((part_Fits.f kj30 206 y173 (strOfNums t166) false t159 (⟨#[]⟩ : ByteArray)).bind fun bt183 => ((postilionkeep_Within.f a3 4).bind fun t185 => (if t185 = 0 then ((part_Fits.f kj30 200 y173 (strOfNums t166) false t159 (⟨#[34, 118, 49, 34]⟩ : ByteArray)).bind fun bt186 => (if t180 = true then (some false) else (if t182 = true then (some false) else (if bt183.2 = true then (some false) else (if bt186.2 = true then (some false) else ((postilionlaw15_wakes.f kj30).bind fun t188 => (some t188))))))) else (if t185 = 1 then ((postilionref01_Digits.f t159).bind fun t189 => (if 6 + t189.size ≤ 9223372036854775807 then (if 6 + t189.size + 1 ≤ 9223372036854775807 then ((postilionref01_Digits.f (wrap64 ((wrap64 (1 + t158)) - 1))).bind fun t190 => (if 6 + t189.size + 1 + t190.size ≤ 9223372036854775807 then (if 6 + t189.size + 1 + t190.size + 1 ≤ 9223372036854775807 then ((postilionref01_Digits.f (wrap64 ((wrap64 (1 + t158)) + (wrap64 (1 + t178))))).bind fun t191 => (if 6 + t189.size + 1 + t190.size + 1 + t191.size ≤ 9223372036854775807 then (if 1 < (y173.length : Int) then ((part_Fits.f kj30 206 (y173.set (1 : Int).toNat (⟨(rd_T26 y173 1).f0, (((((⟨#[98, 121, 116, 101, 115, 32]⟩ : ByteArray) ++ t189) ++ (⟨#[45]⟩ : ByteArray)) ++ t190) ++ (⟨#[47]⟩ : ByteArray)) ++ t191⟩ : S26)) (strOfNums t166) false t159 (⟨#[34, 118, 49, 34]⟩ : ByteArray)).bind fun bt193 => (if t180 = true then (some false) else (if t182 = true then (some false) else (if bt183.2 = true then (some false) else (if bt193.2 = true then (some false) else ((postilionlaw15_wakes.f kj30).bind fun t195 => (some t195))))))) else (none)) else (none))) else (none)) else (none))) else (none)) else (none))) else (if t185 = 2 then ((postilionref01_Digits.f (wrap64 ((wrap64 ((wrap64 (1 + t158)) - t159)) + (wrap64 (1 + t178))))).bind fun t196 => (if 2 < (y173.length : Int) then ((part_Fits.f kj30 206 (y173.set (2 : Int).toNat (⟨(rd_T26 y173 2).f0, t196⟩ : S26)) (strOfNums t166) false t159 (⟨#[34, 118, 49, 34]⟩ : ByteArray)).bind fun bt198 => (if t180 = true then (some false) else (if t182 = true then (some false) else (if bt183.2 = true then (some false) else (if bt198.2 = true then (some false) else ((postilionlaw15_wakes.f kj30).bind fun t200 => (some t200))))))) else (none))) else (if 0 < (y173.length : Int) then ((part_Fits.f kj30 206 (y173.set (0 : Int).toNat (⟨(rd_T26 y173 0).f0, (⟨#[87, 47, 34, 118, 49, 34]⟩ : ByteArray)⟩ : S26)) (strOfNums t166) false t159 (⟨#[34, 118, 49, 34]⟩ : ByteArray)).bind fun bt202 => (if t180 = true then (some false) else (if t182 = true then (some false) else (if bt183.2 = true then (some false) else (if bt202.2 = true then (some false) else ((postilionlaw15_wakes.f kj30).bind fun t204 => (some t204))))))) else (none))))))) = some r := H
                          have A42 := Aside0.mk A420
                          clear A420
                          replace H := Option.bind_eq_some_iff.mp H
                          obtain ⟨⟨t183, t184⟩, A430, H⟩ := H
                          replace H : ((postilionkeep_Within.f a3 4).bind fun t185 => (if t185 = 0 then ((part_Fits.f kj30 200 y173 (strOfNums t166) false t159 (⟨#[34, 118, 49, 34]⟩ : ByteArray)).bind fun bt186 => (if t180 = true then (some false) else (if t182 = true then (some false) else (if t184 = true then (some false) else (if bt186.2 = true then (some false) else ((postilionlaw15_wakes.f kj30).bind fun t188 => (some t188))))))) else (if t185 = 1 then ((postilionref01_Digits.f t159).bind fun t189 => (if 6 + t189.size ≤ 9223372036854775807 then (if 6 + t189.size + 1 ≤ 9223372036854775807 then ((postilionref01_Digits.f (wrap64 ((wrap64 (1 + t158)) - 1))).bind fun t190 => (if 6 + t189.size + 1 + t190.size ≤ 9223372036854775807 then (if 6 + t189.size + 1 + t190.size + 1 ≤ 9223372036854775807 then ((postilionref01_Digits.f (wrap64 ((wrap64 (1 + t158)) + (wrap64 (1 + t178))))).bind fun t191 => (if 6 + t189.size + 1 + t190.size + 1 + t191.size ≤ 9223372036854775807 then (if 1 < (y173.length : Int) then ((part_Fits.f kj30 206 (y173.set (1 : Int).toNat (⟨(rd_T26 y173 1).f0, (((((⟨#[98, 121, 116, 101, 115, 32]⟩ : ByteArray) ++ t189) ++ (⟨#[45]⟩ : ByteArray)) ++ t190) ++ (⟨#[47]⟩ : ByteArray)) ++ t191⟩ : S26)) (strOfNums t166) false t159 (⟨#[34, 118, 49, 34]⟩ : ByteArray)).bind fun bt193 => (if t180 = true then (some false) else (if t182 = true then (some false) else (if t184 = true then (some false) else (if bt193.2 = true then (some false) else ((postilionlaw15_wakes.f kj30).bind fun t195 => (some t195))))))) else (none)) else (none))) else (none)) else (none))) else (none)) else (none))) else (if t185 = 2 then ((postilionref01_Digits.f (wrap64 ((wrap64 ((wrap64 (1 + t158)) - t159)) + (wrap64 (1 + t178))))).bind fun t196 => (if 2 < (y173.length : Int) then ((part_Fits.f kj30 206 (y173.set (2 : Int).toNat (⟨(rd_T26 y173 2).f0, t196⟩ : S26)) (strOfNums t166) false t159 (⟨#[34, 118, 49, 34]⟩ : ByteArray)).bind fun bt198 => (if t180 = true then (some false) else (if t182 = true then (some false) else (if t184 = true then (some false) else (if bt198.2 = true then (some false) else ((postilionlaw15_wakes.f kj30).bind fun t200 => (some t200))))))) else (none))) else (if 0 < (y173.length : Int) then ((part_Fits.f kj30 206 (y173.set (0 : Int).toNat (⟨(rd_T26 y173 0).f0, (⟨#[87, 47, 34, 118, 49, 34]⟩ : ByteArray)⟩ : S26)) (strOfNums t166) false t159 (⟨#[34, 118, 49, 34]⟩ : ByteArray)).bind fun bt202 => (if t180 = true then (some false) else (if t182 = true then (some false) else (if t184 = true then (some false) else (if bt202.2 = true then (some false) else ((postilionlaw15_wakes.f kj30).bind fun t204 => (some t204))))))) else (none)))))) = some r := H
                          have A43 := Aside0.mk A430
                          clear A430
                          replace H := Option.bind_eq_some_iff.mp H
                          obtain ⟨t185, A440, H⟩ := H
                          replace H : (if t185 = 0 then ((part_Fits.f kj30 200 y173 (strOfNums t166) false t159 (⟨#[34, 118, 49, 34]⟩ : ByteArray)).bind fun bt186 => (if t180 = true then (some false) else (if t182 = true then (some false) else (if t184 = true then (some false) else (if bt186.2 = true then (some false) else ((postilionlaw15_wakes.f kj30).bind fun t188 => (some t188))))))) else (if t185 = 1 then ((postilionref01_Digits.f t159).bind fun t189 => (if 6 + t189.size ≤ 9223372036854775807 then (if 6 + t189.size + 1 ≤ 9223372036854775807 then ((postilionref01_Digits.f (wrap64 ((wrap64 (1 + t158)) - 1))).bind fun t190 => (if 6 + t189.size + 1 + t190.size ≤ 9223372036854775807 then (if 6 + t189.size + 1 + t190.size + 1 ≤ 9223372036854775807 then ((postilionref01_Digits.f (wrap64 ((wrap64 (1 + t158)) + (wrap64 (1 + t178))))).bind fun t191 => (if 6 + t189.size + 1 + t190.size + 1 + t191.size ≤ 9223372036854775807 then (if 1 < (y173.length : Int) then ((part_Fits.f kj30 206 (y173.set (1 : Int).toNat (⟨(rd_T26 y173 1).f0, (((((⟨#[98, 121, 116, 101, 115, 32]⟩ : ByteArray) ++ t189) ++ (⟨#[45]⟩ : ByteArray)) ++ t190) ++ (⟨#[47]⟩ : ByteArray)) ++ t191⟩ : S26)) (strOfNums t166) false t159 (⟨#[34, 118, 49, 34]⟩ : ByteArray)).bind fun bt193 => (if t180 = true then (some false) else (if t182 = true then (some false) else (if t184 = true then (some false) else (if bt193.2 = true then (some false) else ((postilionlaw15_wakes.f kj30).bind fun t195 => (some t195))))))) else (none)) else (none))) else (none)) else (none))) else (none)) else (none))) else (if t185 = 2 then ((postilionref01_Digits.f (wrap64 ((wrap64 ((wrap64 (1 + t158)) - t159)) + (wrap64 (1 + t178))))).bind fun t196 => (if 2 < (y173.length : Int) then ((part_Fits.f kj30 206 (y173.set (2 : Int).toNat (⟨(rd_T26 y173 2).f0, t196⟩ : S26)) (strOfNums t166) false t159 (⟨#[34, 118, 49, 34]⟩ : ByteArray)).bind fun bt198 => (if t180 = true then (some false) else (if t182 = true then (some false) else (if t184 = true then (some false) else (if bt198.2 = true then (some false) else ((postilionlaw15_wakes.f kj30).bind fun t200 => (some t200))))))) else (none))) else (if 0 < (y173.length : Int) then ((part_Fits.f kj30 206 (y173.set (0 : Int).toNat (⟨(rd_T26 y173 0).f0, (⟨#[87, 47, 34, 118, 49, 34]⟩ : ByteArray)⟩ : S26)) (strOfNums t166) false t159 (⟨#[34, 118, 49, 34]⟩ : ByteArray)).bind fun bt202 => (if t180 = true then (some false) else (if t182 = true then (some false) else (if t184 = true then (some false) else (if bt202.2 = true then (some false) else ((postilionlaw15_wakes.f kj30).bind fun t204 => (some t204))))))) else (none))))) = some r := H
                          have A44 := Aside0.mk A440
                          clear A440
                          by_cases c45 : t185 = 0
                          · rw [if_pos c45] at H
                            have c45b0 : (t185 == 0) = true := beq_iff_eq.mpr c45
                            have c45b1 : (t185 != 0) = false := bne_eq_false_iff_eq.mpr c45
                            clear c45
                            replace H := Option.bind_eq_some_iff.mp H
                            obtain ⟨⟨t186, t187⟩, A460, H⟩ := H
                            replace H : (if t180 = true then (some false) else (if t182 = true then (some false) else (if t184 = true then (some false) else (if t187 = true then (some false) else ((postilionlaw15_wakes.f kj30).bind fun t188 => (some t188)))))) = some r := H
                            have A46 := Aside0.mk A460
                            clear A460
                            by_cases c47 : t180 = true
                            · subst c47
                              have H1 : (some false) = some r := by rw [if_pos rfl] at H; exact H
                              clear H
                              have H := H1
                              clear H1
                              obtain rfl := Option.some.inj H
                              cases hT
                            · replace c47 := Bool.eq_false_iff.mpr c47
                              subst c47
                              have H1 : (if t182 = true then (some false) else (if t184 = true then (some false) else (if t187 = true then (some false) else ((postilionlaw15_wakes.f kj30).bind fun t188 => (some t188))))) = some r := by rw [if_neg (show ¬ (false = true) by decide)] at H; exact H
                              clear H
                              have H := H1
                              clear H1
                              by_cases c48 : t182 = true
                              · subst c48
                                have H1 : (some false) = some r := by rw [if_pos rfl] at H; exact H
                                clear H
                                have H := H1
                                clear H1
                                obtain rfl := Option.some.inj H
                                cases hT
                              · replace c48 := Bool.eq_false_iff.mpr c48
                                subst c48
                                have H1 : (if t184 = true then (some false) else (if t187 = true then (some false) else ((postilionlaw15_wakes.f kj30).bind fun t188 => (some t188)))) = some r := by rw [if_neg (show ¬ (false = true) by decide)] at H; exact H
                                clear H
                                have H := H1
                                clear H1
                                by_cases c49 : t184 = true
                                · subst c49
                                  have H1 : (some false) = some r := by rw [if_pos rfl] at H; exact H
                                  clear H
                                  have H := H1
                                  clear H1
                                  obtain rfl := Option.some.inj H
                                  cases hT
                                · replace c49 := Bool.eq_false_iff.mpr c49
                                  subst c49
                                  have H1 : (if t187 = true then (some false) else ((postilionlaw15_wakes.f kj30).bind fun t188 => (some t188))) = some r := by rw [if_neg (show ¬ (false = true) by decide)] at H; exact H
                                  clear H
                                  have H := H1
                                  clear H1
                                  by_cases c50 : t187 = true
                                  · subst c50
                                    have H1 : (some false) = some r := by rw [if_pos rfl] at H; exact H
                                    clear H
                                    have H := H1
                                    clear H1
                                    obtain rfl := Option.some.inj H
                                    cases hT
                                  · replace c50 := Bool.eq_false_iff.mpr c50
                                    subst c50
                                    have H1 : ((postilionlaw15_wakes.f kj30).bind fun t188 => (some t188)) = some r := by rw [if_neg (show ¬ (false = true) by decide)] at H; exact H
                                    clear H
                                    have H := H1
                                    clear H1
                                    replace H := Option.bind_eq_some_iff.mp H
                                    obtain ⟨t188, A510, H⟩ := H
                                    replace H : (some t188) = some r := H
                                    have A51 := Aside0.mk A510
                                    clear A510
                                    obtain rfl := Option.some.inj H
                                    go_wp2_with (first | ((with_reducible refine gate_callee (f := 11) rfl ?_); refine goesL_ (some 84) rfl rfl Tryd.func11 (by kernel_rfl) rfl #[.int .i64 a2, .int .i64 30] rfl (by (try simp only [List.map_toArray, List.map_cons, List.map_nil]); first | done | rfl | (simp only [List.length_drop, List.length_take]; rfl)) ?_; (with_reducible refine (postilionkeep_Within.calls a2 30 t178 _ A40.out).mono ?_); rintro e w' ⟨rfl, ⟨nd, rfl⟩⟩; refine ⟨_, rfl, ?_⟩; (try (rw [drewN_self wc]; generalize hq_ : World.drewN wc _ = wc; have n0_ : Aside0 (Kd.R k26 26 wc w.heap.size (fun _ => True) (.slice Ao34 y173.length co34) y173) := ⟨by rw [← hq_]; exact (by (with_reducible repeat (first | apply Kd.R_alloc | apply Kd.R_drewN | apply Kd.R_drew)); exact HO_170001.out)⟩; have n1_ : Aside0 (wc.heap[gb169]? = some (.cells #[.int .i64 206, .slice Ao34 y173.length co34, .string (strOfNums t166), .bool false] 45 (0, 0))) := ⟨by rw [← hq_]; exact (by (with_reducible repeat (first | refine blk_drewN ?_ _ | refine blk_drew ?_ | refine blk_alloc ?_ _)); exact BK169.out)⟩; have n2_ : Aside0 (Below w.heap.size w wc) := ⟨by rw [← hq_]; exact (by repeat (first | (with_reducible first | exact HB.out | apply below_alloc | apply pw_below_drewN | apply below_drew1 | refine below_set ?_ GE169.out) | exact HB.out))⟩; clear HO_170001 BK169 HB hq_; have HO_170001 := n0_; have BK169 := n1_; have HB := n2_; clear n0_ n1_ n2_)); have hcz52_0 : wc.cell? ⟨gb169, 0, none⟩ = some (.int .i64 206) := (blk_cell BK169.out 0).trans rfl; have hcz52_1 : wc.cell? ⟨gb169, 1, none⟩ = some (.slice Ao34 y173.length co34) := (blk_cell BK169.out 1).trans rfl; have hcz52_2 : wc.cell? ⟨gb169, 2, none⟩ = some (.string (strOfNums t166)) := (blk_cell BK169.out 2).trans rfl; have hcz52_3 : wc.cell? ⟨gb169, 3, none⟩ = some (.bool false) := (blk_cell BK169.out 3).trans rfl; have hfz52_0 := blk_frozen BK169.out 0; have hfz52_1 := blk_frozen BK169.out 1; have hfz52_2 := blk_frozen BK169.out 2; have hfz52_3 := blk_frozen BK169.out 3) | ((with_reducible refine gate_callee (f := 19) rfl ?_); refine goesL_ (some 91) rfl rfl Tryd.func19 (by kernel_rfl) rfl #[.agg #[.int .i64 206, .slice Ao34 y173.length co34, .string (strOfNums t166), .bool false], .int .i64 (wrap64 (t159 + (wrap64 (1 + t178)))), .string (⟨#[34, 118, 49, 34]⟩ : ByteArray)] rfl (by (try simp only [List.map_toArray, List.map_cons, List.map_nil]); first | done | rfl | (simp only [List.length_drop, List.length_take]; rfl)) ?_; (with_reducible refine (part_Fits.calls kj30 206 _ _ y173 (strOfNums t166) false (wrap64 (t159 + (wrap64 (1 + t178)))) (⟨#[34, 118, 49, 34]⟩ : ByteArray) t179 false _ ?side1 ?side2 ?side3 A41.out).mono ?_); (case side1 => exact Gl.below hG (by repeat (first | (with_reducible first | exact HB.out | apply below_alloc | apply pw_below_drewN | apply below_drew1 | refine below_set ?_ GE169.out) | exact HB.out))); (case side2 => repeat (first | exact (Kd.R_reads' HO_170001.out).2.2 | (with_reducible refine Kd.C_alloc ?_ _) | (with_reducible refine Kd.C_drewN ?_ _) | (with_reducible refine Kd.C_drew ?_))); (case side3 => exact (Kd.R_reads' HO_170001.out).2.1); rintro e w53 ⟨rfl, hb⟩; refine ⟨_, rfl, ?_⟩; have n0_ := Aside0.mk (Kd.R_below (by (with_reducible repeat (first | apply Kd.R_alloc | apply Kd.R_drewN | apply Kd.R_drew)); exact HO_170001.out) hb); have n1_ := Aside0.mk (blk_below (g := gb169) (o := .cells #[.int .i64 206, .slice Ao34 y173.length co34, .string (strOfNums t166), .bool false] 45 (0, 0)) (by (with_reducible repeat (first | refine blk_drewN ?_ _ | refine blk_drew ?_ | refine blk_alloc ?_ _)); exact BK169.out) hb); have n2_ := Aside0.mk (below_step (by repeat (first | (with_reducible first | exact HB.out | apply below_alloc | apply pw_below_drewN | apply below_drew1 | refine below_set ?_ GE169.out) | exact HB.out)) hb); clear HO_170001; clear BK169; clear HB; have HO_170001 := n0_; have BK169 := n1_; have HB := n2_; clear n0_ n1_ n2_; (try clear hb); (try clear hb2); (try clear hk); (try clear hi); have hcz54_0 : w53.cell? ⟨gb169, 0, none⟩ = some (.int .i64 206) := (blk_cell BK169.out 0).trans rfl; have hcz54_1 : w53.cell? ⟨gb169, 1, none⟩ = some (.slice Ao34 y173.length co34) := (blk_cell BK169.out 1).trans rfl; have hcz54_2 : w53.cell? ⟨gb169, 2, none⟩ = some (.string (strOfNums t166)) := (blk_cell BK169.out 2).trans rfl; have hcz54_3 : w53.cell? ⟨gb169, 3, none⟩ = some (.bool false) := (blk_cell BK169.out 3).trans rfl; have hfz54_0 := blk_frozen BK169.out 0; have hfz54_1 := blk_frozen BK169.out 1; have hfz54_2 := blk_frozen BK169.out 2; have hfz54_3 := blk_frozen BK169.out 3) | ((with_reducible refine gate_callee (f := 19) rfl ?_); refine goesL_ (some 97) rfl rfl Tryd.func19 (by kernel_rfl) rfl #[.agg #[.int .i64 206, .slice Ao34 y173.length co34, .string (strOfNums t166), .bool false], .int .i64 t159, .string (⟨#[34, 118, 50, 34]⟩ : ByteArray)] rfl (by (try simp only [List.map_toArray, List.map_cons, List.map_nil]); first | done | rfl | (simp only [List.length_drop, List.length_take]; rfl)) ?_; (with_reducible refine (part_Fits.calls kj30 206 _ _ y173 (strOfNums t166) false t159 (⟨#[34, 118, 50, 34]⟩ : ByteArray) t181 false _ ?side1 ?side2 ?side3 A42.out).mono ?_); (case side1 => exact Gl.below hG (by repeat (first | (with_reducible first | exact HB.out | apply below_alloc | apply pw_below_drewN | apply below_drew1 | refine below_set ?_ GE169.out) | exact HB.out))); (case side2 => repeat (first | exact (Kd.R_reads' HO_170001.out).2.2 | (with_reducible refine Kd.C_alloc ?_ _) | (with_reducible refine Kd.C_drewN ?_ _) | (with_reducible refine Kd.C_drew ?_))); (case side3 => exact (Kd.R_reads' HO_170001.out).2.1); rintro e w55 ⟨rfl, hb⟩; refine ⟨_, rfl, ?_⟩; have n0_ := Aside0.mk (Kd.R_below (by (with_reducible repeat (first | apply Kd.R_alloc | apply Kd.R_drewN | apply Kd.R_drew)); exact HO_170001.out) hb); have n1_ := Aside0.mk (blk_below (g := gb169) (o := .cells #[.int .i64 206, .slice Ao34 y173.length co34, .string (strOfNums t166), .bool false] 45 (0, 0)) (by (with_reducible repeat (first | refine blk_drewN ?_ _ | refine blk_drew ?_ | refine blk_alloc ?_ _)); exact BK169.out) hb); have n2_ := Aside0.mk (below_step (by repeat (first | (with_reducible first | exact HB.out | apply below_alloc | apply pw_below_drewN | apply below_drew1 | refine below_set ?_ GE169.out) | exact HB.out)) hb); clear HO_170001; clear BK169; clear HB; have HO_170001 := n0_; have BK169 := n1_; have HB := n2_; clear n0_ n1_ n2_; (try clear hb); (try clear hb2); (try clear hk); (try clear hi); have hcz56_0 : w55.cell? ⟨gb169, 0, none⟩ = some (.int .i64 206) := (blk_cell BK169.out 0).trans rfl; have hcz56_1 : w55.cell? ⟨gb169, 1, none⟩ = some (.slice Ao34 y173.length co34) := (blk_cell BK169.out 1).trans rfl; have hcz56_2 : w55.cell? ⟨gb169, 2, none⟩ = some (.string (strOfNums t166)) := (blk_cell BK169.out 2).trans rfl; have hcz56_3 : w55.cell? ⟨gb169, 3, none⟩ = some (.bool false) := (blk_cell BK169.out 3).trans rfl; have hfz56_0 := blk_frozen BK169.out 0; have hfz56_1 := blk_frozen BK169.out 1; have hfz56_2 := blk_frozen BK169.out 2; have hfz56_3 := blk_frozen BK169.out 3) | ((with_reducible refine gate_callee (f := 19) rfl ?_); refine goesL_ (some 103) rfl rfl Tryd.func19 (by kernel_rfl) rfl #[.agg #[.int .i64 206, .slice Ao34 y173.length co34, .string (strOfNums t166), .bool false], .int .i64 t159, .string (⟨#[]⟩ : ByteArray)] rfl (by (try simp only [List.map_toArray, List.map_cons, List.map_nil]); first | done | rfl | (simp only [List.length_drop, List.length_take]; rfl)) ?_; (with_reducible refine (part_Fits.calls kj30 206 _ _ y173 (strOfNums t166) false t159 (⟨#[]⟩ : ByteArray) t183 false _ ?side1 ?side2 ?side3 A43.out).mono ?_); (case side1 => exact Gl.below hG (by repeat (first | (with_reducible first | exact HB.out | apply below_alloc | apply pw_below_drewN | apply below_drew1 | refine below_set ?_ GE169.out) | exact HB.out))); (case side2 => repeat (first | exact (Kd.R_reads' HO_170001.out).2.2 | (with_reducible refine Kd.C_alloc ?_ _) | (with_reducible refine Kd.C_drewN ?_ _) | (with_reducible refine Kd.C_drew ?_))); (case side3 => exact (Kd.R_reads' HO_170001.out).2.1); rintro e w57 ⟨rfl, hb⟩; refine ⟨_, rfl, ?_⟩; have n0_ := Aside0.mk (Kd.R_below (by (with_reducible repeat (first | apply Kd.R_alloc | apply Kd.R_drewN | apply Kd.R_drew)); exact HO_170001.out) hb); have n1_ := Aside0.mk (blk_below (g := gb169) (o := .cells #[.int .i64 206, .slice Ao34 y173.length co34, .string (strOfNums t166), .bool false] 45 (0, 0)) (by (with_reducible repeat (first | refine blk_drewN ?_ _ | refine blk_drew ?_ | refine blk_alloc ?_ _)); exact BK169.out) hb); have n2_ := Aside0.mk (below_step (by repeat (first | (with_reducible first | exact HB.out | apply below_alloc | apply pw_below_drewN | apply below_drew1 | refine below_set ?_ GE169.out) | exact HB.out)) hb); clear HO_170001; clear BK169; clear HB; have HO_170001 := n0_; have BK169 := n1_; have HB := n2_; clear n0_ n1_ n2_; (try clear hb); (try clear hb2); (try clear hk); (try clear hi)) | ((with_reducible refine gate_callee (f := 11) rfl ?_); refine goesL_ (some 107) rfl rfl Tryd.func11 (by kernel_rfl) rfl #[.int .i64 a3, .int .i64 4] rfl (by (try simp only [List.map_toArray, List.map_cons, List.map_nil]); first | done | rfl | (simp only [List.length_drop, List.length_take]; rfl)) ?_; (with_reducible refine (postilionkeep_Within.calls a3 4 t185 _ A44.out).mono ?_); rintro e w' ⟨rfl, ⟨nd, rfl⟩⟩; refine ⟨_, rfl, ?_⟩; (try (rw [drewN_self w57]; generalize hq_ : World.drewN w57 _ = w57; have n0_ : Aside0 (Kd.R k26 26 w57 w.heap.size (fun _ => True) (.slice Ao34 y173.length co34) y173) := ⟨by rw [← hq_]; exact (by (with_reducible repeat (first | apply Kd.R_alloc | apply Kd.R_drewN | apply Kd.R_drew)); exact HO_170001.out)⟩; have n1_ : Aside0 (w57.heap[gb169]? = some (.cells #[.int .i64 206, .slice Ao34 y173.length co34, .string (strOfNums t166), .bool false] 45 (0, 0))) := ⟨by rw [← hq_]; exact (by (with_reducible repeat (first | refine blk_drewN ?_ _ | refine blk_drew ?_ | refine blk_alloc ?_ _)); exact BK169.out)⟩; have n2_ : Aside0 (Below w.heap.size w w57) := ⟨by rw [← hq_]; exact (by repeat (first | (with_reducible first | exact HB.out | apply below_alloc | apply pw_below_drewN | apply below_drew1 | refine below_set ?_ GE169.out) | exact HB.out))⟩; clear HO_170001 BK169 HB hq_; have HO_170001 := n0_; have BK169 := n1_; have HB := n2_; clear n0_ n1_ n2_)); have hcz58_0 : w57.cell? ⟨gb169, 0, none⟩ = some (.int .i64 206) := (blk_cell BK169.out 0).trans rfl; have hcz58_1 : w57.cell? ⟨gb169, 1, none⟩ = some (.slice Ao34 y173.length co34) := (blk_cell BK169.out 1).trans rfl; have hcz58_2 : w57.cell? ⟨gb169, 2, none⟩ = some (.string (strOfNums t166)) := (blk_cell BK169.out 2).trans rfl; have hcz58_3 : w57.cell? ⟨gb169, 3, none⟩ = some (.bool false) := (blk_cell BK169.out 3).trans rfl; have hfz58_0 := blk_frozen BK169.out 0; have hfz58_1 := blk_frozen BK169.out 1; have hfz58_2 := blk_frozen BK169.out 2; have hfz58_3 := blk_frozen BK169.out 3) | ((with_reducible refine gate_callee (f := 19) rfl ?_); refine goesL_ (some 150) rfl rfl Tryd.func19 (by kernel_rfl) rfl #[.agg #[.int .i64 200, .slice Ao34 y173.length co34, .string (strOfNums t166), .bool false], .int .i64 t159, .string (⟨#[34, 118, 49, 34]⟩ : ByteArray)] rfl (by (try simp only [List.map_toArray, List.map_cons, List.map_nil]); first | done | rfl | (simp only [List.length_drop, List.length_take]; rfl)) ?_; (with_reducible refine (part_Fits.calls kj30 200 _ _ y173 (strOfNums t166) false t159 (⟨#[34, 118, 49, 34]⟩ : ByteArray) t186 false _ ?side1 ?side2 ?side3 A46.out).mono ?_); (case side1 => exact Gl.below hG (by repeat (first | (with_reducible first | exact HB.out | apply below_alloc | apply pw_below_drewN | apply below_drew1 | refine below_set ?_ GE169.out) | exact HB.out))); (case side2 => refine (Kd.R_reads' (e := 26) (base := w.heap.size) (ok := fun k_ => True) (n := y173.length) (c := co34) ?_).2.2; exact (by (with_reducible repeat (first | apply Kd.R_alloc | apply Kd.R_drewN | apply Kd.R_drew)); exact (Kd.R_mono (Kd.R_far (p := ⟨gb169, 0, none⟩) (Kd.R_types HO_170001.out BK169.out (by decide)) (fun _ hk => hk.2) (.int .i64 200)) (fun _ h_ => h_.1)))); (case side3 => exact (Kd.R_reads' HO_170001.out).2.1); rintro e w59 ⟨rfl, hb⟩; refine ⟨_, rfl, ?_⟩; have n0_ := Aside0.mk (Kd.R_below (by (with_reducible repeat (first | apply Kd.R_alloc | apply Kd.R_drewN | apply Kd.R_drew)); exact (Kd.R_mono (Kd.R_far (p := ⟨gb169, 0, none⟩) (Kd.R_types HO_170001.out BK169.out (by decide)) (fun _ hk => hk.2) (.int .i64 200)) (fun _ h_ => h_.1))) hb); have n1_ := Aside0.mk (blk_below (g := gb169) (o := .cells #[.int .i64 200, .slice Ao34 y173.length co34, .string (strOfNums t166), .bool false] 45 (0, 0)) (by (with_reducible repeat (first | refine blk_drewN ?_ _ | refine blk_drew ?_ | refine blk_alloc ?_ _)); refine blk_put (cs := #[.int .i64 206, .slice Ao34 y173.length co34, .string (strOfNums t166), .bool false]) ?_ 0 _ rfl; (with_reducible repeat (first | refine blk_drewN ?_ _ | refine blk_drew ?_ | refine blk_alloc ?_ _)); exact BK169.out) hb); have n2_ := Aside0.mk (below_step (by repeat (first | (with_reducible first | exact HB.out | apply below_alloc | apply pw_below_drewN | apply below_drew1 | refine below_set ?_ GE169.out) | exact HB.out)) hb); clear HO_170001; clear BK169; clear HB; have HO_170001 := n0_; have BK169 := n1_; have HB := n2_; clear n0_ n1_ n2_; (try clear hb); (try clear hb2); (try clear hk); (try clear hi)) | (go_at_call 14; (with_reducible refine (postilionlaw15_wakes.calls kj30  t188 _ ?side1 A51.out).mono ?_); (case side1 => exact Gl.below hG (by repeat (first | (with_reducible first | exact HB.out | apply below_alloc | apply pw_below_drewN | apply below_drew1 | refine below_set ?_ GE169.out) | exact HB.out))); rintro e w60 ⟨rfl, hb⟩; have n0_ := Aside0.mk (Kd.R_below (by (with_reducible repeat (first | apply Kd.R_alloc | apply Kd.R_drewN | apply Kd.R_drew)); exact HO_170001.out) hb); have n1_ := Aside0.mk (blk_below (g := gb169) (o := .cells #[.int .i64 200, .slice Ao34 y173.length co34, .string (strOfNums t166), .bool false] 45 (0, 0)) (by (with_reducible repeat (first | refine blk_drewN ?_ _ | refine blk_drew ?_ | refine blk_alloc ?_ _)); exact BK169.out) hb); have n2_ := Aside0.mk (below_step (by repeat (first | (with_reducible first | exact HB.out | apply below_alloc | apply pw_below_drewN | apply below_drew1 | refine below_set ?_ GE169.out) | exact HB.out)) hb); clear HO_170001; clear BK169; clear HB; have HO_170001 := n0_; have BK169 := n1_; have HB := n2_; clear n0_ n1_ n2_; (try clear hb); (try clear hb2); (try clear hk); (try clear hi)))
                                    go_ret
                                    exact ⟨by first | rfl | (simp [errW_none, errW_some] <;> rfl) | (simp [*, errW_none, errW_some] <;> rfl), by repeat (first | (with_reducible first | exact HB.out | apply below_alloc | apply pw_below_drewN | apply below_drew1 | refine below_set ?_ GE169.out) | exact HB.out)⟩
                          · rw [if_neg c45] at H
                            have c45b0 : (t185 == 0) = false := beq_eq_false_iff_ne.mpr c45
                            have c45b1 : (t185 != 0) = true := bne_iff_ne.mpr c45
                            by_cases c61 : t185 = 1
                            · rw [if_pos c61] at H
                              have c61b0 : (t185 == 1) = true := beq_iff_eq.mpr c61
                              have c61b1 : (t185 != 1) = false := bne_eq_false_iff_eq.mpr c61
                              clear c61
                              replace H := Option.bind_eq_some_iff.mp H
                              obtain ⟨t189, A620, H⟩ := H
                              replace H : (if 6 + t189.size ≤ 9223372036854775807 then (if 6 + t189.size + 1 ≤ 9223372036854775807 then ((postilionref01_Digits.f (wrap64 ((wrap64 (1 + t158)) - 1))).bind fun t190 => (if 6 + t189.size + 1 + t190.size ≤ 9223372036854775807 then (if 6 + t189.size + 1 + t190.size + 1 ≤ 9223372036854775807 then ((postilionref01_Digits.f (wrap64 ((wrap64 (1 + t158)) + (wrap64 (1 + t178))))).bind fun t191 => (if 6 + t189.size + 1 + t190.size + 1 + t191.size ≤ 9223372036854775807 then (if 1 < (y173.length : Int) then ((part_Fits.f kj30 206 (y173.set (1 : Int).toNat (⟨(rd_T26 y173 1).f0, (((((⟨#[98, 121, 116, 101, 115, 32]⟩ : ByteArray) ++ t189) ++ (⟨#[45]⟩ : ByteArray)) ++ t190) ++ (⟨#[47]⟩ : ByteArray)) ++ t191⟩ : S26)) (strOfNums t166) false t159 (⟨#[34, 118, 49, 34]⟩ : ByteArray)).bind fun bt193 => (if t180 = true then (some false) else (if t182 = true then (some false) else (if t184 = true then (some false) else (if bt193.2 = true then (some false) else ((postilionlaw15_wakes.f kj30).bind fun t195 => (some t195))))))) else (none)) else (none))) else (none)) else (none))) else (none)) else (none)) = some r := H
                              have A62 := Aside0.mk A620
                              clear A620
                              by_cases c63 : 6 + t189.size ≤ 9223372036854775807
                              · rw [if_pos c63] at H
                                have c63b0 := eq_true c63
                                have c63b1 : decide (6 + t189.size ≤ 9223372036854775807) = true := decide_eq_true c63
                                try have c63b2 : (9223372036854775807 < 6 + t189.size) = False := eq_false (Nat.not_lt.2 c63)
                                by_cases c64 : 6 + t189.size + 1 ≤ 9223372036854775807
                                · rw [if_pos c64] at H
                                  have c64b0 := eq_true c64
                                  have c64b1 : decide (6 + t189.size + 1 ≤ 9223372036854775807) = true := decide_eq_true c64
                                  try have c64b2 : (9223372036854775807 < 6 + t189.size + 1) = False := eq_false (Nat.not_lt.2 c64)
                                  replace H := Option.bind_eq_some_iff.mp H
                                  obtain ⟨t190, A650, H⟩ := H
                                  replace H : (if 6 + t189.size + 1 + t190.size ≤ 9223372036854775807 then (if 6 + t189.size + 1 + t190.size + 1 ≤ 9223372036854775807 then ((postilionref01_Digits.f (wrap64 ((wrap64 (1 + t158)) + (wrap64 (1 + t178))))).bind fun t191 => (if 6 + t189.size + 1 + t190.size + 1 + t191.size ≤ 9223372036854775807 then (if 1 < (y173.length : Int) then ((part_Fits.f kj30 206 (y173.set (1 : Int).toNat (⟨(rd_T26 y173 1).f0, (((((⟨#[98, 121, 116, 101, 115, 32]⟩ : ByteArray) ++ t189) ++ (⟨#[45]⟩ : ByteArray)) ++ t190) ++ (⟨#[47]⟩ : ByteArray)) ++ t191⟩ : S26)) (strOfNums t166) false t159 (⟨#[34, 118, 49, 34]⟩ : ByteArray)).bind fun bt193 => (if t180 = true then (some false) else (if t182 = true then (some false) else (if t184 = true then (some false) else (if bt193.2 = true then (some false) else ((postilionlaw15_wakes.f kj30).bind fun t195 => (some t195))))))) else (none)) else (none))) else (none)) else (none)) = some r := H
                                  have A65 := Aside0.mk A650
                                  clear A650
                                  by_cases c66 : 6 + t189.size + 1 + t190.size ≤ 9223372036854775807
                                  · rw [if_pos c66] at H
                                    have c66b0 := eq_true c66
                                    have c66b1 : decide (6 + t189.size + 1 + t190.size ≤ 9223372036854775807) = true := decide_eq_true c66
                                    try have c66b2 : (9223372036854775807 < 6 + t189.size + 1 + t190.size) = False := eq_false (Nat.not_lt.2 c66)
                                    by_cases c67 : 6 + t189.size + 1 + t190.size + 1 ≤ 9223372036854775807
                                    · rw [if_pos c67] at H
                                      have c67b0 := eq_true c67
                                      have c67b1 : decide (6 + t189.size + 1 + t190.size + 1 ≤ 9223372036854775807) = true := decide_eq_true c67
                                      try have c67b2 : (9223372036854775807 < 6 + t189.size + 1 + t190.size + 1) = False := eq_false (Nat.not_lt.2 c67)
                                      replace H := Option.bind_eq_some_iff.mp H
                                      obtain ⟨t191, A680, H⟩ := H
                                      replace H : (if 6 + t189.size + 1 + t190.size + 1 + t191.size ≤ 9223372036854775807 then (if 1 < (y173.length : Int) then ((part_Fits.f kj30 206 (y173.set (1 : Int).toNat (⟨(rd_T26 y173 1).f0, (((((⟨#[98, 121, 116, 101, 115, 32]⟩ : ByteArray) ++ t189) ++ (⟨#[45]⟩ : ByteArray)) ++ t190) ++ (⟨#[47]⟩ : ByteArray)) ++ t191⟩ : S26)) (strOfNums t166) false t159 (⟨#[34, 118, 49, 34]⟩ : ByteArray)).bind fun bt193 => (if t180 = true then (some false) else (if t182 = true then (some false) else (if t184 = true then (some false) else (if bt193.2 = true then (some false) else ((postilionlaw15_wakes.f kj30).bind fun t195 => (some t195))))))) else (none)) else (none)) = some r := H
                                      have A68 := Aside0.mk A680
                                      clear A680
                                      by_cases c69 : 6 + t189.size + 1 + t190.size + 1 + t191.size ≤ 9223372036854775807
                                      · rw [if_pos c69] at H
                                        have c69b0 := eq_true c69
                                        have c69b1 : decide (6 + t189.size + 1 + t190.size + 1 + t191.size ≤ 9223372036854775807) = true := decide_eq_true c69
                                        try have c69b2 : (9223372036854775807 < 6 + t189.size + 1 + t190.size + 1 + t191.size) = False := eq_false (Nat.not_lt.2 c69)
                                        by_cases c70 : 1 < (y173.length : Int)
                                        · rw [if_pos c70] at H
                                          have c70b0 : decide (1 < (y173.length : Int)) = true := decide_eq_true c70
                                          have c70b1 : decide (1 < y173.length) = true := decide_eq_true (by omega)
                                          clear c70
                                          obtain ⟨y192, hy192⟩ : ∃ y_ : List (S26), y_ = (y173.set (1 : Int).toNat (⟨(rd_T26 y173 1).f0, (((((⟨#[98, 121, 116, 101, 115, 32]⟩ : ByteArray) ++ t189) ++ (⟨#[45]⟩ : ByteArray)) ++ t190) ++ (⟨#[47]⟩ : ByteArray)) ++ t191⟩ : S26)) := ⟨_, rfl⟩
                                          replace H : ((part_Fits.f kj30 206 y192 (strOfNums t166) false t159 (⟨#[34, 118, 49, 34]⟩ : ByteArray)).bind fun bt193 => (if t180 = true then (some false) else (if t182 = true then (some false) else (if t184 = true then (some false) else (if bt193.2 = true then (some false) else ((postilionlaw15_wakes.f kj30).bind fun t195 => (some t195))))))) = some r := by first | (rw [hy192]; with_reducible exact H) | (have H2_ := (Option.bind_some _ _).symm.trans H; rw [hy192]; with_reducible exact H2_) | (have H2_ := (Option.bind_some _ _).symm.trans H; with_reducible exact H2_) | with_reducible exact H | (rw [hy192]; exact H) | exact H
                                          have Ny192 := Aside0.mk hy192
                                          clear hy192
                                          replace H := Option.bind_eq_some_iff.mp H
                                          obtain ⟨⟨t193, t194⟩, A720, H⟩ := H
                                          replace H : (if t180 = true then (some false) else (if t182 = true then (some false) else (if t184 = true then (some false) else (if t194 = true then (some false) else ((postilionlaw15_wakes.f kj30).bind fun t195 => (some t195)))))) = some r := H
                                          have A72 := Aside0.mk A720
                                          clear A720
                                          by_cases c73 : t180 = true
                                          · subst c73
                                            have H1 : (some false) = some r := by rw [if_pos rfl] at H; exact H
                                            clear H
                                            have H := H1
                                            clear H1
                                            obtain rfl := Option.some.inj H
                                            cases hT
                                          · replace c73 := Bool.eq_false_iff.mpr c73
                                            subst c73
                                            have H1 : (if t182 = true then (some false) else (if t184 = true then (some false) else (if t194 = true then (some false) else ((postilionlaw15_wakes.f kj30).bind fun t195 => (some t195))))) = some r := by rw [if_neg (show ¬ (false = true) by decide)] at H; exact H
                                            clear H
                                            have H := H1
                                            clear H1
                                            by_cases c74 : t182 = true
                                            · subst c74
                                              have H1 : (some false) = some r := by rw [if_pos rfl] at H; exact H
                                              clear H
                                              have H := H1
                                              clear H1
                                              obtain rfl := Option.some.inj H
                                              cases hT
                                            · replace c74 := Bool.eq_false_iff.mpr c74
                                              subst c74
                                              have H1 : (if t184 = true then (some false) else (if t194 = true then (some false) else ((postilionlaw15_wakes.f kj30).bind fun t195 => (some t195)))) = some r := by rw [if_neg (show ¬ (false = true) by decide)] at H; exact H
                                              clear H
                                              have H := H1
                                              clear H1
                                              by_cases c75 : t184 = true
                                              · subst c75
                                                have H1 : (some false) = some r := by rw [if_pos rfl] at H; exact H
                                                clear H
                                                have H := H1
                                                clear H1
                                                obtain rfl := Option.some.inj H
                                                cases hT
                                              · replace c75 := Bool.eq_false_iff.mpr c75
                                                subst c75
                                                have H1 : (if t194 = true then (some false) else ((postilionlaw15_wakes.f kj30).bind fun t195 => (some t195))) = some r := by rw [if_neg (show ¬ (false = true) by decide)] at H; exact H
                                                clear H
                                                have H := H1
                                                clear H1
                                                by_cases c76 : t194 = true
                                                · subst c76
                                                  have H1 : (some false) = some r := by rw [if_pos rfl] at H; exact H
                                                  clear H
                                                  have H := H1
                                                  clear H1
                                                  obtain rfl := Option.some.inj H
                                                  cases hT
                                                · replace c76 := Bool.eq_false_iff.mpr c76
                                                  subst c76
                                                  have H1 : ((postilionlaw15_wakes.f kj30).bind fun t195 => (some t195)) = some r := by rw [if_neg (show ¬ (false = true) by decide)] at H; exact H
                                                  clear H
                                                  have H := H1
                                                  clear H1
                                                  replace H := Option.bind_eq_some_iff.mp H
                                                  obtain ⟨t195, A770, H⟩ := H
                                                  replace H : (some t195) = some r := H
                                                  have A77 := Aside0.mk A770
                                                  clear A770
                                                  obtain rfl := Option.some.inj H
                                                  try go_wp2_with (first | ((with_reducible refine gate_callee (f := 11) rfl ?_); refine goesL_ (some 84) rfl rfl Tryd.func11 (by kernel_rfl) rfl #[.int .i64 a2, .int .i64 30] rfl (by (try simp only [List.map_toArray, List.map_cons, List.map_nil]); first | done | rfl | (simp only [List.length_drop, List.length_take]; rfl)) ?_; (with_reducible refine (postilionkeep_Within.calls a2 30 t178 _ A40.out).mono ?_); rintro e w' ⟨rfl, ⟨nd, rfl⟩⟩; refine ⟨_, rfl, ?_⟩; (try (rw [drewN_self wc]; generalize hq_ : World.drewN wc _ = wc; have n0_ : Aside0 (Kd.R k26 26 wc w.heap.size (fun _ => True) (.slice Ao34 y173.length co34) y173) := ⟨by rw [← hq_]; exact (by (with_reducible repeat (first | apply Kd.R_alloc | apply Kd.R_drewN | apply Kd.R_drew)); exact HO_170001.out)⟩; have n1_ : Aside0 (wc.heap[gb169]? = some (.cells #[.int .i64 206, .slice Ao34 y173.length co34, .string (strOfNums t166), .bool false] 45 (0, 0))) := ⟨by rw [← hq_]; exact (by (with_reducible repeat (first | refine blk_drewN ?_ _ | refine blk_drew ?_ | refine blk_alloc ?_ _)); exact BK169.out)⟩; have n2_ : Aside0 (Below w.heap.size w wc) := ⟨by rw [← hq_]; exact (by repeat (first | (with_reducible first | exact HB.out | apply below_alloc | apply pw_below_drewN | apply below_drew1 | refine below_set ?_ GE169.out) | exact HB.out))⟩; clear HO_170001 BK169 HB hq_; have HO_170001 := n0_; have BK169 := n1_; have HB := n2_; clear n0_ n1_ n2_)); have hcz78_0 : wc.cell? ⟨gb169, 0, none⟩ = some (.int .i64 206) := (blk_cell BK169.out 0).trans rfl; have hcz78_1 : wc.cell? ⟨gb169, 1, none⟩ = some (.slice Ao34 y173.length co34) := (blk_cell BK169.out 1).trans rfl; have hcz78_2 : wc.cell? ⟨gb169, 2, none⟩ = some (.string (strOfNums t166)) := (blk_cell BK169.out 2).trans rfl; have hcz78_3 : wc.cell? ⟨gb169, 3, none⟩ = some (.bool false) := (blk_cell BK169.out 3).trans rfl; have hfz78_0 := blk_frozen BK169.out 0; have hfz78_1 := blk_frozen BK169.out 1; have hfz78_2 := blk_frozen BK169.out 2; have hfz78_3 := blk_frozen BK169.out 3) | ((with_reducible refine gate_callee (f := 19) rfl ?_); refine goesL_ (some 91) rfl rfl Tryd.func19 (by kernel_rfl) rfl #[.agg #[.int .i64 206, .slice Ao34 y173.length co34, .string (strOfNums t166), .bool false], .int .i64 (wrap64 (t159 + (wrap64 (1 + t178)))), .string (⟨#[34, 118, 49, 34]⟩ : ByteArray)] rfl (by (try simp only [List.map_toArray, List.map_cons, List.map_nil]); first | done | rfl | (simp only [List.length_drop, List.length_take]; rfl)) ?_; (with_reducible refine (part_Fits.calls kj30 206 _ _ y173 (strOfNums t166) false (wrap64 (t159 + (wrap64 (1 + t178)))) (⟨#[34, 118, 49, 34]⟩ : ByteArray) t179 false _ ?side1 ?side2 ?side3 A41.out).mono ?_); (case side1 => exact Gl.below hG (by repeat (first | (with_reducible first | exact HB.out | apply below_alloc | apply pw_below_drewN | apply below_drew1 | refine below_set ?_ GE169.out) | exact HB.out))); (case side2 => repeat (first | exact (Kd.R_reads' HO_170001.out).2.2 | (with_reducible refine Kd.C_alloc ?_ _) | (with_reducible refine Kd.C_drewN ?_ _) | (with_reducible refine Kd.C_drew ?_))); (case side3 => exact (Kd.R_reads' HO_170001.out).2.1); rintro e w79 ⟨rfl, hb⟩; refine ⟨_, rfl, ?_⟩; have n0_ := Aside0.mk (Kd.R_below (by (with_reducible repeat (first | apply Kd.R_alloc | apply Kd.R_drewN | apply Kd.R_drew)); exact HO_170001.out) hb); have n1_ := Aside0.mk (blk_below (g := gb169) (o := .cells #[.int .i64 206, .slice Ao34 y173.length co34, .string (strOfNums t166), .bool false] 45 (0, 0)) (by (with_reducible repeat (first | refine blk_drewN ?_ _ | refine blk_drew ?_ | refine blk_alloc ?_ _)); exact BK169.out) hb); have n2_ := Aside0.mk (below_step (by repeat (first | (with_reducible first | exact HB.out | apply below_alloc | apply pw_below_drewN | apply below_drew1 | refine below_set ?_ GE169.out) | exact HB.out)) hb); clear HO_170001; clear BK169; clear HB; have HO_170001 := n0_; have BK169 := n1_; have HB := n2_; clear n0_ n1_ n2_; (try clear hb); (try clear hb2); (try clear hk); (try clear hi); have hcz80_0 : w79.cell? ⟨gb169, 0, none⟩ = some (.int .i64 206) := (blk_cell BK169.out 0).trans rfl; have hcz80_1 : w79.cell? ⟨gb169, 1, none⟩ = some (.slice Ao34 y173.length co34) := (blk_cell BK169.out 1).trans rfl; have hcz80_2 : w79.cell? ⟨gb169, 2, none⟩ = some (.string (strOfNums t166)) := (blk_cell BK169.out 2).trans rfl; have hcz80_3 : w79.cell? ⟨gb169, 3, none⟩ = some (.bool false) := (blk_cell BK169.out 3).trans rfl; have hfz80_0 := blk_frozen BK169.out 0; have hfz80_1 := blk_frozen BK169.out 1; have hfz80_2 := blk_frozen BK169.out 2; have hfz80_3 := blk_frozen BK169.out 3) | ((with_reducible refine gate_callee (f := 19) rfl ?_); refine goesL_ (some 97) rfl rfl Tryd.func19 (by kernel_rfl) rfl #[.agg #[.int .i64 206, .slice Ao34 y173.length co34, .string (strOfNums t166), .bool false], .int .i64 t159, .string (⟨#[34, 118, 50, 34]⟩ : ByteArray)] rfl (by (try simp only [List.map_toArray, List.map_cons, List.map_nil]); first | done | rfl | (simp only [List.length_drop, List.length_take]; rfl)) ?_; (with_reducible refine (part_Fits.calls kj30 206 _ _ y173 (strOfNums t166) false t159 (⟨#[34, 118, 50, 34]⟩ : ByteArray) t181 false _ ?side1 ?side2 ?side3 A42.out).mono ?_); (case side1 => exact Gl.below hG (by repeat (first | (with_reducible first | exact HB.out | apply below_alloc | apply pw_below_drewN | apply below_drew1 | refine below_set ?_ GE169.out) | exact HB.out))); (case side2 => repeat (first | exact (Kd.R_reads' HO_170001.out).2.2 | (with_reducible refine Kd.C_alloc ?_ _) | (with_reducible refine Kd.C_drewN ?_ _) | (with_reducible refine Kd.C_drew ?_))); (case side3 => exact (Kd.R_reads' HO_170001.out).2.1); rintro e w81 ⟨rfl, hb⟩; refine ⟨_, rfl, ?_⟩; have n0_ := Aside0.mk (Kd.R_below (by (with_reducible repeat (first | apply Kd.R_alloc | apply Kd.R_drewN | apply Kd.R_drew)); exact HO_170001.out) hb); have n1_ := Aside0.mk (blk_below (g := gb169) (o := .cells #[.int .i64 206, .slice Ao34 y173.length co34, .string (strOfNums t166), .bool false] 45 (0, 0)) (by (with_reducible repeat (first | refine blk_drewN ?_ _ | refine blk_drew ?_ | refine blk_alloc ?_ _)); exact BK169.out) hb); have n2_ := Aside0.mk (below_step (by repeat (first | (with_reducible first | exact HB.out | apply below_alloc | apply pw_below_drewN | apply below_drew1 | refine below_set ?_ GE169.out) | exact HB.out)) hb); clear HO_170001; clear BK169; clear HB; have HO_170001 := n0_; have BK169 := n1_; have HB := n2_; clear n0_ n1_ n2_; (try clear hb); (try clear hb2); (try clear hk); (try clear hi); have hcz82_0 : w81.cell? ⟨gb169, 0, none⟩ = some (.int .i64 206) := (blk_cell BK169.out 0).trans rfl; have hcz82_1 : w81.cell? ⟨gb169, 1, none⟩ = some (.slice Ao34 y173.length co34) := (blk_cell BK169.out 1).trans rfl; have hcz82_2 : w81.cell? ⟨gb169, 2, none⟩ = some (.string (strOfNums t166)) := (blk_cell BK169.out 2).trans rfl; have hcz82_3 : w81.cell? ⟨gb169, 3, none⟩ = some (.bool false) := (blk_cell BK169.out 3).trans rfl; have hfz82_0 := blk_frozen BK169.out 0; have hfz82_1 := blk_frozen BK169.out 1; have hfz82_2 := blk_frozen BK169.out 2; have hfz82_3 := blk_frozen BK169.out 3) | ((with_reducible refine gate_callee (f := 19) rfl ?_); refine goesL_ (some 103) rfl rfl Tryd.func19 (by kernel_rfl) rfl #[.agg #[.int .i64 206, .slice Ao34 y173.length co34, .string (strOfNums t166), .bool false], .int .i64 t159, .string (⟨#[]⟩ : ByteArray)] rfl (by (try simp only [List.map_toArray, List.map_cons, List.map_nil]); first | done | rfl | (simp only [List.length_drop, List.length_take]; rfl)) ?_; (with_reducible refine (part_Fits.calls kj30 206 _ _ y173 (strOfNums t166) false t159 (⟨#[]⟩ : ByteArray) t183 false _ ?side1 ?side2 ?side3 A43.out).mono ?_); (case side1 => exact Gl.below hG (by repeat (first | (with_reducible first | exact HB.out | apply below_alloc | apply pw_below_drewN | apply below_drew1 | refine below_set ?_ GE169.out) | exact HB.out))); (case side2 => repeat (first | exact (Kd.R_reads' HO_170001.out).2.2 | (with_reducible refine Kd.C_alloc ?_ _) | (with_reducible refine Kd.C_drewN ?_ _) | (with_reducible refine Kd.C_drew ?_))); (case side3 => exact (Kd.R_reads' HO_170001.out).2.1); rintro e w83 ⟨rfl, hb⟩; refine ⟨_, rfl, ?_⟩; have n0_ := Aside0.mk (Kd.R_below (by (with_reducible repeat (first | apply Kd.R_alloc | apply Kd.R_drewN | apply Kd.R_drew)); exact HO_170001.out) hb); have n1_ := Aside0.mk (blk_below (g := gb169) (o := .cells #[.int .i64 206, .slice Ao34 y173.length co34, .string (strOfNums t166), .bool false] 45 (0, 0)) (by (with_reducible repeat (first | refine blk_drewN ?_ _ | refine blk_drew ?_ | refine blk_alloc ?_ _)); exact BK169.out) hb); have n2_ := Aside0.mk (below_step (by repeat (first | (with_reducible first | exact HB.out | apply below_alloc | apply pw_below_drewN | apply below_drew1 | refine below_set ?_ GE169.out) | exact HB.out)) hb); clear HO_170001; clear BK169; clear HB; have HO_170001 := n0_; have BK169 := n1_; have HB := n2_; clear n0_ n1_ n2_; (try clear hb); (try clear hb2); (try clear hk); (try clear hi)) | ((with_reducible refine gate_callee (f := 11) rfl ?_); refine goesL_ (some 107) rfl rfl Tryd.func11 (by kernel_rfl) rfl #[.int .i64 a3, .int .i64 4] rfl (by (try simp only [List.map_toArray, List.map_cons, List.map_nil]); first | done | rfl | (simp only [List.length_drop, List.length_take]; rfl)) ?_; (with_reducible refine (postilionkeep_Within.calls a3 4 t185 _ A44.out).mono ?_); rintro e w' ⟨rfl, ⟨nd, rfl⟩⟩; refine ⟨_, rfl, ?_⟩; (try (rw [drewN_self w83]; generalize hq_ : World.drewN w83 _ = w83; have n0_ : Aside0 (Kd.R k26 26 w83 w.heap.size (fun _ => True) (.slice Ao34 y173.length co34) y173) := ⟨by rw [← hq_]; exact (by (with_reducible repeat (first | apply Kd.R_alloc | apply Kd.R_drewN | apply Kd.R_drew)); exact HO_170001.out)⟩; have n1_ : Aside0 (w83.heap[gb169]? = some (.cells #[.int .i64 206, .slice Ao34 y173.length co34, .string (strOfNums t166), .bool false] 45 (0, 0))) := ⟨by rw [← hq_]; exact (by (with_reducible repeat (first | refine blk_drewN ?_ _ | refine blk_drew ?_ | refine blk_alloc ?_ _)); exact BK169.out)⟩; have n2_ : Aside0 (Below w.heap.size w w83) := ⟨by rw [← hq_]; exact (by repeat (first | (with_reducible first | exact HB.out | apply below_alloc | apply pw_below_drewN | apply below_drew1 | refine below_set ?_ GE169.out) | exact HB.out))⟩; clear HO_170001 BK169 HB hq_; have HO_170001 := n0_; have BK169 := n1_; have HB := n2_; clear n0_ n1_ n2_))))
                                                  have n0_ := Aside0.mk (Kd.R_drew HO_170001.out)
                                                  have n1_ := Aside0.mk (blk_drew BK169.out)
                                                  have n2_ := Aside0.mk (below_drew1 HB.out)
                                                  clear HO_170001
                                                  clear BK169
                                                  clear HB
                                                  have HO_170001 := n0_
                                                  have BK169 := n1_
                                                  have HB := n2_
                                                  clear n0_ n1_ n2_
                                                  refine start_ (n := 19) (S := fun w' => w'.cell? ⟨gb169, 0, none⟩ = some (.int .i64 206) ∧ w'.cell? ⟨gb169, 1, none⟩ = some (.slice Ao34 y173.length co34) ∧ w'.cell? ⟨gb169, 2, none⟩ = some (.string (strOfNums t166)) ∧ w'.cell? ⟨gb169, 3, none⟩ = some (.bool false)) (ds := [18]) #[false, false, false, false, false, false, false, false, false, false, false, false, false, false, false, false, false, false, false] (by kernel_rfl) rfl rfl ⟨(blk_cell BK169.out 0).trans rfl, (blk_cell BK169.out 1).trans rfl, (blk_cell BK169.out 2).trans rfl, (blk_cell BK169.out 3).trans rfl⟩ (fun hHeld => ?_); refine with_tabW postilionlaw15_PartFits.tab20 postilionlaw15_PartFits.bits20 (fun HT_ HW_ => ?_)
                                                  generalize w83.drew = w84 at HO_170001 BK169 HB hHeld ⊢
                                                  refine pure_ (i := 0) (N := some 117) (v := ?_) (a' := ?_) #[true, false, false, false, false, false, false, false, false, false, false, false, false, false, false, false, false, false, false] rfl rfl (any_of HT_.out (by kernel_rfl)) (fun _ _ _ h => h) (Or.inl ⟨by rfl, ?_⟩) ?_ ?_
                                                  rotate_left
                                                  · intro w'
                                                    go_simp
                                                    with_reducible rfl
                                                  rotate_left
                                                  · simp only [Act.put, List.setIfInBounds_toArray, List.set_cons_zero, List.set_cons_succ, i64_w, i32_w]
                                                    rfl
                                                  refine pure_ (i := 2) (N := some 119) (v := ?_) (a' := ?_) #[true, false, true, false, false, false, false, false, false, false, false, false, false, false, false, false, false, false, false] rfl rfl (any_of HT_.out (by kernel_rfl)) (fun _ _ _ h => h) (Or.inl ⟨by rfl, ?_⟩) ?_ ?_
                                                  rotate_left
                                                  · intro w'
                                                    go_simp
                                                    with_reducible rfl
                                                  rotate_left
                                                  · simp only [Act.put, List.setIfInBounds_toArray, List.set_cons_zero, List.set_cons_succ, i64_w, i32_w]
                                                    rfl
                                                  refine pure_ (i := 6) (N := some 123) (v := ?_) (a' := ?_) #[true, false, true, false, false, false, true, false, false, false, false, false, false, false, false, false, false, false, false] rfl rfl (any_of HT_.out (by kernel_rfl)) (fun _ _ _ h => h) (Or.inl ⟨by rfl, ?_⟩) ?_ ?_
                                                  rotate_left
                                                  · intro w'
                                                    go_simp
                                                    with_reducible rfl
                                                  rotate_left
                                                  · simp only [Act.put, List.setIfInBounds_toArray, List.set_cons_zero, List.set_cons_succ, i64_w, i32_w]
                                                    rfl
                                                  refine pure_ (i := 7) (N := some 124) (v := ?_) (a' := ?_) #[true, false, true, false, false, false, true, true, false, false, false, false, false, false, false, false, false, false, false] rfl rfl (any_of HT_.out (by kernel_rfl)) (fun _ _ _ h => h) (Or.inl ⟨by rfl, ?_⟩) ?_ ?_
                                                  rotate_left
                                                  · intro w'
                                                    go_simp
                                                    with_reducible rfl
                                                  rotate_left
                                                  · simp only [Act.put, List.setIfInBounds_toArray, List.set_cons_zero, List.set_cons_succ, i64_w, i32_w]
                                                    rfl
                                                  refine pure_ (i := 11) (N := some 128) (v := ?_) (a' := ?_) #[true, false, true, false, false, false, true, true, false, false, false, true, false, false, false, false, false, false, false] rfl rfl (any_of HT_.out (by kernel_rfl)) (fun _ _ _ h => h) (Or.inl ⟨by rfl, ?_⟩) ?_ ?_
                                                  rotate_left
                                                  · intro w'
                                                    go_simp
                                                    with_reducible rfl
                                                  rotate_left
                                                  · simp only [Act.put, List.setIfInBounds_toArray, List.set_cons_zero, List.set_cons_succ, i64_w, i32_w]
                                                    rfl
                                                  refine pure_ (i := 12) (N := some 129) (v := ?_) (a' := ?_) #[true, false, true, false, false, false, true, true, false, false, false, true, true, false, false, false, false, false, false] rfl rfl (any_of HT_.out (by kernel_rfl)) (fun _ _ _ h => h) (Or.inl ⟨by rfl, ?_⟩) ?_ ?_
                                                  rotate_left
                                                  · intro w'
                                                    go_simp
                                                    with_reducible rfl
                                                  rotate_left
                                                  · simp only [Act.put, List.setIfInBounds_toArray, List.set_cons_zero, List.set_cons_succ, i64_w, i32_w]
                                                    rfl
                                                  refine pure_ (i := 13) (N := some 130) (v := ?_) (a' := ?_) #[true, false, true, false, false, false, true, true, false, false, false, true, true, true, false, false, false, false, false] rfl rfl (any_of HT_.out (by kernel_rfl)) (fun _ _ _ h => h) (Or.inl ⟨by rfl, ?_⟩) ?_ ?_
                                                  rotate_left
                                                  · intro w'
                                                    go_simp
                                                    with_reducible rfl
                                                  rotate_left
                                                  · simp only [Act.put, List.setIfInBounds_toArray, List.set_cons_zero, List.set_cons_succ, i64_w, i32_w]
                                                    rfl
                                                  refine take_ (i := 1) (N := some 118) (v := ?_) (a' := ?_) #[true, true, true, false, false, false, true, true, false, false, false, true, true, true, false, false, false, false, false] rfl rfl (take_ofW HT_.out HW_.out (by kernel_rfl)) (fun _ _ _ h => h) (Or.inl ⟨by rfl, ?_⟩) hHeld ?_ ?_
                                                  rotate_left
                                                  · rintro w' ⟨s0, s1, s2, s3⟩
                                                    go_simp
                                                    with_reducible rfl
                                                  rotate_left
                                                  · simp only [Act.put, List.setIfInBounds_toArray, List.set_cons_zero, List.set_cons_succ, i64_w, i32_w]
                                                    rfl
                                                  refine one_ (i := 3) (N := some 120) #[true, true, true, true, false, false, true, true, false, false, false, true, true, true, false, false, false, false, false] rfl rfl (one_of HT_.out (by kernel_rfl)) (by decide) (fun K hK => ?_)
                                                  refine goes_ Tryd.func15 (by kernel_rfl) rfl #[.int .i64 t159] (by rfl) rfl rfl (by (try simp only [List.map_toArray, List.map_cons, List.map_nil]); first | done | rfl | (simp only [List.length_drop, List.length_take]; rfl)) ?_
                                                  with_reducible refine (postilionref01_Digits.calls t159 t189 _ A62.out).mono ?_
                                                  rintro e w' ⟨rfl, ⟨nd, rfl⟩⟩
                                                  refine ⟨_, rfl, ?_⟩
                                                  refine hK.out _ _ ⟨(blk_cell BK169.out 0).trans rfl, (blk_cell BK169.out 1).trans rfl, (blk_cell BK169.out 2).trans rfl, (blk_cell BK169.out 3).trans rfl⟩ (fun hHeld => ?_)
                                                  clear hK K
                                                  refine norm_ (a' := ?_) ?_ ?_
                                                  rotate_left
                                                  · show Act.put _ (some 120) _ = _
                                                    simp only [Act.put, List.setIfInBounds_toArray, List.set_cons_zero, List.set_cons_succ, i64_w, i32_w]
                                                    rfl
                                                  refine pure_ (i := 4) (N := some 121) (v := ?_) (a' := ?_) #[true, true, true, true, true, false, true, true, false, false, false, true, true, true, false, false, false, false, false] rfl rfl (any_of HT_.out (by kernel_rfl)) (fun _ _ _ h => h) (Or.inl ⟨by rfl, ?_⟩) ?_ ?_
                                                  rotate_left
                                                  · intro w'
                                                    go_simp
                                                    with_reducible rfl
                                                  rotate_left
                                                  · simp only [Act.put, List.setIfInBounds_toArray, List.set_cons_zero, List.set_cons_succ, i64_w, i32_w]
                                                    rfl
                                                  refine pure_ (i := 5) (N := some 122) (v := ?_) (a' := ?_) #[true, true, true, true, true, true, true, true, false, false, false, true, true, true, false, false, false, false, false] rfl rfl (any_of HT_.out (by kernel_rfl)) (fun _ _ _ h => h) (Or.inl ⟨by rfl, ?_⟩) ?_ ?_
                                                  rotate_left
                                                  · intro w'
                                                    go_simp
                                                    with_reducible rfl
                                                  rotate_left
                                                  · simp only [Act.put, List.setIfInBounds_toArray, List.set_cons_zero, List.set_cons_succ, i64_w, i32_w]
                                                    rfl
                                                  refine one_ (i := 8) (N := some 125) #[true, true, true, true, true, true, true, true, true, false, false, true, true, true, false, false, false, false, false] rfl rfl (one_of HT_.out (by kernel_rfl)) (by decide) (fun K hK => ?_)
                                                  refine goes_ Tryd.func15 (by kernel_rfl) rfl #[.int .i64 (wrap64 ((wrap64 (1 + t158)) - 1))] (by rfl) rfl rfl (by (try simp only [List.map_toArray, List.map_cons, List.map_nil]); first | done | rfl | (simp only [List.length_drop, List.length_take]; rfl)) ?_
                                                  with_reducible refine (postilionref01_Digits.calls (wrap64 ((wrap64 (1 + t158)) - 1)) t190 _ A65.out).mono ?_
                                                  rintro e w' ⟨rfl, ⟨nd, rfl⟩⟩
                                                  refine ⟨_, rfl, ?_⟩
                                                  refine hK.out _ _ ⟨(blk_cell BK169.out 0).trans rfl, (blk_cell BK169.out 1).trans rfl, (blk_cell BK169.out 2).trans rfl, (blk_cell BK169.out 3).trans rfl⟩ (fun hHeld => ?_)
                                                  clear hK K
                                                  refine norm_ (a' := ?_) ?_ ?_
                                                  rotate_left
                                                  · show Act.put _ (some 125) _ = _
                                                    simp only [Act.put, List.setIfInBounds_toArray, List.set_cons_zero, List.set_cons_succ, i64_w, i32_w]
                                                    rfl
                                                  refine pure_ (i := 9) (N := some 126) (v := ?_) (a' := ?_) #[true, true, true, true, true, true, true, true, true, true, false, true, true, true, false, false, false, false, false] rfl rfl (any_of HT_.out (by kernel_rfl)) (fun _ _ _ h => h) (Or.inl ⟨by rfl, ?_⟩) ?_ ?_
                                                  rotate_left
                                                  · intro w'
                                                    go_simp
                                                    with_reducible rfl
                                                  rotate_left
                                                  · simp only [Act.put, List.setIfInBounds_toArray, List.set_cons_zero, List.set_cons_succ, i64_w, i32_w]
                                                    rfl
                                                  refine pure_ (i := 10) (N := some 127) (v := ?_) (a' := ?_) #[true, true, true, true, true, true, true, true, true, true, true, true, true, true, false, false, false, false, false] rfl rfl (any_of HT_.out (by kernel_rfl)) (fun _ _ _ h => h) (Or.inl ⟨by rfl, ?_⟩) ?_ ?_
                                                  rotate_left
                                                  · intro w'
                                                    go_simp
                                                    with_reducible rfl
                                                  rotate_left
                                                  · simp only [Act.put, List.setIfInBounds_toArray, List.set_cons_zero, List.set_cons_succ, i64_w, i32_w]
                                                    rfl
                                                  refine one_ (i := 14) (N := some 131) #[true, true, true, true, true, true, true, true, true, true, true, true, true, true, true, false, false, false, false] rfl rfl (one_of HT_.out (by kernel_rfl)) (by decide) (fun K hK => ?_)
                                                  refine goes_ Tryd.func15 (by kernel_rfl) rfl #[.int .i64 (wrap64 ((wrap64 (1 + t158)) + (wrap64 (1 + t178))))] (by rfl) rfl rfl (by (try simp only [List.map_toArray, List.map_cons, List.map_nil]); first | done | rfl | (simp only [List.length_drop, List.length_take]; rfl)) ?_
                                                  with_reducible refine (postilionref01_Digits.calls (wrap64 ((wrap64 (1 + t158)) + (wrap64 (1 + t178)))) t191 _ A68.out).mono ?_
                                                  rintro e w' ⟨rfl, ⟨nd, rfl⟩⟩
                                                  refine ⟨_, rfl, ?_⟩
                                                  have p71 : 0 ≤ (1 : Int) := (by omega)
                                                  have q71 : (1 : Int) < ((y173.length : Int) : Int) := of_decide_eq_true (by first | (with_reducible assumption) | assumption)
                                                  have qi71 : (1 < y173.length) = True := eq_true (by omega)
                                                  obtain ⟨go71, co71, eo71, gb71, gl71, cl71, HG71⟩ := Kd.R_form HO_170001.out (by omega)
                                                  (first | cases eo71 | (injection eo71 with ea_ en_ ec_; (first | subst ea_ | (injection ea_ with ea_; subst ea_)); subst ec_; clear en_))
                                                  have GB71 := Aside0.mk gb71
                                                  have GG71 := Aside0.mk HG71
                                                  clear gb71 gl71 HG71
                                                  obtain ⟨ce71, hcl71, hM71, hcc71, hfr71⟩ := Kd.R_elem HO_170001.out z26 (1 : Int) p71 q71
                                                  obtain rfl := k26_openM hM71
                                                  have hx71_0 : World.cell? _ ⟨go71, (1 : Int).toNat * 2, none⟩ = some (.string ((rd_T26 y173 1).f0)) := hcc71 0 _ rfl
                                                  have hx71_1 : World.cell? _ ⟨go71, (1 : Int).toNat * 2 + 1, none⟩ = some (.string ((rd_T26 y173 1).f1)) := hcc71 1 _ rfl
                                                  have hf71_0 : World.frozen? _ ⟨go71, (1 : Int).toNat * 2, none⟩ = false := hfr71 0
                                                  have hf71_1 : World.frozen? _ ⟨go71, (1 : Int).toNat * 2 + 1, none⟩ = false := hfr71 1
                                                  clear hcl71 hcc71 hfr71 hM71
                                                  (try rw [show ((1 : Int)).toNat = 1 from rfl] at hx71_0)
                                                  (try simp only [Nat.reduceMul, Nat.zero_mul, Nat.zero_add, Nat.reduceAdd] at hx71_0)
                                                  (try rw [show ((1 : Int)).toNat = 1 from rfl] at hf71_0)
                                                  (try simp only [Nat.reduceMul, Nat.zero_mul, Nat.zero_add, Nat.reduceAdd] at hf71_0)
                                                  (try rw [show ((1 : Int)).toNat = 1 from rfl] at hx71_1)
                                                  (try simp only [Nat.reduceMul, Nat.zero_mul, Nat.zero_add, Nat.reduceAdd] at hx71_1)
                                                  (try rw [show ((1 : Int)).toNat = 1 from rfl] at hf71_1)
                                                  (try simp only [Nat.reduceMul, Nat.zero_mul, Nat.zero_add, Nat.reduceAdd] at hf71_1)
                                                  replace p71 := eq_true p71
                                                  replace q71 := eq_true q71
                                                  obtain ⟨ce85, hcl85, hM85, hcc85, hfr85⟩ := Kd.R_elem HO_170001.out z26 (1 : Int) (by omega) (by have h_ : (1 : Int) < ((y173.length : Int) : Int) := of_decide_eq_true (by first | (with_reducible assumption) | assumption); first | exact h_ | (have e_ := (Kd.R_reads' HO_170001.out).1; omega) | simpa using h_)
                                                  obtain rfl := k26_openM hM85
                                                  have HP85 := (Kd.R_seg HO_170001.out (1 : Int) (by omega) (by have h_ : (1 : Int) < ((y173.length : Int) : Int) := of_decide_eq_true (by first | (with_reducible assumption) | assumption); first | exact h_ | (have e_ := (Kd.R_reads' HO_170001.out).1; omega) | simpa using h_) (seg := [.string ((((((⟨#[98, 121, 116, 101, 115, 32]⟩ : ByteArray) ++ t189) ++ (⟨#[45]⟩ : ByteArray)) ++ t190) ++ (⟨#[47]⟩ : ByteArray)) ++ t191)]) (j := 1) hcl85 hcc85 (show 2 ≤ 2 from by decide) (x' := (⟨(rd_T26 y173 1).f0, (((((⟨#[98, 121, 116, 101, 115, 32]⟩ : ByteArray) ++ t189) ++ (⟨#[45]⟩ : ByteArray)) ++ t190) ++ (⟨#[47]⟩ : ByteArray)) ++ t191⟩ : S26)) (k26_mkM _ _ _ (⟨(rd_T26 y173 1).f0, (((((⟨#[98, 121, 116, 101, 115, 32]⟩ : ByteArray) ++ t189) ++ (⟨#[45]⟩ : ByteArray)) ++ t190) ++ (⟨#[47]⟩ : ByteArray)) ++ t191⟩ : S26) ) (fun _ hk => hk)).1
                                                  rw [← Ny192.out] at HP85
                                                  have HQ85 := Aside0.mk HP85
                                                  clear hcl85 hcc85 hfr85 hM85 HP85
                                                  refine hK.out _ _ ⟨(blk_cell BK169.out 0).trans rfl, (blk_cell BK169.out 1).trans rfl, (blk_cell BK169.out 2).trans rfl, (blk_cell BK169.out 3).trans rfl⟩ (fun hHeld => ?_)
                                                  clear hK K
                                                  refine norm_ (a' := ?_) ?_ ?_
                                                  rotate_left
                                                  · show Act.put _ (some 131) _ = _
                                                    simp only [Act.put, List.setIfInBounds_toArray, List.set_cons_zero, List.set_cons_succ, i64_w, i32_w]
                                                    rfl
                                                  refine pure_ (i := 15) (N := some 132) (v := ?_) (a' := ?_) #[true, true, true, true, true, true, true, true, true, true, true, true, true, true, true, true, false, false, false] rfl rfl (any_of HT_.out (by kernel_rfl)) (fun _ _ _ h => h) (Or.inl ⟨by rfl, ?_⟩) ?_ ?_
                                                  rotate_left
                                                  · intro w'
                                                    go_simp
                                                    with_reducible rfl
                                                  rotate_left
                                                  · simp only [Act.put, List.setIfInBounds_toArray, List.set_cons_zero, List.set_cons_succ, i64_w, i32_w]
                                                    rfl
                                                  refine pure_ (i := 16) (N := some 133) (v := ?_) (a' := ?_) #[true, true, true, true, true, true, true, true, true, true, true, true, true, true, true, true, true, false, false] rfl rfl (any_of HT_.out (by kernel_rfl)) (fun _ _ _ h => h) (Or.inl ⟨by rfl, ?_⟩) ?_ ?_
                                                  rotate_left
                                                  · intro w'
                                                    go_simp
                                                    with_reducible rfl
                                                  rotate_left
                                                  · simp only [Act.put, List.setIfInBounds_toArray, List.set_cons_zero, List.set_cons_succ, i64_w, i32_w]
                                                    rfl
                                                  refine pure_ (i := 17) (N := some 134) (v := ?_) (a' := ?_) #[true, true, true, true, true, true, true, true, true, true, true, true, true, true, true, true, true, true, false] rfl rfl (any_of HT_.out (by kernel_rfl)) (fun _ _ _ h => h) (Or.inl ⟨by rfl, ?_⟩) ?_ ?_
                                                  rotate_left
                                                  · intro w'
                                                    go_simp
                                                    with_reducible rfl
                                                  rotate_left
                                                  · simp only [Act.put, List.setIfInBounds_toArray, List.set_cons_zero, List.set_cons_succ, i64_w, i32_w]
                                                    rfl
                                                  refine last_ (i := 18) (N := none) #[true, true, true, true, true, true, true, true, true, true, true, true, true, true, true, true, true, true, true] rfl rfl (one_of HT_.out (by kernel_rfl)) (by decide) (fun K hK => ?_)
                                                  refine skip_ (w1 := ?_) (by rfl) rfl ?_ ?_
                                                  rotate_left
                                                  · go_simp
                                                    rfl
                                                  refine hK.out _ _ ?_
                                                  clear hK K
                                                  refine done_ (done_of HT_.out (by kernel_rfl)) ?_
                                                  have hcz86_0 : w84.cell? ⟨gb169, 0, none⟩ = some (.int .i64 206) := (blk_cell BK169.out 0).trans rfl
                                                  have hne86 : gb169 ≠ go71 := by have h_ := Kd.R_ne HO_170001.out BK169.out (by decide); intro e_; exact h_ (by rw [e_]; rfl)
                                                  have hnf86 : go71 ≠ gb169 := fun e_ => hne86 e_.symm
                                                  have hcz86_1 : w84.cell? ⟨gb169, 1, none⟩ = some (.slice (some ⟨go71, 0, none⟩) y173.length co34) := (blk_cell BK169.out 1).trans rfl
                                                  have hcz86_2 : w84.cell? ⟨gb169, 2, none⟩ = some (.string (strOfNums t166)) := (blk_cell BK169.out 2).trans rfl
                                                  have hcz86_3 : w84.cell? ⟨gb169, 3, none⟩ = some (.bool false) := (blk_cell BK169.out 3).trans rfl
                                                  have hfz86_0 := blk_frozen BK169.out 0
                                                  have hfz86_1 := blk_frozen BK169.out 1
                                                  have hfz86_2 := blk_frozen BK169.out 2
                                                  have hfz86_3 := blk_frozen BK169.out 3
                                                  try go_wp2_with (first | ((with_reducible refine gate_callee (f := 19) rfl ?_); refine goesL_ (some 150) rfl rfl Tryd.func19 (by kernel_rfl) rfl #[.agg #[.int .i64 206, .slice (some ⟨go71, 0, none⟩) y192.length co34, .string (strOfNums t166), .bool false], .int .i64 t159, .string (⟨#[34, 118, 49, 34]⟩ : ByteArray)] rfl (by (try simp only [List.map_toArray, List.map_cons, List.map_nil]); first | done | (rw [show y192.length = y173.length from (Kd.R_reads' HQ85.out).1.symm] <;> rfl) | rfl | (simp only [List.length_drop, List.length_take]; rfl)) ?_; (with_reducible refine (part_Fits.calls kj30 206 _ _ y192 (strOfNums t166) false t159 (⟨#[34, 118, 49, 34]⟩ : ByteArray) t193 false _ ?side1 ?side2 ?side3 A72.out).mono ?_); (case side1 => exact Gl.below hG (by repeat (first | (with_reducible first | exact HB.out | apply below_alloc | apply pw_below_drewN | apply below_drew1 | refine below_set ?_ GB71.out | refine below_set ?_ GE169.out) | exact HB.out))); (case side2 => refine (Kd.R_reads' (e := 26) (base := w.heap.size) (ok := fun k_ => True) (n := y173.length) (c := co34) ?_).2.2; exact (by (with_reducible repeat (first | apply Kd.R_alloc | apply Kd.R_drewN | apply Kd.R_drew)); exact HQ85.out)); (case side3 => rw [show y192.length = y173.length from (Kd.R_reads' HQ85.out).1.symm]; exact (Kd.R_reads' HO_170001.out).2.1); rintro e w87 ⟨rfl, hb⟩; refine ⟨_, rfl, ?_⟩; have n0_ := Aside0.mk (Kd.R_below (by (with_reducible repeat (first | apply Kd.R_alloc | apply Kd.R_drewN | apply Kd.R_drew)); exact HQ85.out) hb); have n1_ := Aside0.mk (blk_below (g := gb169) (o := .cells #[.int .i64 206, .slice (some ⟨go71, 0, none⟩) y173.length co34, .string (strOfNums t166), .bool false] 45 (0, 0)) (by (with_reducible repeat (first | refine blk_drewN ?_ _ | refine blk_drew ?_ | refine blk_alloc ?_ _)); refine blk_far ?_ (by have h_ := Kd.R_ne HO_170001.out BK169.out (by decide); intro e_; exact h_ (by rw [e_]; rfl)) _; (with_reducible repeat (first | refine blk_drewN ?_ _ | refine blk_drew ?_ | refine blk_alloc ?_ _)); exact BK169.out) hb); have n2_ := Aside0.mk (below_step (by repeat (first | (with_reducible first | exact HB.out | apply below_alloc | apply pw_below_drewN | apply below_drew1 | refine below_set ?_ GB71.out | refine below_set ?_ GE169.out) | exact HB.out)) hb); clear HO_170001; clear BK169; clear HB; have HO_170001 := n0_; have BK169 := n1_; have HB := n2_; clear n0_ n1_ n2_; (try clear hb); (try clear hb2); (try clear hk); (try clear hi)) | (go_at_call 14; (with_reducible refine (postilionlaw15_wakes.calls kj30  t195 _ ?side1 A77.out).mono ?_); (case side1 => exact Gl.below hG (by repeat (first | (with_reducible first | exact HB.out | apply below_alloc | apply pw_below_drewN | apply below_drew1 | refine below_set ?_ GE169.out) | exact HB.out))); rintro e w88 ⟨rfl, hb⟩; have n0_ := Aside0.mk (Kd.R_below (by (with_reducible repeat (first | apply Kd.R_alloc | apply Kd.R_drewN | apply Kd.R_drew)); exact HO_170001.out) hb); have n1_ := Aside0.mk (blk_below (g := gb169) (o := .cells #[.int .i64 206, .slice (some ⟨go71, 0, none⟩) y173.length co34, .string (strOfNums t166), .bool false] 45 (0, 0)) (by (with_reducible repeat (first | refine blk_drewN ?_ _ | refine blk_drew ?_ | refine blk_alloc ?_ _)); exact BK169.out) hb); have n2_ := Aside0.mk (below_step (by repeat (first | (with_reducible first | exact HB.out | apply below_alloc | apply pw_below_drewN | apply below_drew1 | refine below_set ?_ GE169.out) | exact HB.out)) hb); clear HO_170001; clear BK169; clear HB; have HO_170001 := n0_; have BK169 := n1_; have HB := n2_; clear n0_ n1_ n2_; (try clear hb); (try clear hb2); (try clear hk); (try clear hi)))
                                                  go_ret
                                                  exact ⟨by first | rfl | (simp [errW_none, errW_some] <;> rfl) | (simp [*, errW_none, errW_some] <;> rfl), by repeat (first | (with_reducible first | exact HB.out | apply below_alloc | apply pw_below_drewN | apply below_drew1 | refine below_set ?_ GE169.out) | exact HB.out)⟩
                                        · rw [if_neg c70] at H
                                          exact absurd H (by simp)
                                      · rw [if_neg c69] at H
                                        exact absurd H (by simp)
                                    · rw [if_neg c67] at H
                                      exact absurd H (by simp)
                                  · rw [if_neg c66] at H
                                    exact absurd H (by simp)
                                · rw [if_neg c64] at H
                                  exact absurd H (by simp)
                              · rw [if_neg c63] at H
                                exact absurd H (by simp)
                            · rw [if_neg c61] at H
                              have c61b0 : (t185 == 1) = false := beq_eq_false_iff_ne.mpr c61
                              have c61b1 : (t185 != 1) = true := bne_iff_ne.mpr c61
                              by_cases c89 : t185 = 2
                              · rw [if_pos c89] at H
                                have c89b0 : (t185 == 2) = true := beq_iff_eq.mpr c89
                                have c89b1 : (t185 != 2) = false := bne_eq_false_iff_eq.mpr c89
                                clear c89
                                replace H := Option.bind_eq_some_iff.mp H
                                obtain ⟨t196, A900, H⟩ := H
                                replace H : (if 2 < (y173.length : Int) then ((part_Fits.f kj30 206 (y173.set (2 : Int).toNat (⟨(rd_T26 y173 2).f0, t196⟩ : S26)) (strOfNums t166) false t159 (⟨#[34, 118, 49, 34]⟩ : ByteArray)).bind fun bt198 => (if t180 = true then (some false) else (if t182 = true then (some false) else (if t184 = true then (some false) else (if bt198.2 = true then (some false) else ((postilionlaw15_wakes.f kj30).bind fun t200 => (some t200))))))) else (none)) = some r := H
                                have A90 := Aside0.mk A900
                                clear A900
                                by_cases c91 : 2 < (y173.length : Int)
                                · rw [if_pos c91] at H
                                  have c91b0 : decide (2 < (y173.length : Int)) = true := decide_eq_true c91
                                  have c91b1 : decide (2 < y173.length) = true := decide_eq_true (by omega)
                                  clear c91
                                  obtain ⟨y197, hy197⟩ : ∃ y_ : List (S26), y_ = (y173.set (2 : Int).toNat (⟨(rd_T26 y173 2).f0, t196⟩ : S26)) := ⟨_, rfl⟩
                                  replace H : ((part_Fits.f kj30 206 y197 (strOfNums t166) false t159 (⟨#[34, 118, 49, 34]⟩ : ByteArray)).bind fun bt198 => (if t180 = true then (some false) else (if t182 = true then (some false) else (if t184 = true then (some false) else (if bt198.2 = true then (some false) else ((postilionlaw15_wakes.f kj30).bind fun t200 => (some t200))))))) = some r := by first | (rw [hy197]; with_reducible exact H) | (have H2_ := (Option.bind_some _ _).symm.trans H; rw [hy197]; with_reducible exact H2_) | (have H2_ := (Option.bind_some _ _).symm.trans H; with_reducible exact H2_) | with_reducible exact H | (rw [hy197]; exact H) | exact H
                                  have Ny197 := Aside0.mk hy197
                                  clear hy197
                                  replace H := Option.bind_eq_some_iff.mp H
                                  obtain ⟨⟨t198, t199⟩, A930, H⟩ := H
                                  replace H : (if t180 = true then (some false) else (if t182 = true then (some false) else (if t184 = true then (some false) else (if t199 = true then (some false) else ((postilionlaw15_wakes.f kj30).bind fun t200 => (some t200)))))) = some r := H
                                  have A93 := Aside0.mk A930
                                  clear A930
                                  by_cases c94 : t180 = true
                                  · subst c94
                                    have H1 : (some false) = some r := by rw [if_pos rfl] at H; exact H
                                    clear H
                                    have H := H1
                                    clear H1
                                    obtain rfl := Option.some.inj H
                                    cases hT
                                  · replace c94 := Bool.eq_false_iff.mpr c94
                                    subst c94
                                    have H1 : (if t182 = true then (some false) else (if t184 = true then (some false) else (if t199 = true then (some false) else ((postilionlaw15_wakes.f kj30).bind fun t200 => (some t200))))) = some r := by rw [if_neg (show ¬ (false = true) by decide)] at H; exact H
                                    clear H
                                    have H := H1
                                    clear H1
                                    by_cases c95 : t182 = true
                                    · subst c95
                                      have H1 : (some false) = some r := by rw [if_pos rfl] at H; exact H
                                      clear H
                                      have H := H1
                                      clear H1
                                      obtain rfl := Option.some.inj H
                                      cases hT
                                    · replace c95 := Bool.eq_false_iff.mpr c95
                                      subst c95
                                      have H1 : (if t184 = true then (some false) else (if t199 = true then (some false) else ((postilionlaw15_wakes.f kj30).bind fun t200 => (some t200)))) = some r := by rw [if_neg (show ¬ (false = true) by decide)] at H; exact H
                                      clear H
                                      have H := H1
                                      clear H1
                                      by_cases c96 : t184 = true
                                      · subst c96
                                        have H1 : (some false) = some r := by rw [if_pos rfl] at H; exact H
                                        clear H
                                        have H := H1
                                        clear H1
                                        obtain rfl := Option.some.inj H
                                        cases hT
                                      · replace c96 := Bool.eq_false_iff.mpr c96
                                        subst c96
                                        have H1 : (if t199 = true then (some false) else ((postilionlaw15_wakes.f kj30).bind fun t200 => (some t200))) = some r := by rw [if_neg (show ¬ (false = true) by decide)] at H; exact H
                                        clear H
                                        have H := H1
                                        clear H1
                                        by_cases c97 : t199 = true
                                        · subst c97
                                          have H1 : (some false) = some r := by rw [if_pos rfl] at H; exact H
                                          clear H
                                          have H := H1
                                          clear H1
                                          obtain rfl := Option.some.inj H
                                          cases hT
                                        · replace c97 := Bool.eq_false_iff.mpr c97
                                          subst c97
                                          have H1 : ((postilionlaw15_wakes.f kj30).bind fun t200 => (some t200)) = some r := by rw [if_neg (show ¬ (false = true) by decide)] at H; exact H
                                          clear H
                                          have H := H1
                                          clear H1
                                          replace H := Option.bind_eq_some_iff.mp H
                                          obtain ⟨t200, A980, H⟩ := H
                                          replace H : (some t200) = some r := H
                                          have A98 := Aside0.mk A980
                                          clear A980
                                          obtain rfl := Option.some.inj H
                                          try go_wp2_with (first | ((with_reducible refine gate_callee (f := 11) rfl ?_); refine goesL_ (some 84) rfl rfl Tryd.func11 (by kernel_rfl) rfl #[.int .i64 a2, .int .i64 30] rfl (by (try simp only [List.map_toArray, List.map_cons, List.map_nil]); first | done | rfl | (simp only [List.length_drop, List.length_take]; rfl)) ?_; (with_reducible refine (postilionkeep_Within.calls a2 30 t178 _ A40.out).mono ?_); rintro e w' ⟨rfl, ⟨nd, rfl⟩⟩; refine ⟨_, rfl, ?_⟩; (try (rw [drewN_self wc]; generalize hq_ : World.drewN wc _ = wc; have n0_ : Aside0 (Kd.R k26 26 wc w.heap.size (fun _ => True) (.slice Ao34 y173.length co34) y173) := ⟨by rw [← hq_]; exact (by (with_reducible repeat (first | apply Kd.R_alloc | apply Kd.R_drewN | apply Kd.R_drew)); exact HO_170001.out)⟩; have n1_ : Aside0 (wc.heap[gb169]? = some (.cells #[.int .i64 206, .slice Ao34 y173.length co34, .string (strOfNums t166), .bool false] 45 (0, 0))) := ⟨by rw [← hq_]; exact (by (with_reducible repeat (first | refine blk_drewN ?_ _ | refine blk_drew ?_ | refine blk_alloc ?_ _)); exact BK169.out)⟩; have n2_ : Aside0 (Below w.heap.size w wc) := ⟨by rw [← hq_]; exact (by repeat (first | (with_reducible first | exact HB.out | apply below_alloc | apply pw_below_drewN | apply below_drew1 | refine below_set ?_ GE169.out) | exact HB.out))⟩; clear HO_170001 BK169 HB hq_; have HO_170001 := n0_; have BK169 := n1_; have HB := n2_; clear n0_ n1_ n2_)); have hcz99_0 : wc.cell? ⟨gb169, 0, none⟩ = some (.int .i64 206) := (blk_cell BK169.out 0).trans rfl; have hcz99_1 : wc.cell? ⟨gb169, 1, none⟩ = some (.slice Ao34 y173.length co34) := (blk_cell BK169.out 1).trans rfl; have hcz99_2 : wc.cell? ⟨gb169, 2, none⟩ = some (.string (strOfNums t166)) := (blk_cell BK169.out 2).trans rfl; have hcz99_3 : wc.cell? ⟨gb169, 3, none⟩ = some (.bool false) := (blk_cell BK169.out 3).trans rfl; have hfz99_0 := blk_frozen BK169.out 0; have hfz99_1 := blk_frozen BK169.out 1; have hfz99_2 := blk_frozen BK169.out 2; have hfz99_3 := blk_frozen BK169.out 3) | ((with_reducible refine gate_callee (f := 19) rfl ?_); refine goesL_ (some 91) rfl rfl Tryd.func19 (by kernel_rfl) rfl #[.agg #[.int .i64 206, .slice Ao34 y173.length co34, .string (strOfNums t166), .bool false], .int .i64 (wrap64 (t159 + (wrap64 (1 + t178)))), .string (⟨#[34, 118, 49, 34]⟩ : ByteArray)] rfl (by (try simp only [List.map_toArray, List.map_cons, List.map_nil]); first | done | rfl | (simp only [List.length_drop, List.length_take]; rfl)) ?_; (with_reducible refine (part_Fits.calls kj30 206 _ _ y173 (strOfNums t166) false (wrap64 (t159 + (wrap64 (1 + t178)))) (⟨#[34, 118, 49, 34]⟩ : ByteArray) t179 false _ ?side1 ?side2 ?side3 A41.out).mono ?_); (case side1 => exact Gl.below hG (by repeat (first | (with_reducible first | exact HB.out | apply below_alloc | apply pw_below_drewN | apply below_drew1 | refine below_set ?_ GE169.out) | exact HB.out))); (case side2 => repeat (first | exact (Kd.R_reads' HO_170001.out).2.2 | (with_reducible refine Kd.C_alloc ?_ _) | (with_reducible refine Kd.C_drewN ?_ _) | (with_reducible refine Kd.C_drew ?_))); (case side3 => exact (Kd.R_reads' HO_170001.out).2.1); rintro e w100 ⟨rfl, hb⟩; refine ⟨_, rfl, ?_⟩; have n0_ := Aside0.mk (Kd.R_below (by (with_reducible repeat (first | apply Kd.R_alloc | apply Kd.R_drewN | apply Kd.R_drew)); exact HO_170001.out) hb); have n1_ := Aside0.mk (blk_below (g := gb169) (o := .cells #[.int .i64 206, .slice Ao34 y173.length co34, .string (strOfNums t166), .bool false] 45 (0, 0)) (by (with_reducible repeat (first | refine blk_drewN ?_ _ | refine blk_drew ?_ | refine blk_alloc ?_ _)); exact BK169.out) hb); have n2_ := Aside0.mk (below_step (by repeat (first | (with_reducible first | exact HB.out | apply below_alloc | apply pw_below_drewN | apply below_drew1 | refine below_set ?_ GE169.out) | exact HB.out)) hb); clear HO_170001; clear BK169; clear HB; have HO_170001 := n0_; have BK169 := n1_; have HB := n2_; clear n0_ n1_ n2_; (try clear hb); (try clear hb2); (try clear hk); (try clear hi); have hcz101_0 : w100.cell? ⟨gb169, 0, none⟩ = some (.int .i64 206) := (blk_cell BK169.out 0).trans rfl; have hcz101_1 : w100.cell? ⟨gb169, 1, none⟩ = some (.slice Ao34 y173.length co34) := (blk_cell BK169.out 1).trans rfl; have hcz101_2 : w100.cell? ⟨gb169, 2, none⟩ = some (.string (strOfNums t166)) := (blk_cell BK169.out 2).trans rfl; have hcz101_3 : w100.cell? ⟨gb169, 3, none⟩ = some (.bool false) := (blk_cell BK169.out 3).trans rfl; have hfz101_0 := blk_frozen BK169.out 0; have hfz101_1 := blk_frozen BK169.out 1; have hfz101_2 := blk_frozen BK169.out 2; have hfz101_3 := blk_frozen BK169.out 3) | ((with_reducible refine gate_callee (f := 19) rfl ?_); refine goesL_ (some 97) rfl rfl Tryd.func19 (by kernel_rfl) rfl #[.agg #[.int .i64 206, .slice Ao34 y173.length co34, .string (strOfNums t166), .bool false], .int .i64 t159, .string (⟨#[34, 118, 50, 34]⟩ : ByteArray)] rfl (by (try simp only [List.map_toArray, List.map_cons, List.map_nil]); first | done | rfl | (simp only [List.length_drop, List.length_take]; rfl)) ?_; (with_reducible refine (part_Fits.calls kj30 206 _ _ y173 (strOfNums t166) false t159 (⟨#[34, 118, 50, 34]⟩ : ByteArray) t181 false _ ?side1 ?side2 ?side3 A42.out).mono ?_); (case side1 => exact Gl.below hG (by repeat (first | (with_reducible first | exact HB.out | apply below_alloc | apply pw_below_drewN | apply below_drew1 | refine below_set ?_ GE169.out) | exact HB.out))); (case side2 => repeat (first | exact (Kd.R_reads' HO_170001.out).2.2 | (with_reducible refine Kd.C_alloc ?_ _) | (with_reducible refine Kd.C_drewN ?_ _) | (with_reducible refine Kd.C_drew ?_))); (case side3 => exact (Kd.R_reads' HO_170001.out).2.1); rintro e w102 ⟨rfl, hb⟩; refine ⟨_, rfl, ?_⟩; have n0_ := Aside0.mk (Kd.R_below (by (with_reducible repeat (first | apply Kd.R_alloc | apply Kd.R_drewN | apply Kd.R_drew)); exact HO_170001.out) hb); have n1_ := Aside0.mk (blk_below (g := gb169) (o := .cells #[.int .i64 206, .slice Ao34 y173.length co34, .string (strOfNums t166), .bool false] 45 (0, 0)) (by (with_reducible repeat (first | refine blk_drewN ?_ _ | refine blk_drew ?_ | refine blk_alloc ?_ _)); exact BK169.out) hb); have n2_ := Aside0.mk (below_step (by repeat (first | (with_reducible first | exact HB.out | apply below_alloc | apply pw_below_drewN | apply below_drew1 | refine below_set ?_ GE169.out) | exact HB.out)) hb); clear HO_170001; clear BK169; clear HB; have HO_170001 := n0_; have BK169 := n1_; have HB := n2_; clear n0_ n1_ n2_; (try clear hb); (try clear hb2); (try clear hk); (try clear hi); have hcz103_0 : w102.cell? ⟨gb169, 0, none⟩ = some (.int .i64 206) := (blk_cell BK169.out 0).trans rfl; have hcz103_1 : w102.cell? ⟨gb169, 1, none⟩ = some (.slice Ao34 y173.length co34) := (blk_cell BK169.out 1).trans rfl; have hcz103_2 : w102.cell? ⟨gb169, 2, none⟩ = some (.string (strOfNums t166)) := (blk_cell BK169.out 2).trans rfl; have hcz103_3 : w102.cell? ⟨gb169, 3, none⟩ = some (.bool false) := (blk_cell BK169.out 3).trans rfl; have hfz103_0 := blk_frozen BK169.out 0; have hfz103_1 := blk_frozen BK169.out 1; have hfz103_2 := blk_frozen BK169.out 2; have hfz103_3 := blk_frozen BK169.out 3) | ((with_reducible refine gate_callee (f := 19) rfl ?_); refine goesL_ (some 103) rfl rfl Tryd.func19 (by kernel_rfl) rfl #[.agg #[.int .i64 206, .slice Ao34 y173.length co34, .string (strOfNums t166), .bool false], .int .i64 t159, .string (⟨#[]⟩ : ByteArray)] rfl (by (try simp only [List.map_toArray, List.map_cons, List.map_nil]); first | done | rfl | (simp only [List.length_drop, List.length_take]; rfl)) ?_; (with_reducible refine (part_Fits.calls kj30 206 _ _ y173 (strOfNums t166) false t159 (⟨#[]⟩ : ByteArray) t183 false _ ?side1 ?side2 ?side3 A43.out).mono ?_); (case side1 => exact Gl.below hG (by repeat (first | (with_reducible first | exact HB.out | apply below_alloc | apply pw_below_drewN | apply below_drew1 | refine below_set ?_ GE169.out) | exact HB.out))); (case side2 => repeat (first | exact (Kd.R_reads' HO_170001.out).2.2 | (with_reducible refine Kd.C_alloc ?_ _) | (with_reducible refine Kd.C_drewN ?_ _) | (with_reducible refine Kd.C_drew ?_))); (case side3 => exact (Kd.R_reads' HO_170001.out).2.1); rintro e w104 ⟨rfl, hb⟩; refine ⟨_, rfl, ?_⟩; have n0_ := Aside0.mk (Kd.R_below (by (with_reducible repeat (first | apply Kd.R_alloc | apply Kd.R_drewN | apply Kd.R_drew)); exact HO_170001.out) hb); have n1_ := Aside0.mk (blk_below (g := gb169) (o := .cells #[.int .i64 206, .slice Ao34 y173.length co34, .string (strOfNums t166), .bool false] 45 (0, 0)) (by (with_reducible repeat (first | refine blk_drewN ?_ _ | refine blk_drew ?_ | refine blk_alloc ?_ _)); exact BK169.out) hb); have n2_ := Aside0.mk (below_step (by repeat (first | (with_reducible first | exact HB.out | apply below_alloc | apply pw_below_drewN | apply below_drew1 | refine below_set ?_ GE169.out) | exact HB.out)) hb); clear HO_170001; clear BK169; clear HB; have HO_170001 := n0_; have BK169 := n1_; have HB := n2_; clear n0_ n1_ n2_; (try clear hb); (try clear hb2); (try clear hk); (try clear hi)) | ((with_reducible refine gate_callee (f := 11) rfl ?_); refine goesL_ (some 107) rfl rfl Tryd.func11 (by kernel_rfl) rfl #[.int .i64 a3, .int .i64 4] rfl (by (try simp only [List.map_toArray, List.map_cons, List.map_nil]); first | done | rfl | (simp only [List.length_drop, List.length_take]; rfl)) ?_; (with_reducible refine (postilionkeep_Within.calls a3 4 t185 _ A44.out).mono ?_); rintro e w' ⟨rfl, ⟨nd, rfl⟩⟩; refine ⟨_, rfl, ?_⟩; (try (rw [drewN_self w104]; generalize hq_ : World.drewN w104 _ = w104; have n0_ : Aside0 (Kd.R k26 26 w104 w.heap.size (fun _ => True) (.slice Ao34 y173.length co34) y173) := ⟨by rw [← hq_]; exact (by (with_reducible repeat (first | apply Kd.R_alloc | apply Kd.R_drewN | apply Kd.R_drew)); exact HO_170001.out)⟩; have n1_ : Aside0 (w104.heap[gb169]? = some (.cells #[.int .i64 206, .slice Ao34 y173.length co34, .string (strOfNums t166), .bool false] 45 (0, 0))) := ⟨by rw [← hq_]; exact (by (with_reducible repeat (first | refine blk_drewN ?_ _ | refine blk_drew ?_ | refine blk_alloc ?_ _)); exact BK169.out)⟩; have n2_ : Aside0 (Below w.heap.size w w104) := ⟨by rw [← hq_]; exact (by repeat (first | (with_reducible first | exact HB.out | apply below_alloc | apply pw_below_drewN | apply below_drew1 | refine below_set ?_ GE169.out) | exact HB.out))⟩; clear HO_170001 BK169 HB hq_; have HO_170001 := n0_; have BK169 := n1_; have HB := n2_; clear n0_ n1_ n2_))))
                                          have n0_ := Aside0.mk (Kd.R_drew HO_170001.out)
                                          have n1_ := Aside0.mk (blk_drew BK169.out)
                                          have n2_ := Aside0.mk (below_drew1 HB.out)
                                          clear HO_170001
                                          clear BK169
                                          clear HB
                                          have HO_170001 := n0_
                                          have BK169 := n1_
                                          have HB := n2_
                                          clear n0_ n1_ n2_
                                          refine start_ (n := 11) (S := fun w' => w'.cell? ⟨gb169, 0, none⟩ = some (.int .i64 206) ∧ w'.cell? ⟨gb169, 1, none⟩ = some (.slice Ao34 y173.length co34) ∧ w'.cell? ⟨gb169, 2, none⟩ = some (.string (strOfNums t166)) ∧ w'.cell? ⟨gb169, 3, none⟩ = some (.bool false)) (ds := [10]) #[false, false, false, false, false, false, false, false, false, false, false] (by kernel_rfl) rfl rfl ⟨(blk_cell BK169.out 0).trans rfl, (blk_cell BK169.out 1).trans rfl, (blk_cell BK169.out 2).trans rfl, (blk_cell BK169.out 3).trans rfl⟩ (fun hHeld => ?_); refine with_tabW postilionlaw15_PartFits.tab22 postilionlaw15_PartFits.bits22 (fun HT_ HW_ => ?_)
                                          generalize w104.drew = w105 at HO_170001 BK169 HB hHeld ⊢
                                          refine pure_ (i := 0) (N := some 137) (v := ?_) (a' := ?_) #[true, false, false, false, false, false, false, false, false, false, false] rfl rfl (any_of HT_.out (by kernel_rfl)) (fun _ _ _ h => h) (Or.inl ⟨by rfl, ?_⟩) ?_ ?_
                                          rotate_left
                                          · intro w'
                                            go_simp
                                            with_reducible rfl
                                          rotate_left
                                          · simp only [Act.put, List.setIfInBounds_toArray, List.set_cons_zero, List.set_cons_succ, i64_w, i32_w]
                                            rfl
                                          refine pure_ (i := 2) (N := some 139) (v := ?_) (a' := ?_) #[true, false, true, false, false, false, false, false, false, false, false] rfl rfl (any_of HT_.out (by kernel_rfl)) (fun _ _ _ h => h) (Or.inl ⟨by rfl, ?_⟩) ?_ ?_
                                          rotate_left
                                          · intro w'
                                            go_simp
                                            with_reducible rfl
                                          rotate_left
                                          · simp only [Act.put, List.setIfInBounds_toArray, List.set_cons_zero, List.set_cons_succ, i64_w, i32_w]
                                            rfl
                                          refine pure_ (i := 3) (N := some 140) (v := ?_) (a' := ?_) #[true, false, true, true, false, false, false, false, false, false, false] rfl rfl (any_of HT_.out (by kernel_rfl)) (fun _ _ _ h => h) (Or.inl ⟨by rfl, ?_⟩) ?_ ?_
                                          rotate_left
                                          · intro w'
                                            go_simp
                                            with_reducible rfl
                                          rotate_left
                                          · simp only [Act.put, List.setIfInBounds_toArray, List.set_cons_zero, List.set_cons_succ, i64_w, i32_w]
                                            rfl
                                          refine pure_ (i := 4) (N := some 141) (v := ?_) (a' := ?_) #[true, false, true, true, true, false, false, false, false, false, false] rfl rfl (any_of HT_.out (by kernel_rfl)) (fun _ _ _ h => h) (Or.inl ⟨by rfl, ?_⟩) ?_ ?_
                                          rotate_left
                                          · intro w'
                                            go_simp
                                            with_reducible rfl
                                          rotate_left
                                          · simp only [Act.put, List.setIfInBounds_toArray, List.set_cons_zero, List.set_cons_succ, i64_w, i32_w]
                                            rfl
                                          refine pure_ (i := 5) (N := some 142) (v := ?_) (a' := ?_) #[true, false, true, true, true, true, false, false, false, false, false] rfl rfl (any_of HT_.out (by kernel_rfl)) (fun _ _ _ h => h) (Or.inl ⟨by rfl, ?_⟩) ?_ ?_
                                          rotate_left
                                          · intro w'
                                            go_simp
                                            with_reducible rfl
                                          rotate_left
                                          · simp only [Act.put, List.setIfInBounds_toArray, List.set_cons_zero, List.set_cons_succ, i64_w, i32_w]
                                            rfl
                                          refine pure_ (i := 6) (N := some 143) (v := ?_) (a' := ?_) #[true, false, true, true, true, true, true, false, false, false, false] rfl rfl (any_of HT_.out (by kernel_rfl)) (fun _ _ _ h => h) (Or.inl ⟨by rfl, ?_⟩) ?_ ?_
                                          rotate_left
                                          · intro w'
                                            go_simp
                                            with_reducible rfl
                                          rotate_left
                                          · simp only [Act.put, List.setIfInBounds_toArray, List.set_cons_zero, List.set_cons_succ, i64_w, i32_w]
                                            rfl
                                          refine take_ (i := 1) (N := some 138) (v := ?_) (a' := ?_) #[true, true, true, true, true, true, true, false, false, false, false] rfl rfl (take_ofW HT_.out HW_.out (by kernel_rfl)) (fun _ _ _ h => h) (Or.inl ⟨by rfl, ?_⟩) hHeld ?_ ?_
                                          rotate_left
                                          · rintro w' ⟨s0, s1, s2, s3⟩
                                            go_simp
                                            with_reducible rfl
                                          rotate_left
                                          · simp only [Act.put, List.setIfInBounds_toArray, List.set_cons_zero, List.set_cons_succ, i64_w, i32_w]
                                            rfl
                                          refine one_ (i := 7) (N := some 144) #[true, true, true, true, true, true, true, true, false, false, false] rfl rfl (one_of HT_.out (by kernel_rfl)) (by decide) (fun K hK => ?_)
                                          refine goes_ Tryd.func15 (by kernel_rfl) rfl #[.int .i64 (wrap64 ((wrap64 ((wrap64 (1 + t158)) - t159)) + (wrap64 (1 + t178))))] (by rfl) rfl rfl (by (try simp only [List.map_toArray, List.map_cons, List.map_nil]); first | done | rfl | (simp only [List.length_drop, List.length_take]; rfl)) ?_
                                          with_reducible refine (postilionref01_Digits.calls (wrap64 ((wrap64 ((wrap64 (1 + t158)) - t159)) + (wrap64 (1 + t178)))) t196 _ A90.out).mono ?_
                                          rintro e w' ⟨rfl, ⟨nd, rfl⟩⟩
                                          refine ⟨_, rfl, ?_⟩
                                          have p92 : 0 ≤ (2 : Int) := (by omega)
                                          have q92 : (2 : Int) < ((y173.length : Int) : Int) := of_decide_eq_true (by first | (with_reducible assumption) | assumption)
                                          have qi92 : (2 < y173.length) = True := eq_true (by omega)
                                          obtain ⟨go92, co92, eo92, gb92, gl92, cl92, HG92⟩ := Kd.R_form HO_170001.out (by omega)
                                          (first | cases eo92 | (injection eo92 with ea_ en_ ec_; (first | subst ea_ | (injection ea_ with ea_; subst ea_)); subst ec_; clear en_))
                                          have GB92 := Aside0.mk gb92
                                          have GG92 := Aside0.mk HG92
                                          clear gb92 gl92 HG92
                                          obtain ⟨ce92, hcl92, hM92, hcc92, hfr92⟩ := Kd.R_elem HO_170001.out z26 (2 : Int) p92 q92
                                          obtain rfl := k26_openM hM92
                                          have hx92_0 : World.cell? _ ⟨go92, (2 : Int).toNat * 2, none⟩ = some (.string ((rd_T26 y173 2).f0)) := hcc92 0 _ rfl
                                          have hx92_1 : World.cell? _ ⟨go92, (2 : Int).toNat * 2 + 1, none⟩ = some (.string ((rd_T26 y173 2).f1)) := hcc92 1 _ rfl
                                          have hf92_0 : World.frozen? _ ⟨go92, (2 : Int).toNat * 2, none⟩ = false := hfr92 0
                                          have hf92_1 : World.frozen? _ ⟨go92, (2 : Int).toNat * 2 + 1, none⟩ = false := hfr92 1
                                          clear hcl92 hcc92 hfr92 hM92
                                          (try rw [show ((2 : Int)).toNat = 2 from rfl] at hx92_0)
                                          (try simp only [Nat.reduceMul, Nat.zero_mul, Nat.zero_add, Nat.reduceAdd] at hx92_0)
                                          (try rw [show ((2 : Int)).toNat = 2 from rfl] at hf92_0)
                                          (try simp only [Nat.reduceMul, Nat.zero_mul, Nat.zero_add, Nat.reduceAdd] at hf92_0)
                                          (try rw [show ((2 : Int)).toNat = 2 from rfl] at hx92_1)
                                          (try simp only [Nat.reduceMul, Nat.zero_mul, Nat.zero_add, Nat.reduceAdd] at hx92_1)
                                          (try rw [show ((2 : Int)).toNat = 2 from rfl] at hf92_1)
                                          (try simp only [Nat.reduceMul, Nat.zero_mul, Nat.zero_add, Nat.reduceAdd] at hf92_1)
                                          replace p92 := eq_true p92
                                          replace q92 := eq_true q92
                                          obtain ⟨ce106, hcl106, hM106, hcc106, hfr106⟩ := Kd.R_elem HO_170001.out z26 (2 : Int) (by omega) (by have h_ : (2 : Int) < ((y173.length : Int) : Int) := of_decide_eq_true (by first | (with_reducible assumption) | assumption); first | exact h_ | (have e_ := (Kd.R_reads' HO_170001.out).1; omega) | simpa using h_)
                                          obtain rfl := k26_openM hM106
                                          have HP106 := (Kd.R_seg HO_170001.out (2 : Int) (by omega) (by have h_ : (2 : Int) < ((y173.length : Int) : Int) := of_decide_eq_true (by first | (with_reducible assumption) | assumption); first | exact h_ | (have e_ := (Kd.R_reads' HO_170001.out).1; omega) | simpa using h_) (seg := [.string t196]) (j := 1) hcl106 hcc106 (show 2 ≤ 2 from by decide) (x' := (⟨(rd_T26 y173 2).f0, t196⟩ : S26)) (k26_mkM _ _ _ (⟨(rd_T26 y173 2).f0, t196⟩ : S26) ) (fun _ hk => hk)).1
                                          rw [← Ny197.out] at HP106
                                          have HQ106 := Aside0.mk HP106
                                          clear hcl106 hcc106 hfr106 hM106 HP106
                                          refine hK.out _ _ ⟨(blk_cell BK169.out 0).trans rfl, (blk_cell BK169.out 1).trans rfl, (blk_cell BK169.out 2).trans rfl, (blk_cell BK169.out 3).trans rfl⟩ (fun hHeld => ?_)
                                          clear hK K
                                          refine norm_ (a' := ?_) ?_ ?_
                                          rotate_left
                                          · show Act.put _ (some 144) _ = _
                                            simp only [Act.put, List.setIfInBounds_toArray, List.set_cons_zero, List.set_cons_succ, i64_w, i32_w]
                                            rfl
                                          refine pure_ (i := 8) (N := some 145) (v := ?_) (a' := ?_) #[true, true, true, true, true, true, true, true, true, false, false] rfl rfl (any_of HT_.out (by kernel_rfl)) (fun _ _ _ h => h) (Or.inl ⟨by rfl, ?_⟩) ?_ ?_
                                          rotate_left
                                          · intro w'
                                            go_simp
                                            with_reducible rfl
                                          rotate_left
                                          · simp only [Act.put, List.setIfInBounds_toArray, List.set_cons_zero, List.set_cons_succ, i64_w, i32_w]
                                            rfl
                                          refine pure_ (i := 9) (N := some 146) (v := ?_) (a' := ?_) #[true, true, true, true, true, true, true, true, true, true, false] rfl rfl (any_of HT_.out (by kernel_rfl)) (fun _ _ _ h => h) (Or.inl ⟨by rfl, ?_⟩) ?_ ?_
                                          rotate_left
                                          · intro w'
                                            go_simp
                                            with_reducible rfl
                                          rotate_left
                                          · simp only [Act.put, List.setIfInBounds_toArray, List.set_cons_zero, List.set_cons_succ, i64_w, i32_w]
                                            rfl
                                          refine last_ (i := 10) (N := none) #[true, true, true, true, true, true, true, true, true, true, true] rfl rfl (one_of HT_.out (by kernel_rfl)) (by decide) (fun K hK => ?_)
                                          refine skip_ (w1 := ?_) (by rfl) rfl ?_ ?_
                                          rotate_left
                                          · go_simp
                                            rfl
                                          refine hK.out _ _ ?_
                                          clear hK K
                                          refine done_ (done_of HT_.out (by kernel_rfl)) ?_
                                          have hcz107_0 : w105.cell? ⟨gb169, 0, none⟩ = some (.int .i64 206) := (blk_cell BK169.out 0).trans rfl
                                          have hne107 : gb169 ≠ go92 := by have h_ := Kd.R_ne HO_170001.out BK169.out (by decide); intro e_; exact h_ (by rw [e_]; rfl)
                                          have hnf107 : go92 ≠ gb169 := fun e_ => hne107 e_.symm
                                          have hcz107_1 : w105.cell? ⟨gb169, 1, none⟩ = some (.slice (some ⟨go92, 0, none⟩) y173.length co34) := (blk_cell BK169.out 1).trans rfl
                                          have hcz107_2 : w105.cell? ⟨gb169, 2, none⟩ = some (.string (strOfNums t166)) := (blk_cell BK169.out 2).trans rfl
                                          have hcz107_3 : w105.cell? ⟨gb169, 3, none⟩ = some (.bool false) := (blk_cell BK169.out 3).trans rfl
                                          have hfz107_0 := blk_frozen BK169.out 0
                                          have hfz107_1 := blk_frozen BK169.out 1
                                          have hfz107_2 := blk_frozen BK169.out 2
                                          have hfz107_3 := blk_frozen BK169.out 3
                                          try go_wp2_with (first | ((with_reducible refine gate_callee (f := 19) rfl ?_); refine goesL_ (some 150) rfl rfl Tryd.func19 (by kernel_rfl) rfl #[.agg #[.int .i64 206, .slice (some ⟨go92, 0, none⟩) y197.length co34, .string (strOfNums t166), .bool false], .int .i64 t159, .string (⟨#[34, 118, 49, 34]⟩ : ByteArray)] rfl (by (try simp only [List.map_toArray, List.map_cons, List.map_nil]); first | done | (rw [show y197.length = y173.length from (Kd.R_reads' HQ106.out).1.symm] <;> rfl) | rfl | (simp only [List.length_drop, List.length_take]; rfl)) ?_; (with_reducible refine (part_Fits.calls kj30 206 _ _ y197 (strOfNums t166) false t159 (⟨#[34, 118, 49, 34]⟩ : ByteArray) t198 false _ ?side1 ?side2 ?side3 A93.out).mono ?_); (case side1 => exact Gl.below hG (by repeat (first | (with_reducible first | exact HB.out | apply below_alloc | apply pw_below_drewN | apply below_drew1 | refine below_set ?_ GB92.out | refine below_set ?_ GE169.out) | exact HB.out))); (case side2 => refine (Kd.R_reads' (e := 26) (base := w.heap.size) (ok := fun k_ => True) (n := y173.length) (c := co34) ?_).2.2; exact (by (with_reducible repeat (first | apply Kd.R_alloc | apply Kd.R_drewN | apply Kd.R_drew)); exact HQ106.out)); (case side3 => rw [show y197.length = y173.length from (Kd.R_reads' HQ106.out).1.symm]; exact (Kd.R_reads' HO_170001.out).2.1); rintro e w108 ⟨rfl, hb⟩; refine ⟨_, rfl, ?_⟩; have n0_ := Aside0.mk (Kd.R_below (by (with_reducible repeat (first | apply Kd.R_alloc | apply Kd.R_drewN | apply Kd.R_drew)); exact HQ106.out) hb); have n1_ := Aside0.mk (blk_below (g := gb169) (o := .cells #[.int .i64 206, .slice (some ⟨go92, 0, none⟩) y173.length co34, .string (strOfNums t166), .bool false] 45 (0, 0)) (by (with_reducible repeat (first | refine blk_drewN ?_ _ | refine blk_drew ?_ | refine blk_alloc ?_ _)); refine blk_far ?_ (by have h_ := Kd.R_ne HO_170001.out BK169.out (by decide); intro e_; exact h_ (by rw [e_]; rfl)) _; (with_reducible repeat (first | refine blk_drewN ?_ _ | refine blk_drew ?_ | refine blk_alloc ?_ _)); exact BK169.out) hb); have n2_ := Aside0.mk (below_step (by repeat (first | (with_reducible first | exact HB.out | apply below_alloc | apply pw_below_drewN | apply below_drew1 | refine below_set ?_ GB92.out | refine below_set ?_ GE169.out) | exact HB.out)) hb); clear HO_170001; clear BK169; clear HB; have HO_170001 := n0_; have BK169 := n1_; have HB := n2_; clear n0_ n1_ n2_; (try clear hb); (try clear hb2); (try clear hk); (try clear hi)) | (go_at_call 14; (with_reducible refine (postilionlaw15_wakes.calls kj30  t200 _ ?side1 A98.out).mono ?_); (case side1 => exact Gl.below hG (by repeat (first | (with_reducible first | exact HB.out | apply below_alloc | apply pw_below_drewN | apply below_drew1 | refine below_set ?_ GE169.out) | exact HB.out))); rintro e w109 ⟨rfl, hb⟩; have n0_ := Aside0.mk (Kd.R_below (by (with_reducible repeat (first | apply Kd.R_alloc | apply Kd.R_drewN | apply Kd.R_drew)); exact HO_170001.out) hb); have n1_ := Aside0.mk (blk_below (g := gb169) (o := .cells #[.int .i64 206, .slice (some ⟨go92, 0, none⟩) y173.length co34, .string (strOfNums t166), .bool false] 45 (0, 0)) (by (with_reducible repeat (first | refine blk_drewN ?_ _ | refine blk_drew ?_ | refine blk_alloc ?_ _)); exact BK169.out) hb); have n2_ := Aside0.mk (below_step (by repeat (first | (with_reducible first | exact HB.out | apply below_alloc | apply pw_below_drewN | apply below_drew1 | refine below_set ?_ GE169.out) | exact HB.out)) hb); clear HO_170001; clear BK169; clear HB; have HO_170001 := n0_; have BK169 := n1_; have HB := n2_; clear n0_ n1_ n2_; (try clear hb); (try clear hb2); (try clear hk); (try clear hi)))
                                          go_ret
                                          exact ⟨by first | rfl | (simp [errW_none, errW_some] <;> rfl) | (simp [*, errW_none, errW_some] <;> rfl), by repeat (first | (with_reducible first | exact HB.out | apply below_alloc | apply pw_below_drewN | apply below_drew1 | refine below_set ?_ GE169.out) | exact HB.out)⟩
                                · rw [if_neg c91] at H
                                  exact absurd H (by simp)
                              · rw [if_neg c89] at H
                                have c89b0 : (t185 == 2) = false := beq_eq_false_iff_ne.mpr c89
                                have c89b1 : (t185 != 2) = true := bne_iff_ne.mpr c89
                                by_cases c110 : 0 < (y173.length : Int)
                                · rw [if_pos c110] at H
                                  have c110b0 : decide (0 < (y173.length : Int)) = true := decide_eq_true c110
                                  have c110b1 : decide (0 < y173.length) = true := decide_eq_true (by omega)
                                  clear c110
                                  obtain ⟨y201, hy201⟩ : ∃ y_ : List (S26), y_ = (y173.set (0 : Int).toNat (⟨(rd_T26 y173 0).f0, (⟨#[87, 47, 34, 118, 49, 34]⟩ : ByteArray)⟩ : S26)) := ⟨_, rfl⟩
                                  replace H : ((part_Fits.f kj30 206 y201 (strOfNums t166) false t159 (⟨#[34, 118, 49, 34]⟩ : ByteArray)).bind fun bt202 => (if t180 = true then (some false) else (if t182 = true then (some false) else (if t184 = true then (some false) else (if bt202.2 = true then (some false) else ((postilionlaw15_wakes.f kj30).bind fun t204 => (some t204))))))) = some r := by first | (rw [hy201]; with_reducible exact H) | (have H2_ := (Option.bind_some _ _).symm.trans H; rw [hy201]; with_reducible exact H2_) | (have H2_ := (Option.bind_some _ _).symm.trans H; with_reducible exact H2_) | with_reducible exact H | (rw [hy201]; exact H) | exact H
                                  have Ny201 := Aside0.mk hy201
                                  clear hy201
                                  replace H := Option.bind_eq_some_iff.mp H
                                  obtain ⟨⟨t202, t203⟩, A1120, H⟩ := H
                                  replace H : (if t180 = true then (some false) else (if t182 = true then (some false) else (if t184 = true then (some false) else (if t203 = true then (some false) else ((postilionlaw15_wakes.f kj30).bind fun t204 => (some t204)))))) = some r := H
                                  have A112 := Aside0.mk A1120
                                  clear A1120
                                  by_cases c113 : t180 = true
                                  · subst c113
                                    have H1 : (some false) = some r := by rw [if_pos rfl] at H; exact H
                                    clear H
                                    have H := H1
                                    clear H1
                                    obtain rfl := Option.some.inj H
                                    cases hT
                                  · replace c113 := Bool.eq_false_iff.mpr c113
                                    subst c113
                                    have H1 : (if t182 = true then (some false) else (if t184 = true then (some false) else (if t203 = true then (some false) else ((postilionlaw15_wakes.f kj30).bind fun t204 => (some t204))))) = some r := by rw [if_neg (show ¬ (false = true) by decide)] at H; exact H
                                    clear H
                                    have H := H1
                                    clear H1
                                    by_cases c114 : t182 = true
                                    · subst c114
                                      have H1 : (some false) = some r := by rw [if_pos rfl] at H; exact H
                                      clear H
                                      have H := H1
                                      clear H1
                                      obtain rfl := Option.some.inj H
                                      cases hT
                                    · replace c114 := Bool.eq_false_iff.mpr c114
                                      subst c114
                                      have H1 : (if t184 = true then (some false) else (if t203 = true then (some false) else ((postilionlaw15_wakes.f kj30).bind fun t204 => (some t204)))) = some r := by rw [if_neg (show ¬ (false = true) by decide)] at H; exact H
                                      clear H
                                      have H := H1
                                      clear H1
                                      by_cases c115 : t184 = true
                                      · subst c115
                                        have H1 : (some false) = some r := by rw [if_pos rfl] at H; exact H
                                        clear H
                                        have H := H1
                                        clear H1
                                        obtain rfl := Option.some.inj H
                                        cases hT
                                      · replace c115 := Bool.eq_false_iff.mpr c115
                                        subst c115
                                        have H1 : (if t203 = true then (some false) else ((postilionlaw15_wakes.f kj30).bind fun t204 => (some t204))) = some r := by rw [if_neg (show ¬ (false = true) by decide)] at H; exact H
                                        clear H
                                        have H := H1
                                        clear H1
                                        by_cases c116 : t203 = true
                                        · subst c116
                                          have H1 : (some false) = some r := by rw [if_pos rfl] at H; exact H
                                          clear H
                                          have H := H1
                                          clear H1
                                          obtain rfl := Option.some.inj H
                                          cases hT
                                        · replace c116 := Bool.eq_false_iff.mpr c116
                                          subst c116
                                          have H1 : ((postilionlaw15_wakes.f kj30).bind fun t204 => (some t204)) = some r := by rw [if_neg (show ¬ (false = true) by decide)] at H; exact H
                                          clear H
                                          have H := H1
                                          clear H1
                                          replace H := Option.bind_eq_some_iff.mp H
                                          obtain ⟨t204, A1170, H⟩ := H
                                          replace H : (some t204) = some r := H
                                          have A117 := Aside0.mk A1170
                                          clear A1170
                                          obtain rfl := Option.some.inj H
                                          go_wp2_with (first | ((with_reducible refine gate_callee (f := 11) rfl ?_); refine goesL_ (some 84) rfl rfl Tryd.func11 (by kernel_rfl) rfl #[.int .i64 a2, .int .i64 30] rfl (by (try simp only [List.map_toArray, List.map_cons, List.map_nil]); first | done | rfl | (simp only [List.length_drop, List.length_take]; rfl)) ?_; (with_reducible refine (postilionkeep_Within.calls a2 30 t178 _ A40.out).mono ?_); rintro e w' ⟨rfl, ⟨nd, rfl⟩⟩; refine ⟨_, rfl, ?_⟩; (try (rw [drewN_self wc]; generalize hq_ : World.drewN wc _ = wc; have n0_ : Aside0 (Kd.R k26 26 wc w.heap.size (fun _ => True) (.slice Ao34 y173.length co34) y173) := ⟨by rw [← hq_]; exact (by (with_reducible repeat (first | apply Kd.R_alloc | apply Kd.R_drewN | apply Kd.R_drew)); exact HO_170001.out)⟩; have n1_ : Aside0 (wc.heap[gb169]? = some (.cells #[.int .i64 206, .slice Ao34 y173.length co34, .string (strOfNums t166), .bool false] 45 (0, 0))) := ⟨by rw [← hq_]; exact (by (with_reducible repeat (first | refine blk_drewN ?_ _ | refine blk_drew ?_ | refine blk_alloc ?_ _)); exact BK169.out)⟩; have n2_ : Aside0 (Below w.heap.size w wc) := ⟨by rw [← hq_]; exact (by repeat (first | (with_reducible first | exact HB.out | apply below_alloc | apply pw_below_drewN | apply below_drew1 | refine below_set ?_ GE169.out) | exact HB.out))⟩; clear HO_170001 BK169 HB hq_; have HO_170001 := n0_; have BK169 := n1_; have HB := n2_; clear n0_ n1_ n2_)); have hcz118_0 : wc.cell? ⟨gb169, 0, none⟩ = some (.int .i64 206) := (blk_cell BK169.out 0).trans rfl; have hcz118_1 : wc.cell? ⟨gb169, 1, none⟩ = some (.slice Ao34 y173.length co34) := (blk_cell BK169.out 1).trans rfl; have hcz118_2 : wc.cell? ⟨gb169, 2, none⟩ = some (.string (strOfNums t166)) := (blk_cell BK169.out 2).trans rfl; have hcz118_3 : wc.cell? ⟨gb169, 3, none⟩ = some (.bool false) := (blk_cell BK169.out 3).trans rfl; have hfz118_0 := blk_frozen BK169.out 0; have hfz118_1 := blk_frozen BK169.out 1; have hfz118_2 := blk_frozen BK169.out 2; have hfz118_3 := blk_frozen BK169.out 3) | ((with_reducible refine gate_callee (f := 19) rfl ?_); refine goesL_ (some 91) rfl rfl Tryd.func19 (by kernel_rfl) rfl #[.agg #[.int .i64 206, .slice Ao34 y173.length co34, .string (strOfNums t166), .bool false], .int .i64 (wrap64 (t159 + (wrap64 (1 + t178)))), .string (⟨#[34, 118, 49, 34]⟩ : ByteArray)] rfl (by (try simp only [List.map_toArray, List.map_cons, List.map_nil]); first | done | rfl | (simp only [List.length_drop, List.length_take]; rfl)) ?_; (with_reducible refine (part_Fits.calls kj30 206 _ _ y173 (strOfNums t166) false (wrap64 (t159 + (wrap64 (1 + t178)))) (⟨#[34, 118, 49, 34]⟩ : ByteArray) t179 false _ ?side1 ?side2 ?side3 A41.out).mono ?_); (case side1 => exact Gl.below hG (by repeat (first | (with_reducible first | exact HB.out | apply below_alloc | apply pw_below_drewN | apply below_drew1 | refine below_set ?_ GE169.out) | exact HB.out))); (case side2 => repeat (first | exact (Kd.R_reads' HO_170001.out).2.2 | (with_reducible refine Kd.C_alloc ?_ _) | (with_reducible refine Kd.C_drewN ?_ _) | (with_reducible refine Kd.C_drew ?_))); (case side3 => exact (Kd.R_reads' HO_170001.out).2.1); rintro e w119 ⟨rfl, hb⟩; refine ⟨_, rfl, ?_⟩; have n0_ := Aside0.mk (Kd.R_below (by (with_reducible repeat (first | apply Kd.R_alloc | apply Kd.R_drewN | apply Kd.R_drew)); exact HO_170001.out) hb); have n1_ := Aside0.mk (blk_below (g := gb169) (o := .cells #[.int .i64 206, .slice Ao34 y173.length co34, .string (strOfNums t166), .bool false] 45 (0, 0)) (by (with_reducible repeat (first | refine blk_drewN ?_ _ | refine blk_drew ?_ | refine blk_alloc ?_ _)); exact BK169.out) hb); have n2_ := Aside0.mk (below_step (by repeat (first | (with_reducible first | exact HB.out | apply below_alloc | apply pw_below_drewN | apply below_drew1 | refine below_set ?_ GE169.out) | exact HB.out)) hb); clear HO_170001; clear BK169; clear HB; have HO_170001 := n0_; have BK169 := n1_; have HB := n2_; clear n0_ n1_ n2_; (try clear hb); (try clear hb2); (try clear hk); (try clear hi); have hcz120_0 : w119.cell? ⟨gb169, 0, none⟩ = some (.int .i64 206) := (blk_cell BK169.out 0).trans rfl; have hcz120_1 : w119.cell? ⟨gb169, 1, none⟩ = some (.slice Ao34 y173.length co34) := (blk_cell BK169.out 1).trans rfl; have hcz120_2 : w119.cell? ⟨gb169, 2, none⟩ = some (.string (strOfNums t166)) := (blk_cell BK169.out 2).trans rfl; have hcz120_3 : w119.cell? ⟨gb169, 3, none⟩ = some (.bool false) := (blk_cell BK169.out 3).trans rfl; have hfz120_0 := blk_frozen BK169.out 0; have hfz120_1 := blk_frozen BK169.out 1; have hfz120_2 := blk_frozen BK169.out 2; have hfz120_3 := blk_frozen BK169.out 3) | ((with_reducible refine gate_callee (f := 19) rfl ?_); refine goesL_ (some 97) rfl rfl Tryd.func19 (by kernel_rfl) rfl #[.agg #[.int .i64 206, .slice Ao34 y173.length co34, .string (strOfNums t166), .bool false], .int .i64 t159, .string (⟨#[34, 118, 50, 34]⟩ : ByteArray)] rfl (by (try simp only [List.map_toArray, List.map_cons, List.map_nil]); first | done | rfl | (simp only [List.length_drop, List.length_take]; rfl)) ?_; (with_reducible refine (part_Fits.calls kj30 206 _ _ y173 (strOfNums t166) false t159 (⟨#[34, 118, 50, 34]⟩ : ByteArray) t181 false _ ?side1 ?side2 ?side3 A42.out).mono ?_); (case side1 => exact Gl.below hG (by repeat (first | (with_reducible first | exact HB.out | apply below_alloc | apply pw_below_drewN | apply below_drew1 | refine below_set ?_ GE169.out) | exact HB.out))); (case side2 => repeat (first | exact (Kd.R_reads' HO_170001.out).2.2 | (with_reducible refine Kd.C_alloc ?_ _) | (with_reducible refine Kd.C_drewN ?_ _) | (with_reducible refine Kd.C_drew ?_))); (case side3 => exact (Kd.R_reads' HO_170001.out).2.1); rintro e w121 ⟨rfl, hb⟩; refine ⟨_, rfl, ?_⟩; have n0_ := Aside0.mk (Kd.R_below (by (with_reducible repeat (first | apply Kd.R_alloc | apply Kd.R_drewN | apply Kd.R_drew)); exact HO_170001.out) hb); have n1_ := Aside0.mk (blk_below (g := gb169) (o := .cells #[.int .i64 206, .slice Ao34 y173.length co34, .string (strOfNums t166), .bool false] 45 (0, 0)) (by (with_reducible repeat (first | refine blk_drewN ?_ _ | refine blk_drew ?_ | refine blk_alloc ?_ _)); exact BK169.out) hb); have n2_ := Aside0.mk (below_step (by repeat (first | (with_reducible first | exact HB.out | apply below_alloc | apply pw_below_drewN | apply below_drew1 | refine below_set ?_ GE169.out) | exact HB.out)) hb); clear HO_170001; clear BK169; clear HB; have HO_170001 := n0_; have BK169 := n1_; have HB := n2_; clear n0_ n1_ n2_; (try clear hb); (try clear hb2); (try clear hk); (try clear hi); have hcz122_0 : w121.cell? ⟨gb169, 0, none⟩ = some (.int .i64 206) := (blk_cell BK169.out 0).trans rfl; have hcz122_1 : w121.cell? ⟨gb169, 1, none⟩ = some (.slice Ao34 y173.length co34) := (blk_cell BK169.out 1).trans rfl; have hcz122_2 : w121.cell? ⟨gb169, 2, none⟩ = some (.string (strOfNums t166)) := (blk_cell BK169.out 2).trans rfl; have hcz122_3 : w121.cell? ⟨gb169, 3, none⟩ = some (.bool false) := (blk_cell BK169.out 3).trans rfl; have hfz122_0 := blk_frozen BK169.out 0; have hfz122_1 := blk_frozen BK169.out 1; have hfz122_2 := blk_frozen BK169.out 2; have hfz122_3 := blk_frozen BK169.out 3) | ((with_reducible refine gate_callee (f := 19) rfl ?_); refine goesL_ (some 103) rfl rfl Tryd.func19 (by kernel_rfl) rfl #[.agg #[.int .i64 206, .slice Ao34 y173.length co34, .string (strOfNums t166), .bool false], .int .i64 t159, .string (⟨#[]⟩ : ByteArray)] rfl (by (try simp only [List.map_toArray, List.map_cons, List.map_nil]); first | done | rfl | (simp only [List.length_drop, List.length_take]; rfl)) ?_; (with_reducible refine (part_Fits.calls kj30 206 _ _ y173 (strOfNums t166) false t159 (⟨#[]⟩ : ByteArray) t183 false _ ?side1 ?side2 ?side3 A43.out).mono ?_); (case side1 => exact Gl.below hG (by repeat (first | (with_reducible first | exact HB.out | apply below_alloc | apply pw_below_drewN | apply below_drew1 | refine below_set ?_ GE169.out) | exact HB.out))); (case side2 => repeat (first | exact (Kd.R_reads' HO_170001.out).2.2 | (with_reducible refine Kd.C_alloc ?_ _) | (with_reducible refine Kd.C_drewN ?_ _) | (with_reducible refine Kd.C_drew ?_))); (case side3 => exact (Kd.R_reads' HO_170001.out).2.1); rintro e w123 ⟨rfl, hb⟩; refine ⟨_, rfl, ?_⟩; have n0_ := Aside0.mk (Kd.R_below (by (with_reducible repeat (first | apply Kd.R_alloc | apply Kd.R_drewN | apply Kd.R_drew)); exact HO_170001.out) hb); have n1_ := Aside0.mk (blk_below (g := gb169) (o := .cells #[.int .i64 206, .slice Ao34 y173.length co34, .string (strOfNums t166), .bool false] 45 (0, 0)) (by (with_reducible repeat (first | refine blk_drewN ?_ _ | refine blk_drew ?_ | refine blk_alloc ?_ _)); exact BK169.out) hb); have n2_ := Aside0.mk (below_step (by repeat (first | (with_reducible first | exact HB.out | apply below_alloc | apply pw_below_drewN | apply below_drew1 | refine below_set ?_ GE169.out) | exact HB.out)) hb); clear HO_170001; clear BK169; clear HB; have HO_170001 := n0_; have BK169 := n1_; have HB := n2_; clear n0_ n1_ n2_; (try clear hb); (try clear hb2); (try clear hk); (try clear hi)) | ((with_reducible refine gate_callee (f := 11) rfl ?_); refine goesL_ (some 107) rfl rfl Tryd.func11 (by kernel_rfl) rfl #[.int .i64 a3, .int .i64 4] rfl (by (try simp only [List.map_toArray, List.map_cons, List.map_nil]); first | done | rfl | (simp only [List.length_drop, List.length_take]; rfl)) ?_; (with_reducible refine (postilionkeep_Within.calls a3 4 t185 _ A44.out).mono ?_); rintro e w' ⟨rfl, ⟨nd, rfl⟩⟩; refine ⟨_, rfl, ?_⟩; (try (rw [drewN_self w123]; generalize hq_ : World.drewN w123 _ = w123; have n0_ : Aside0 (Kd.R k26 26 w123 w.heap.size (fun _ => True) (.slice Ao34 y173.length co34) y173) := ⟨by rw [← hq_]; exact (by (with_reducible repeat (first | apply Kd.R_alloc | apply Kd.R_drewN | apply Kd.R_drew)); exact HO_170001.out)⟩; have n1_ : Aside0 (w123.heap[gb169]? = some (.cells #[.int .i64 206, .slice Ao34 y173.length co34, .string (strOfNums t166), .bool false] 45 (0, 0))) := ⟨by rw [← hq_]; exact (by (with_reducible repeat (first | refine blk_drewN ?_ _ | refine blk_drew ?_ | refine blk_alloc ?_ _)); exact BK169.out)⟩; have n2_ : Aside0 (Below w.heap.size w w123) := ⟨by rw [← hq_]; exact (by repeat (first | (with_reducible first | exact HB.out | apply below_alloc | apply pw_below_drewN | apply below_drew1 | refine below_set ?_ GE169.out) | exact HB.out))⟩; clear HO_170001 BK169 HB hq_; have HO_170001 := n0_; have BK169 := n1_; have HB := n2_; clear n0_ n1_ n2_)); have hcz124_0 : w123.cell? ⟨gb169, 0, none⟩ = some (.int .i64 206) := (blk_cell BK169.out 0).trans rfl; have hcz124_1 : w123.cell? ⟨gb169, 1, none⟩ = some (.slice Ao34 y173.length co34) := (blk_cell BK169.out 1).trans rfl; have hcz124_2 : w123.cell? ⟨gb169, 2, none⟩ = some (.string (strOfNums t166)) := (blk_cell BK169.out 2).trans rfl; have hcz124_3 : w123.cell? ⟨gb169, 3, none⟩ = some (.bool false) := (blk_cell BK169.out 3).trans rfl; have hfz124_0 := blk_frozen BK169.out 0; have hfz124_1 := blk_frozen BK169.out 1; have hfz124_2 := blk_frozen BK169.out 2; have hfz124_3 := blk_frozen BK169.out 3; have p111 : 0 ≤ (0 : Int) := (by omega); have q111 : (0 : Int) < ((y173.length : Int) : Int) := of_decide_eq_true (by first | (with_reducible assumption) | assumption); have qi111 : (0 < y173.length) = True := eq_true (by omega); obtain ⟨go111, co111, eo111, gb111, gl111, cl111, HG111⟩ := Kd.R_form HO_170001.out (by omega); (first | cases eo111 | (injection eo111 with ea_ en_ ec_; (first | subst ea_ | (injection ea_ with ea_; subst ea_)); subst ec_; clear en_)); have GB111 := Aside0.mk gb111; have GG111 := Aside0.mk HG111; clear gb111 gl111 HG111; obtain ⟨ce111, hcl111, hM111, hcc111, hfr111⟩ := Kd.R_elem HO_170001.out z26 (0 : Int) p111 q111; obtain rfl := k26_openM hM111; have hx111_0 : w123.cell? ⟨go111, (0 : Int).toNat * 2, none⟩ = some (.string ((rd_T26 y173 0).f0)) := hcc111 0 _ rfl; have hx111_1 : w123.cell? ⟨go111, (0 : Int).toNat * 2 + 1, none⟩ = some (.string ((rd_T26 y173 0).f1)) := hcc111 1 _ rfl; have hf111_0 : w123.frozen? ⟨go111, (0 : Int).toNat * 2, none⟩ = false := hfr111 0; have hf111_1 : w123.frozen? ⟨go111, (0 : Int).toNat * 2 + 1, none⟩ = false := hfr111 1; clear hcl111 hcc111 hfr111 hM111; (try rw [show ((0 : Int)).toNat = 0 from rfl] at hx111_0); (try simp only [Nat.reduceMul, Nat.zero_mul, Nat.zero_add, Nat.reduceAdd] at hx111_0); (try rw [show ((0 : Int)).toNat = 0 from rfl] at hf111_0); (try simp only [Nat.reduceMul, Nat.zero_mul, Nat.zero_add, Nat.reduceAdd] at hf111_0); (try rw [show ((0 : Int)).toNat = 0 from rfl] at hx111_1); (try simp only [Nat.reduceMul, Nat.zero_mul, Nat.zero_add, Nat.reduceAdd] at hx111_1); (try rw [show ((0 : Int)).toNat = 0 from rfl] at hf111_1); (try simp only [Nat.reduceMul, Nat.zero_mul, Nat.zero_add, Nat.reduceAdd] at hf111_1); replace p111 := eq_true p111; replace q111 := eq_true q111; have HX125 := Aside0.mk (show Kd.R k26 26 w123 w.heap.size (fun _ => True) (.slice (some ⟨go111, 0, none⟩) y173.length co34) y173 from (by (with_reducible repeat (first | apply Kd.R_alloc | apply Kd.R_drewN | apply Kd.R_drew)); exact HO_170001.out)); obtain ⟨ce125, hcl125, hM125, hcc125, hfr125⟩ := Kd.R_elem HX125.out z26 (0 : Int) (by omega) (by have h_ : (0 : Int) < ((y173.length : Int) : Int) := of_decide_eq_true (by first | (with_reducible assumption) | assumption); first | exact h_ | (have e_ := (Kd.R_reads' HO_170001.out).1; omega) | simpa using h_); obtain rfl := k26_openM hM125; have HP125 := Kd.R_seg HX125.out (0 : Int) (by omega) (by have h_ : (0 : Int) < ((y173.length : Int) : Int) := of_decide_eq_true (by first | (with_reducible assumption) | assumption); first | exact h_ | (have e_ := (Kd.R_reads' HO_170001.out).1; omega) | simpa using h_) (seg := [.string (⟨#[87, 47, 34, 118, 49, 34]⟩ : ByteArray)]) (j := 1) hcl125 hcc125 (show 2 ≤ 2 from by decide) (x' := (⟨(rd_T26 y173 0).f0, (⟨#[87, 47, 34, 118, 49, 34]⟩ : ByteArray)⟩ : S26)) (k26_mkM _ _ _ (⟨(rd_T26 y173 0).f0, (⟨#[87, 47, 34, 118, 49, 34]⟩ : ByteArray)⟩ : S26) ) (fun _ hk => hk); have hx125_1 := hcc125 1 _ rfl; (try simp only [show (k26).sz = 2 from rfl, Nat.mul_one, Nat.add_zero] at hx125_1); (try rw [show ((0 : Int)).toNat = 0 from rfl] at hx125_1); (try simp only [Nat.reduceMul, Nat.zero_mul, Nat.zero_add, Nat.reduceAdd] at hx125_1); have hf125_1 := hfr125 1; (try simp only [show (k26).sz = 2 from rfl, Nat.mul_one, Nat.add_zero] at hf125_1); (try rw [show ((0 : Int)).toNat = 0 from rfl] at hf125_1); (try simp only [Nat.reduceMul, Nat.zero_mul, Nat.zero_add, Nat.reduceAdd] at hf125_1); clear hcl125 hcc125 hfr125 hM125) | ((with_reducible refine gate_store (t := 9) (p := 111) rfl ?_); refine store_event (t := 9) (p := 111) (v := ?vo_w126) (w1 := (w123.setCell ⟨go111, 1, none⟩ (.string (⟨#[87, 47, 34, 118, 49, 34]⟩ : ByteArray)))) ?hg ?ho ?hn ?hr ?_; (case ho => rfl); (case hg => rfl); (case hn => rfl); (case hr => first | (go_simp; done) | (go_simp; rfl)); intro w126 hw; have hg : w123.grownBy w126 (some go111) := (by rw [hw]; exact HP125.2); have hp_ : Kd.R k26 26 w126 w.heap.size (fun _ => True) (.slice (some ⟨go111, 0, none⟩) y173.length co34) y201 := (by rw [hw, Ny201.out]; exact HP125.1); clear HP125; have n0_ := Aside0.mk (hp_); have n1_ := Aside0.mk (blk_grown (g := gb169) (o := .cells #[.int .i64 206, .slice (some ⟨go111, 0, none⟩) y173.length co34, .string (strOfNums t166), .bool false] 45 (0, 0)) (by (with_reducible repeat (first | refine blk_drewN ?_ _ | refine blk_drew ?_ | refine blk_alloc ?_ _)); exact BK169.out) hg (Kd.R_ne HO_170001.out BK169.out (by decide))); have n2_ := Aside0.mk ((by rw [hw]; exact below_set (HB.out) GB111.out : Below w.heap.size w w126)); clear HO_170001; clear BK169; clear HB; have HO_170001 := n0_; have BK169 := n1_; have HB := n2_; clear n0_ n1_ n2_; clear hg hw hp_; have hcz127_0 : w126.cell? ⟨gb169, 0, none⟩ = some (.int .i64 206) := (blk_cell BK169.out 0).trans rfl; have hcz127_1 : w126.cell? ⟨gb169, 1, none⟩ = some (.slice (some ⟨go111, 0, none⟩) y173.length co34) := (blk_cell BK169.out 1).trans rfl; have hcz127_2 : w126.cell? ⟨gb169, 2, none⟩ = some (.string (strOfNums t166)) := (blk_cell BK169.out 2).trans rfl; have hcz127_3 : w126.cell? ⟨gb169, 3, none⟩ = some (.bool false) := (blk_cell BK169.out 3).trans rfl; have hfz127_0 := blk_frozen BK169.out 0; have hfz127_1 := blk_frozen BK169.out 1; have hfz127_2 := blk_frozen BK169.out 2; have hfz127_3 := blk_frozen BK169.out 3) | ((with_reducible refine gate_callee (f := 19) rfl ?_); refine goesL_ (some 150) rfl rfl Tryd.func19 (by kernel_rfl) rfl #[.agg #[.int .i64 206, .slice (some ⟨go111, 0, none⟩) y201.length co34, .string (strOfNums t166), .bool false], .int .i64 t159, .string (⟨#[34, 118, 49, 34]⟩ : ByteArray)] rfl (by (try simp only [List.map_toArray, List.map_cons, List.map_nil]); first | done | (rw [show y201.length = y173.length from (Kd.R_reads' HO_170001.out).1.symm] <;> rfl) | rfl | (simp only [List.length_drop, List.length_take]; rfl)) ?_; (with_reducible refine (part_Fits.calls kj30 206 _ _ y201 (strOfNums t166) false t159 (⟨#[34, 118, 49, 34]⟩ : ByteArray) t202 false _ ?side1 ?side2 ?side3 A112.out).mono ?_); (case side1 => exact Gl.below hG (by repeat (first | (with_reducible first | exact HB.out | apply below_alloc | apply pw_below_drewN | apply below_drew1 | refine below_set ?_ GE169.out) | exact HB.out))); (case side2 => repeat (first | exact (Kd.R_reads' HO_170001.out).2.2 | (with_reducible refine Kd.C_alloc ?_ _) | (with_reducible refine Kd.C_drewN ?_ _) | (with_reducible refine Kd.C_drew ?_))); (case side3 => rw [show y201.length = y173.length from (Kd.R_reads' HO_170001.out).1.symm]; exact (Kd.R_reads' HO_170001.out).2.1); rintro e w128 ⟨rfl, hb⟩; refine ⟨_, rfl, ?_⟩; have n0_ := Aside0.mk (Kd.R_below (by (with_reducible repeat (first | apply Kd.R_alloc | apply Kd.R_drewN | apply Kd.R_drew)); exact HO_170001.out) hb); have n1_ := Aside0.mk (blk_below (g := gb169) (o := .cells #[.int .i64 206, .slice (some ⟨go111, 0, none⟩) y173.length co34, .string (strOfNums t166), .bool false] 45 (0, 0)) (by (with_reducible repeat (first | refine blk_drewN ?_ _ | refine blk_drew ?_ | refine blk_alloc ?_ _)); exact BK169.out) hb); have n2_ := Aside0.mk (below_step (by repeat (first | (with_reducible first | exact HB.out | apply below_alloc | apply pw_below_drewN | apply below_drew1 | refine below_set ?_ GE169.out) | exact HB.out)) hb); clear HO_170001; clear BK169; clear HB; have HO_170001 := n0_; have BK169 := n1_; have HB := n2_; clear n0_ n1_ n2_; (try clear hb); (try clear hb2); (try clear hk); (try clear hi)) | (go_at_call 14; (with_reducible refine (postilionlaw15_wakes.calls kj30  t204 _ ?side1 A117.out).mono ?_); (case side1 => exact Gl.below hG (by repeat (first | (with_reducible first | exact HB.out | apply below_alloc | apply pw_below_drewN | apply below_drew1 | refine below_set ?_ GE169.out) | exact HB.out))); rintro e w129 ⟨rfl, hb⟩; have n0_ := Aside0.mk (Kd.R_below (by (with_reducible repeat (first | apply Kd.R_alloc | apply Kd.R_drewN | apply Kd.R_drew)); exact HO_170001.out) hb); have n1_ := Aside0.mk (blk_below (g := gb169) (o := .cells #[.int .i64 206, .slice (some ⟨go111, 0, none⟩) y173.length co34, .string (strOfNums t166), .bool false] 45 (0, 0)) (by (with_reducible repeat (first | refine blk_drewN ?_ _ | refine blk_drew ?_ | refine blk_alloc ?_ _)); exact BK169.out) hb); have n2_ := Aside0.mk (below_step (by repeat (first | (with_reducible first | exact HB.out | apply below_alloc | apply pw_below_drewN | apply below_drew1 | refine below_set ?_ GE169.out) | exact HB.out)) hb); clear HO_170001; clear BK169; clear HB; have HO_170001 := n0_; have BK169 := n1_; have HB := n2_; clear n0_ n1_ n2_; (try clear hb); (try clear hb2); (try clear hk); (try clear hi)))
                                          go_ret
                                          exact ⟨by first | rfl | (simp [errW_none, errW_some] <;> rfl) | (simp [*, errW_none, errW_some] <;> rfl), by repeat (first | (with_reducible first | exact HB.out | apply below_alloc | apply pw_below_drewN | apply below_drew1 | refine below_set ?_ GE169.out) | exact HB.out)⟩
                                · rw [if_neg c110] at H
                                  exact absurd H (by simp)
                  · rw [if_neg c29] at H
                    exact absurd H (by simp)
          · rw [if_neg c14] at H
            exact absurd H (by simp)
        · rw [if_neg c12] at H
          exact absurd H (by simp)
      · rw [if_neg c11] at H
        exact absurd H (by simp)
    · rw [if_neg c9] at H
      exact absurd H (by simp)
  · rw [if_neg c8] at H
    exact absurd H (by simp)

/-- THE ONE PURE STATEMENT of postilionlaw15_PartFits: yours. -/
def postilionlaw15_PartFits.Pure : Prop := ∀ (a0 : Int) (a1 : Int) (a2 : Int) (a3 : Int), (Lit.int .i64 a0).wf = true → (Lit.int .i64 a1).wf = true → (Lit.int .i64 a2).wf = true → (Lit.int .i64 a3).wf = true → ∃ k, postilionlaw15_PartFits.f k a0 a1 a2 a3 = some true
theorem postilionlaw15_PartFits.walk (P : postilionlaw15_PartFits.Pure) (a0 : Int) (a1 : Int) (a2 : Int) (a3 : Int) (w : World) (w0 : (Lit.int .i64 a0).wf = true) (w1 : (Lit.int .i64 a1).wf = true) (w2 : (Lit.int .i64 a2).wf = true) (w3 : (Lit.int .i64 a3).wf = true) (hG : Gl w) :
    Calls Tryd.prog 6 #[.int .i64 a0, .int .i64 a1, .int .i64 a2, .int .i64 a3] w fun e w' => e = .returned (.bool true) ∧ Below w.heap.size w w' := by
  obtain ⟨k, h⟩ := P a0 a1 a2 a3 w0 w1 w2 w3
  refine (postilionlaw15_PartFits.calls k a0 a1 a2 a3 true w hG rfl h).mono ?_
  rintro e w' ⟨rfl, hd⟩
  exact ⟨rfl, hd⟩

end Go.Proofs.YtiabjeeelgkneaaDoor.GPartFits
