-- Made by this session's changed copy of the kit's printer (wip/myprint). Not trusted: Lean checks it.
import Derived.Test.YtllblgjhoeopjaaDoorVGCorsTellsx0
import Derived.Test.YtllblgjhoeopjaaDoorVGCorsTellsx1
import Derived.Test.YtllblgjhoeopjaaDoorVGCorsTellsx2
import Derived.Test.YtllblgjhoeopjaaDoorVGCorsTellsx3
import Derived.Test.YtllblgjhoeopjaaDoorVGCorsTellsx4
import Derived.Test.YtllblgjhoeopjaaDoorVGCorsTellsx5
import Derived.Test.YtllblgjhoeopjaaDoorVGPrex
import Derived.Test.YtllblgjhoeopjaaDoorVGUnsafex
import Derived.Test.YtllblgjhoeopjaaDoorVGivC
import Derived.Test.YtllblgjhoeopjaaDoorVGivPre
import Derived.Test.YtllblgjhoeopjaaDoorVGivUns
namespace Go.Proofs.YtllblgjhoeopjaaDoor.GCorsTells
open Go.RowKit GivC Mw GPre GivPre GUnsafe GivUns Go.Proofs.YtllblgjhoeopjaaDoorW.PrintWords Go.Proofs.YtllblgjhoeopjaaDoorW.PrintLast Go.Proofs.YtllblgjhoeopjaaDoorW.PrintMore
attribute [local go_sem] max2_int min2_int max_two min_two max_three min_three max_four min_four   -- for this text's walks alone
set_option linter.unusedVariables false
set_option linter.unusedSimpArgs false

/-! ### postilionlaw13_CorsTells: function 6 -/
def postilionlaw13_CorsTells.f (k : Nat) (a0 : Int) (a1 : Int) (a2 : Int) (l3 : List Int) (a4 : ByteArray) (a5 : Bool) : Option (Bool) := (postilionplay_Reply.f k a0 l3 a4).bind fun bt211 => ((postilionplay_Heads.f k a1 (⟨#[]⟩ : ByteArray)).bind fun t218 => ((some (([(⟨#[71, 69, 84]⟩ : ByteArray), (⟨#[80, 79, 83, 84]⟩ : ByteArray), (⟨#[80, 85, 84]⟩ : ByteArray), (⟨#[68, 69, 76, 69, 84, 69]⟩ : ByteArray), (⟨#[72, 69, 65, 68]⟩ : ByteArray), (⟨#[112, 117, 116]⟩ : ByteArray), (⟨#[]⟩ : ByteArray)] : List ByteArray) : List ByteArray)).bind fun y221 => ((postilionkeep_Within.f (wrap64 (Int.tdiv a1 7)) 7).bind fun t224 => (if 0 ≤ t224 then (if t224 < (y221.length : Int) then ((some (([(⟨#[104, 116, 116, 112, 115, 58, 47, 47, 97, 46, 98]⟩ : ByteArray), (⟨#[104, 116, 116, 112, 58, 47, 47, 97, 46, 98]⟩ : ByteArray), (⟨#[110, 117, 108, 108]⟩ : ByteArray), (⟨#[42]⟩ : ByteArray), (⟨#[]⟩ : ByteArray)] : List ByteArray) : List ByteArray)).bind fun y226 => ((postilionkeep_Within.f a2 5).bind fun t229 => (if 0 ≤ t229 then (if t229 < (y226.length : Int) then ((cors_Plain.f k (rdOf ByteArray.empty y221 t224) t218).bind fun t231 => ((postilionref01_Plain.f k (rdOf ByteArray.empty y221 t224) t218).bind fun t232 => (if (t231 == t232) = true then ((postilionlaw13_To.f bt211.1 bt211.2.1 bt211.2.2.1 bt211.2.2.2).bind fun bt233 => ((cors_Check.f k bt233.1 bt233.2.1 bt233.2.2.1 bt233.2.2.2 (rdOf ByteArray.empty y226 t229) a5).bind fun t239 => ((postilionref01_Cors.f k bt211.1 bt211.2.1 bt211.2.2.1 bt211.2.2.2 (rdOf ByteArray.empty y226 t229) a5).bind fun t240 => (if (t239 == t240) = true then ((postilionlaw13_To.f bt211.1 bt211.2.1 bt211.2.2.1 bt211.2.2.2).bind fun bt241 => ((cors_Pre.f k bt241.1 bt241.2.1 bt241.2.2.1 bt241.2.2.2 (rdOf ByteArray.empty y226 t229) a5 (rdOf ByteArray.empty y221 t224) t218).bind fun t247 => ((postilionref01_Pre.f k bt211.1 bt211.2.1 bt211.2.2.1 bt211.2.2.2 (rdOf ByteArray.empty y226 t229) a5 (rdOf ByteArray.empty y221 t224) t218).bind fun t248 => (if (t247 == t248) = true then ((cors_List.f k a4).bind fun t249 => ((postilionref01_List.f k a4).bind fun t252 => ((postilionkeep_Same_string.f k t249 t252).bind fun t255 => (if t255 = true then (if a4.size + 8 ≤ 9223372036854775807 then (if a4.size + 8 + a4.size ≤ 9223372036854775807 then ((cors_List.f k ((a4 ++ (⟨#[44, 32, 65, 44, 44, 98, 32, 44]⟩ : ByteArray)) ++ a4)).bind fun t256 => ((postilionref01_List.f k ((a4 ++ (⟨#[44, 32, 65, 44, 44, 98, 32, 44]⟩ : ByteArray)) ++ a4)).bind fun t259 => ((postilionkeep_Same_string.f k t256 t259).bind fun t262 => (if t262 = true then ((postilionlaw13_wakes.f k).bind fun t263 => (some t263)) else (some false))))) else (none)) else (none)) else (some false))))) else (some false))))) else (some false))))) else (some false)))) else (none)) else (none)))) else (none)) else (none)))))
theorem postilionlaw13_CorsTells.mono : ∀ a0 a1 a2 a3 a4 a5 k, LeO (postilionlaw13_CorsTells.f k a0 a1 a2 a3 a4 a5) (postilionlaw13_CorsTells.f (k + 1) a0 a1 a2 a3 a4 a5) := by
  intro a0 a1 a2 a3 a4 a5 k
  unfold postilionlaw13_CorsTells.f
  repeat' first
      | (with_reducible exact cors_Check.mono _ _ _ _ _ _ _)
      | (with_reducible exact cors_List.mono _ _)
      | (with_reducible exact cors_Plain.mono _ _ _)
      | (with_reducible exact cors_Pre.mono _ _ _ _ _ _ _ _ _)
      | (with_reducible exact postilionkeep_Same_string.mono _ _ _)
      | (with_reducible exact postilionlaw13_wakes.mono _)
      | (with_reducible exact postilionplay_Heads.mono _ _ _)
      | (with_reducible exact postilionplay_Reply.mono _ _ _ _)
      | (with_reducible exact postilionref01_Cors.mono _ _ _ _ _ _ _)
      | (with_reducible exact postilionref01_List.mono _ _)
      | (with_reducible exact postilionref01_Plain.mono _ _ _)
      | (with_reducible exact postilionref01_Pre.mono _ _ _ _ _ _ _ _ _)
      | (with_reducible exact LeO.refl _)
      | (with_reducible exact LeO.none _)
      | (with_reducible refine LeO.ite ?_ ?_)
      | (with_reducible refine LeO.bind ?_ (fun _ => ?_))
      | exact cors_Check.mono _ _ _ _ _ _ _
      | exact cors_List.mono _ _
      | exact cors_Plain.mono _ _ _
      | exact cors_Pre.mono _ _ _ _ _ _ _ _ _
      | exact postilionkeep_Same_string.mono _ _ _
      | exact postilionlaw13_wakes.mono _
      | exact postilionplay_Heads.mono _ _ _
      | exact postilionplay_Reply.mono _ _ _ _
      | exact postilionref01_Cors.mono _ _ _ _ _ _ _
      | exact postilionref01_List.mono _ _
      | exact postilionref01_Plain.mono _ _ _
      | exact postilionref01_Pre.mono _ _ _ _ _ _ _ _ _
      | exact LeO.none _
      | refine LeO.ite ?_ ?_
      | refine LeO.bind ?_ (fun _ => ?_)
def postilionlaw13_CorsTells.T5 : Bool × List (List Nat × List Nat) := (true, [([], []), ([], []), ([0, 1], [0, 1]), ([], []), ([], []), ([3, 4, 2], [3, 4]), ([2, 5], [2, 5]), ([6, 5], [6]), ([7], [7]), ([8, 7, 7], [7, 8]), ([7], [7]), ([7], [7]), ([9, 10, 11, 9, 7], [7, 9, 10, 11]), ([7], [7]), ([7], [7]), ([7], [7]), ([13, 14, 15, 12, 7], [7, 13, 14, 15]), ([12, 16, 7], [7, 12, 16]), ([7, 17], [7, 17]), ([18, 16], [18]), ([19], [19]), ([20, 19, 19], [19, 20]), ([19], [19]), ([19], [19]), ([19], [19]), ([19], [19]), ([21, 22, 23, 24, 25, 21, 19], [19, 21, 22, 23, 24, 25]), ([19], [19]), ([19], [19]), ([19], [19]), ([19], [19]), ([19], [19]), ([27, 28, 29, 30, 31, 26, 19], [19, 27, 28, 29, 30, 31]), ([26, 32, 19], [19, 26, 32]), ([19, 33], [19, 33]), ([34, 32], [34]), ([35], [35]), ([36, 35, 35], [35, 36]), ([35], [35]), ([38, 37, 35], [35, 38]), ([37, 39, 39, 35], [35, 37, 39]), ([35, 40], [35, 40]), ([41, 40], [41]), ([42], [42]), ([43, 42], [42, 43]), ([42], [42]), ([44, 45, 42], [42, 44, 45]), ([46, 42, 42], [42, 46]), ([42], [42]), ([48, 42], [42, 48]), ([42], [42]), ([49, 50, 42], [42, 49, 50]), ([51, 47, 42], [42, 51]), ([47, 52, 52, 42], [42, 47, 52]), ([42, 53], [42, 53]), ([54, 53], [54]), ([55, 55], [55]), ([55, 56], [55, 56]), ([57, 56, 0, 1, 2, 3, 4, 5, 6, 7, 8, 9, 10, 11, 12, 13, 14, 15, 16, 17, 18, 19, 20, 21, 22, 23, 24, 25, 26, 27, 28, 29, 30, 31, 32, 33, 34, 35, 36, 37, 38, 39, 40, 41, 42, 43, 44, 45, 46, 47, 48, 49, 50, 51, 52, 53, 54, 55, 56, 57], [57])])
def postilionlaw13_CorsTells.B5 : List Nat := [0, 0, 3, 0, 0, 31, 63, 127, 255, 511, 255, 255, 4095, 255, 255, 255, 65535, 131071, 262143, 524287, 1048575, 2097151, 1048575, 1048575, 1048575, 1048575, 67108863, 1048575, 1048575, 1048575, 1048575, 1048575, 4294967295, 8589934591, 17179869183, 34359738367, 68719476735, 137438953471, 68719476735, 549755813887, 1099511627775, 2199023255551, 4398046511103, 8796093022207, 17592186044415, 8796093022207, 70368744177663, 140737488355327, 8796093022207, 290271069732863, 8796093022207, 1979120929996799, 4503599627370495, 9007199254740991, 18014398509481983, 36028797018963967, 72057594037927935, 144115188075855871, 288230376151711743]
theorem postilionlaw13_CorsTells.tab5 : rtab .any (opsOf Tryd.f6 5) = postilionlaw13_CorsTells.T5 := by kernel_rfl
theorem postilionlaw13_CorsTells.bits5 : waitsOk postilionlaw13_CorsTells.T5.2 postilionlaw13_CorsTells.B5 = true := by kernel_rfl
set_option maxHeartbeats 8000000 in
set_option maxRecDepth 100000 in
theorem postilionlaw13_CorsTells.calls (k : Nat) (a0 : Int) (a1 : Int) (a2 : Int) (A3 : Option Addr) (c3 : Nat) (l3 : List Int) (a4 : ByteArray) (a5 : Bool) (r : Bool) (w : World) (hG : Gl w) (hr3 : Kd.C (Kd.int .i64) w A3 l3.length l3) (hc3 : l3.length ≤ c3) (hT : r = true) (h : postilionlaw13_CorsTells.f k a0 a1 a2 l3 a4 a5 = some r) :
    Calls Tryd.prog 6 #[.int .i64 a0, .int .i64 a1, .int .i64 a2, .slice A3 l3.length c3, .string a4, .bool a5] w fun e w' => e = .returned (.bool r) ∧ Below w.heap.size w w' := by
  have hu45 := Tryd.underlying45
  have HR3 := Aside0.mk hr3
  have HC3 := Aside0.mk hc3
  clear hr3 hc3
  have HB := Aside0.mk (Below.refl w.heap.size w)
  have H : ((postilionplay_Reply.f k a0 l3 a4).bind fun bt211 => ((postilionplay_Heads.f k a1 (⟨#[]⟩ : ByteArray)).bind fun t218 => ((some (([(⟨#[71, 69, 84]⟩ : ByteArray), (⟨#[80, 79, 83, 84]⟩ : ByteArray), (⟨#[80, 85, 84]⟩ : ByteArray), (⟨#[68, 69, 76, 69, 84, 69]⟩ : ByteArray), (⟨#[72, 69, 65, 68]⟩ : ByteArray), (⟨#[112, 117, 116]⟩ : ByteArray), (⟨#[]⟩ : ByteArray)] : List ByteArray) : List ByteArray)).bind fun y221 => ((postilionkeep_Within.f (wrap64 (Int.tdiv a1 7)) 7).bind fun t224 => (if 0 ≤ t224 then (if t224 < (y221.length : Int) then ((some (([(⟨#[104, 116, 116, 112, 115, 58, 47, 47, 97, 46, 98]⟩ : ByteArray), (⟨#[104, 116, 116, 112, 58, 47, 47, 97, 46, 98]⟩ : ByteArray), (⟨#[110, 117, 108, 108]⟩ : ByteArray), (⟨#[42]⟩ : ByteArray), (⟨#[]⟩ : ByteArray)] : List ByteArray) : List ByteArray)).bind fun y226 => ((postilionkeep_Within.f a2 5).bind fun t229 => (if 0 ≤ t229 then (if t229 < (y226.length : Int) then ((cors_Plain.f k (rdOf ByteArray.empty y221 t224) t218).bind fun t231 => ((postilionref01_Plain.f k (rdOf ByteArray.empty y221 t224) t218).bind fun t232 => (if (t231 == t232) = true then ((postilionlaw13_To.f bt211.1 bt211.2.1 bt211.2.2.1 bt211.2.2.2).bind fun bt233 => ((cors_Check.f k bt233.1 bt233.2.1 bt233.2.2.1 bt233.2.2.2 (rdOf ByteArray.empty y226 t229) a5).bind fun t239 => ((postilionref01_Cors.f k bt211.1 bt211.2.1 bt211.2.2.1 bt211.2.2.2 (rdOf ByteArray.empty y226 t229) a5).bind fun t240 => (if (t239 == t240) = true then ((postilionlaw13_To.f bt211.1 bt211.2.1 bt211.2.2.1 bt211.2.2.2).bind fun bt241 => ((cors_Pre.f k bt241.1 bt241.2.1 bt241.2.2.1 bt241.2.2.2 (rdOf ByteArray.empty y226 t229) a5 (rdOf ByteArray.empty y221 t224) t218).bind fun t247 => ((postilionref01_Pre.f k bt211.1 bt211.2.1 bt211.2.2.1 bt211.2.2.2 (rdOf ByteArray.empty y226 t229) a5 (rdOf ByteArray.empty y221 t224) t218).bind fun t248 => (if (t247 == t248) = true then ((cors_List.f k a4).bind fun t249 => ((postilionref01_List.f k a4).bind fun t252 => ((postilionkeep_Same_string.f k t249 t252).bind fun t255 => (if t255 = true then (if a4.size + 8 ≤ 9223372036854775807 then (if a4.size + 8 + a4.size ≤ 9223372036854775807 then ((cors_List.f k ((a4 ++ (⟨#[44, 32, 65, 44, 44, 98, 32, 44]⟩ : ByteArray)) ++ a4)).bind fun t256 => ((postilionref01_List.f k ((a4 ++ (⟨#[44, 32, 65, 44, 44, 98, 32, 44]⟩ : ByteArray)) ++ a4)).bind fun t259 => ((postilionkeep_Same_string.f k t256 t259).bind fun t262 => (if t262 = true then ((postilionlaw13_wakes.f k).bind fun t263 => (some t263)) else (some false))))) else (none)) else (none)) else (some false))))) else (some false))))) else (some false))))) else (some false)))) else (none)) else (none)))) else (none)) else (none)))))) = some r := h
  clear h
  replace H := Option.bind_eq_some_iff.mp H
  obtain ⟨⟨t211, t212, t215, t216⟩, A70, H⟩ := H
  replace H : ((postilionplay_Heads.f k a1 (⟨#[]⟩ : ByteArray)).bind fun t218 => ((some (([(⟨#[71, 69, 84]⟩ : ByteArray), (⟨#[80, 79, 83, 84]⟩ : ByteArray), (⟨#[80, 85, 84]⟩ : ByteArray), (⟨#[68, 69, 76, 69, 84, 69]⟩ : ByteArray), (⟨#[72, 69, 65, 68]⟩ : ByteArray), (⟨#[112, 117, 116]⟩ : ByteArray), (⟨#[]⟩ : ByteArray)] : List ByteArray) : List ByteArray)).bind fun y221 => ((postilionkeep_Within.f (wrap64 (Int.tdiv a1 7)) 7).bind fun t224 => (if 0 ≤ t224 then (if t224 < (y221.length : Int) then ((some (([(⟨#[104, 116, 116, 112, 115, 58, 47, 47, 97, 46, 98]⟩ : ByteArray), (⟨#[104, 116, 116, 112, 58, 47, 47, 97, 46, 98]⟩ : ByteArray), (⟨#[110, 117, 108, 108]⟩ : ByteArray), (⟨#[42]⟩ : ByteArray), (⟨#[]⟩ : ByteArray)] : List ByteArray) : List ByteArray)).bind fun y226 => ((postilionkeep_Within.f a2 5).bind fun t229 => (if 0 ≤ t229 then (if t229 < (y226.length : Int) then ((cors_Plain.f k (rdOf ByteArray.empty y221 t224) t218).bind fun t231 => ((postilionref01_Plain.f k (rdOf ByteArray.empty y221 t224) t218).bind fun t232 => (if (t231 == t232) = true then ((postilionlaw13_To.f t211 t212 t215 t216).bind fun bt233 => ((cors_Check.f k bt233.1 bt233.2.1 bt233.2.2.1 bt233.2.2.2 (rdOf ByteArray.empty y226 t229) a5).bind fun t239 => ((postilionref01_Cors.f k t211 t212 t215 t216 (rdOf ByteArray.empty y226 t229) a5).bind fun t240 => (if (t239 == t240) = true then ((postilionlaw13_To.f t211 t212 t215 t216).bind fun bt241 => ((cors_Pre.f k bt241.1 bt241.2.1 bt241.2.2.1 bt241.2.2.2 (rdOf ByteArray.empty y226 t229) a5 (rdOf ByteArray.empty y221 t224) t218).bind fun t247 => ((postilionref01_Pre.f k t211 t212 t215 t216 (rdOf ByteArray.empty y226 t229) a5 (rdOf ByteArray.empty y221 t224) t218).bind fun t248 => (if (t247 == t248) = true then ((cors_List.f k a4).bind fun t249 => ((postilionref01_List.f k a4).bind fun t252 => ((postilionkeep_Same_string.f k t249 t252).bind fun t255 => (if t255 = true then (if a4.size + 8 ≤ 9223372036854775807 then (if a4.size + 8 + a4.size ≤ 9223372036854775807 then ((cors_List.f k ((a4 ++ (⟨#[44, 32, 65, 44, 44, 98, 32, 44]⟩ : ByteArray)) ++ a4)).bind fun t256 => ((postilionref01_List.f k ((a4 ++ (⟨#[44, 32, 65, 44, 44, 98, 32, 44]⟩ : ByteArray)) ++ a4)).bind fun t259 => ((postilionkeep_Same_string.f k t256 t259).bind fun t262 => (if t262 = true then ((postilionlaw13_wakes.f k).bind fun t263 => (some t263)) else (some false))))) else (none)) else (none)) else (some false))))) else (some false))))) else (some false))))) else (some false)))) else (none)) else (none)))) else (none)) else (none))))) = some r := H
  have A7 := Aside0.mk A70
  clear A70
  replace H := Option.bind_eq_some_iff.mp H
  obtain ⟨t218, A80, H⟩ := H
  replace H : ((some (([(⟨#[71, 69, 84]⟩ : ByteArray), (⟨#[80, 79, 83, 84]⟩ : ByteArray), (⟨#[80, 85, 84]⟩ : ByteArray), (⟨#[68, 69, 76, 69, 84, 69]⟩ : ByteArray), (⟨#[72, 69, 65, 68]⟩ : ByteArray), (⟨#[112, 117, 116]⟩ : ByteArray), (⟨#[]⟩ : ByteArray)] : List ByteArray) : List ByteArray)).bind fun y221 => ((postilionkeep_Within.f (wrap64 (Int.tdiv a1 7)) 7).bind fun t224 => (if 0 ≤ t224 then (if t224 < (y221.length : Int) then ((some (([(⟨#[104, 116, 116, 112, 115, 58, 47, 47, 97, 46, 98]⟩ : ByteArray), (⟨#[104, 116, 116, 112, 58, 47, 47, 97, 46, 98]⟩ : ByteArray), (⟨#[110, 117, 108, 108]⟩ : ByteArray), (⟨#[42]⟩ : ByteArray), (⟨#[]⟩ : ByteArray)] : List ByteArray) : List ByteArray)).bind fun y226 => ((postilionkeep_Within.f a2 5).bind fun t229 => (if 0 ≤ t229 then (if t229 < (y226.length : Int) then ((cors_Plain.f k (rdOf ByteArray.empty y221 t224) t218).bind fun t231 => ((postilionref01_Plain.f k (rdOf ByteArray.empty y221 t224) t218).bind fun t232 => (if (t231 == t232) = true then ((postilionlaw13_To.f t211 t212 t215 t216).bind fun bt233 => ((cors_Check.f k bt233.1 bt233.2.1 bt233.2.2.1 bt233.2.2.2 (rdOf ByteArray.empty y226 t229) a5).bind fun t239 => ((postilionref01_Cors.f k t211 t212 t215 t216 (rdOf ByteArray.empty y226 t229) a5).bind fun t240 => (if (t239 == t240) = true then ((postilionlaw13_To.f t211 t212 t215 t216).bind fun bt241 => ((cors_Pre.f k bt241.1 bt241.2.1 bt241.2.2.1 bt241.2.2.2 (rdOf ByteArray.empty y226 t229) a5 (rdOf ByteArray.empty y221 t224) t218).bind fun t247 => ((postilionref01_Pre.f k t211 t212 t215 t216 (rdOf ByteArray.empty y226 t229) a5 (rdOf ByteArray.empty y221 t224) t218).bind fun t248 => (if (t247 == t248) = true then ((cors_List.f k a4).bind fun t249 => ((postilionref01_List.f k a4).bind fun t252 => ((postilionkeep_Same_string.f k t249 t252).bind fun t255 => (if t255 = true then (if a4.size + 8 ≤ 9223372036854775807 then (if a4.size + 8 + a4.size ≤ 9223372036854775807 then ((cors_List.f k ((a4 ++ (⟨#[44, 32, 65, 44, 44, 98, 32, 44]⟩ : ByteArray)) ++ a4)).bind fun t256 => ((postilionref01_List.f k ((a4 ++ (⟨#[44, 32, 65, 44, 44, 98, 32, 44]⟩ : ByteArray)) ++ a4)).bind fun t259 => ((postilionkeep_Same_string.f k t256 t259).bind fun t262 => (if t262 = true then ((postilionlaw13_wakes.f k).bind fun t263 => (some t263)) else (some false))))) else (none)) else (none)) else (some false))))) else (some false))))) else (some false))))) else (some false)))) else (none)) else (none)))) else (none)) else (none)))) = some r := H
  have A8 := Aside0.mk A80
  clear A80
  obtain ⟨y221, hy221⟩ : ∃ y_ : List ByteArray, y_ = (([(⟨#[71, 69, 84]⟩ : ByteArray), (⟨#[80, 79, 83, 84]⟩ : ByteArray), (⟨#[80, 85, 84]⟩ : ByteArray), (⟨#[68, 69, 76, 69, 84, 69]⟩ : ByteArray), (⟨#[72, 69, 65, 68]⟩ : ByteArray), (⟨#[112, 117, 116]⟩ : ByteArray), (⟨#[]⟩ : ByteArray)] : List ByteArray)) := ⟨_, rfl⟩
  replace H : ((postilionkeep_Within.f (wrap64 (Int.tdiv a1 7)) 7).bind fun t224 => (if 0 ≤ t224 then (if t224 < (y221.length : Int) then ((some (([(⟨#[104, 116, 116, 112, 115, 58, 47, 47, 97, 46, 98]⟩ : ByteArray), (⟨#[104, 116, 116, 112, 58, 47, 47, 97, 46, 98]⟩ : ByteArray), (⟨#[110, 117, 108, 108]⟩ : ByteArray), (⟨#[42]⟩ : ByteArray), (⟨#[]⟩ : ByteArray)] : List ByteArray) : List ByteArray)).bind fun y226 => ((postilionkeep_Within.f a2 5).bind fun t229 => (if 0 ≤ t229 then (if t229 < (y226.length : Int) then ((cors_Plain.f k (rdOf ByteArray.empty y221 t224) t218).bind fun t231 => ((postilionref01_Plain.f k (rdOf ByteArray.empty y221 t224) t218).bind fun t232 => (if (t231 == t232) = true then ((postilionlaw13_To.f t211 t212 t215 t216).bind fun bt233 => ((cors_Check.f k bt233.1 bt233.2.1 bt233.2.2.1 bt233.2.2.2 (rdOf ByteArray.empty y226 t229) a5).bind fun t239 => ((postilionref01_Cors.f k t211 t212 t215 t216 (rdOf ByteArray.empty y226 t229) a5).bind fun t240 => (if (t239 == t240) = true then ((postilionlaw13_To.f t211 t212 t215 t216).bind fun bt241 => ((cors_Pre.f k bt241.1 bt241.2.1 bt241.2.2.1 bt241.2.2.2 (rdOf ByteArray.empty y226 t229) a5 (rdOf ByteArray.empty y221 t224) t218).bind fun t247 => ((postilionref01_Pre.f k t211 t212 t215 t216 (rdOf ByteArray.empty y226 t229) a5 (rdOf ByteArray.empty y221 t224) t218).bind fun t248 => (if (t247 == t248) = true then ((cors_List.f k a4).bind fun t249 => ((postilionref01_List.f k a4).bind fun t252 => ((postilionkeep_Same_string.f k t249 t252).bind fun t255 => (if t255 = true then (if a4.size + 8 ≤ 9223372036854775807 then (if a4.size + 8 + a4.size ≤ 9223372036854775807 then ((cors_List.f k ((a4 ++ (⟨#[44, 32, 65, 44, 44, 98, 32, 44]⟩ : ByteArray)) ++ a4)).bind fun t256 => ((postilionref01_List.f k ((a4 ++ (⟨#[44, 32, 65, 44, 44, 98, 32, 44]⟩ : ByteArray)) ++ a4)).bind fun t259 => ((postilionkeep_Same_string.f k t256 t259).bind fun t262 => (if t262 = true then ((postilionlaw13_wakes.f k).bind fun t263 => (some t263)) else (some false))))) else (none)) else (none)) else (some false))))) else (some false))))) else (some false))))) else (some false)))) else (none)) else (none)))) else (none)) else (none))) = some r := by first | (rw [hy221]; with_reducible exact H) | (have H2_ := (Option.bind_some _ _).symm.trans H; rw [hy221]; with_reducible exact H2_) | (have H2_ := (Option.bind_some _ _).symm.trans H; with_reducible exact H2_) | with_reducible exact H | (rw [hy221]; exact H) | exact H
  have Ny221 := Aside0.mk hy221
  clear hy221
  replace H := Option.bind_eq_some_iff.mp H
  obtain ⟨t224, A90, H⟩ := H
  replace H : (if 0 ≤ t224 then (if t224 < (y221.length : Int) then ((some (([(⟨#[104, 116, 116, 112, 115, 58, 47, 47, 97, 46, 98]⟩ : ByteArray), (⟨#[104, 116, 116, 112, 58, 47, 47, 97, 46, 98]⟩ : ByteArray), (⟨#[110, 117, 108, 108]⟩ : ByteArray), (⟨#[42]⟩ : ByteArray), (⟨#[]⟩ : ByteArray)] : List ByteArray) : List ByteArray)).bind fun y226 => ((postilionkeep_Within.f a2 5).bind fun t229 => (if 0 ≤ t229 then (if t229 < (y226.length : Int) then ((cors_Plain.f k (rdOf ByteArray.empty y221 t224) t218).bind fun t231 => ((postilionref01_Plain.f k (rdOf ByteArray.empty y221 t224) t218).bind fun t232 => (if (t231 == t232) = true then ((postilionlaw13_To.f t211 t212 t215 t216).bind fun bt233 => ((cors_Check.f k bt233.1 bt233.2.1 bt233.2.2.1 bt233.2.2.2 (rdOf ByteArray.empty y226 t229) a5).bind fun t239 => ((postilionref01_Cors.f k t211 t212 t215 t216 (rdOf ByteArray.empty y226 t229) a5).bind fun t240 => (if (t239 == t240) = true then ((postilionlaw13_To.f t211 t212 t215 t216).bind fun bt241 => ((cors_Pre.f k bt241.1 bt241.2.1 bt241.2.2.1 bt241.2.2.2 (rdOf ByteArray.empty y226 t229) a5 (rdOf ByteArray.empty y221 t224) t218).bind fun t247 => ((postilionref01_Pre.f k t211 t212 t215 t216 (rdOf ByteArray.empty y226 t229) a5 (rdOf ByteArray.empty y221 t224) t218).bind fun t248 => (if (t247 == t248) = true then ((cors_List.f k a4).bind fun t249 => ((postilionref01_List.f k a4).bind fun t252 => ((postilionkeep_Same_string.f k t249 t252).bind fun t255 => (if t255 = true then (if a4.size + 8 ≤ 9223372036854775807 then (if a4.size + 8 + a4.size ≤ 9223372036854775807 then ((cors_List.f k ((a4 ++ (⟨#[44, 32, 65, 44, 44, 98, 32, 44]⟩ : ByteArray)) ++ a4)).bind fun t256 => ((postilionref01_List.f k ((a4 ++ (⟨#[44, 32, 65, 44, 44, 98, 32, 44]⟩ : ByteArray)) ++ a4)).bind fun t259 => ((postilionkeep_Same_string.f k t256 t259).bind fun t262 => (if t262 = true then ((postilionlaw13_wakes.f k).bind fun t263 => (some t263)) else (some false))))) else (none)) else (none)) else (some false))))) else (some false))))) else (some false))))) else (some false)))) else (none)) else (none)))) else (none)) else (none)) = some r := H
  have A9 := Aside0.mk A90
  clear A90
  by_cases c10 : 0 ≤ t224
  · rw [if_pos c10] at H
    have c10b0 : decide (0 ≤ t224) = true := decide_eq_true c10
    clear c10
    by_cases c11 : t224 < (y221.length : Int)
    · rw [if_pos c11] at H
      have c11b0 : decide (t224 < (y221.length : Int)) = true := decide_eq_true c11
      clear c11
      obtain ⟨y226, hy226⟩ : ∃ y_ : List ByteArray, y_ = (([(⟨#[104, 116, 116, 112, 115, 58, 47, 47, 97, 46, 98]⟩ : ByteArray), (⟨#[104, 116, 116, 112, 58, 47, 47, 97, 46, 98]⟩ : ByteArray), (⟨#[110, 117, 108, 108]⟩ : ByteArray), (⟨#[42]⟩ : ByteArray), (⟨#[]⟩ : ByteArray)] : List ByteArray)) := ⟨_, rfl⟩
      replace H : ((postilionkeep_Within.f a2 5).bind fun t229 => (if 0 ≤ t229 then (if t229 < (y226.length : Int) then ((cors_Plain.f k (rdOf ByteArray.empty y221 t224) t218).bind fun t231 => ((postilionref01_Plain.f k (rdOf ByteArray.empty y221 t224) t218).bind fun t232 => (if (t231 == t232) = true then ((postilionlaw13_To.f t211 t212 t215 t216).bind fun bt233 => ((cors_Check.f k bt233.1 bt233.2.1 bt233.2.2.1 bt233.2.2.2 (rdOf ByteArray.empty y226 t229) a5).bind fun t239 => ((postilionref01_Cors.f k t211 t212 t215 t216 (rdOf ByteArray.empty y226 t229) a5).bind fun t240 => (if (t239 == t240) = true then ((postilionlaw13_To.f t211 t212 t215 t216).bind fun bt241 => ((cors_Pre.f k bt241.1 bt241.2.1 bt241.2.2.1 bt241.2.2.2 (rdOf ByteArray.empty y226 t229) a5 (rdOf ByteArray.empty y221 t224) t218).bind fun t247 => ((postilionref01_Pre.f k t211 t212 t215 t216 (rdOf ByteArray.empty y226 t229) a5 (rdOf ByteArray.empty y221 t224) t218).bind fun t248 => (if (t247 == t248) = true then ((cors_List.f k a4).bind fun t249 => ((postilionref01_List.f k a4).bind fun t252 => ((postilionkeep_Same_string.f k t249 t252).bind fun t255 => (if t255 = true then (if a4.size + 8 ≤ 9223372036854775807 then (if a4.size + 8 + a4.size ≤ 9223372036854775807 then ((cors_List.f k ((a4 ++ (⟨#[44, 32, 65, 44, 44, 98, 32, 44]⟩ : ByteArray)) ++ a4)).bind fun t256 => ((postilionref01_List.f k ((a4 ++ (⟨#[44, 32, 65, 44, 44, 98, 32, 44]⟩ : ByteArray)) ++ a4)).bind fun t259 => ((postilionkeep_Same_string.f k t256 t259).bind fun t262 => (if t262 = true then ((postilionlaw13_wakes.f k).bind fun t263 => (some t263)) else (some false))))) else (none)) else (none)) else (some false))))) else (some false))))) else (some false))))) else (some false)))) else (none)) else (none))) = some r := by first | (rw [hy226]; with_reducible exact H) | (have H2_ := (Option.bind_some _ _).symm.trans H; rw [hy226]; with_reducible exact H2_) | (have H2_ := (Option.bind_some _ _).symm.trans H; with_reducible exact H2_) | with_reducible exact H | (rw [hy226]; exact H) | exact H
      have Ny226 := Aside0.mk hy226
      clear hy226
      replace H := Option.bind_eq_some_iff.mp H
      obtain ⟨t229, A120, H⟩ := H
      replace H : (if 0 ≤ t229 then (if t229 < (y226.length : Int) then ((cors_Plain.f k (rdOf ByteArray.empty y221 t224) t218).bind fun t231 => ((postilionref01_Plain.f k (rdOf ByteArray.empty y221 t224) t218).bind fun t232 => (if (t231 == t232) = true then ((postilionlaw13_To.f t211 t212 t215 t216).bind fun bt233 => ((cors_Check.f k bt233.1 bt233.2.1 bt233.2.2.1 bt233.2.2.2 (rdOf ByteArray.empty y226 t229) a5).bind fun t239 => ((postilionref01_Cors.f k t211 t212 t215 t216 (rdOf ByteArray.empty y226 t229) a5).bind fun t240 => (if (t239 == t240) = true then ((postilionlaw13_To.f t211 t212 t215 t216).bind fun bt241 => ((cors_Pre.f k bt241.1 bt241.2.1 bt241.2.2.1 bt241.2.2.2 (rdOf ByteArray.empty y226 t229) a5 (rdOf ByteArray.empty y221 t224) t218).bind fun t247 => ((postilionref01_Pre.f k t211 t212 t215 t216 (rdOf ByteArray.empty y226 t229) a5 (rdOf ByteArray.empty y221 t224) t218).bind fun t248 => (if (t247 == t248) = true then ((cors_List.f k a4).bind fun t249 => ((postilionref01_List.f k a4).bind fun t252 => ((postilionkeep_Same_string.f k t249 t252).bind fun t255 => (if t255 = true then (if a4.size + 8 ≤ 9223372036854775807 then (if a4.size + 8 + a4.size ≤ 9223372036854775807 then ((cors_List.f k ((a4 ++ (⟨#[44, 32, 65, 44, 44, 98, 32, 44]⟩ : ByteArray)) ++ a4)).bind fun t256 => ((postilionref01_List.f k ((a4 ++ (⟨#[44, 32, 65, 44, 44, 98, 32, 44]⟩ : ByteArray)) ++ a4)).bind fun t259 => ((postilionkeep_Same_string.f k t256 t259).bind fun t262 => (if t262 = true then ((postilionlaw13_wakes.f k).bind fun t263 => (some t263)) else (some false))))) else (none)) else (none)) else (some false))))) else (some false))))) else (some false))))) else (some false)))) else (none)) else (none)) = some r := H
      have A12 := Aside0.mk A120
      clear A120
      by_cases c13 : 0 ≤ t229
      · rw [if_pos c13] at H
        have c13b0 : decide (0 ≤ t229) = true := decide_eq_true c13
        clear c13
        by_cases c14 : t229 < (y226.length : Int)
        · rw [if_pos c14] at H
          have c14b0 : decide (t229 < (y226.length : Int)) = true := decide_eq_true c14
          clear c14
          replace H := Option.bind_eq_some_iff.mp H
          obtain ⟨t231, A150, H⟩ := H
          replace H : ((postilionref01_Plain.f k (rdOf ByteArray.empty y221 t224) t218).bind fun t232 => (if (t231 == t232) = true then ((postilionlaw13_To.f t211 t212 t215 t216).bind fun bt233 => ((cors_Check.f k bt233.1 bt233.2.1 bt233.2.2.1 bt233.2.2.2 (rdOf ByteArray.empty y226 t229) a5).bind fun t239 => ((postilionref01_Cors.f k t211 t212 t215 t216 (rdOf ByteArray.empty y226 t229) a5).bind fun t240 => (if (t239 == t240) = true then ((postilionlaw13_To.f t211 t212 t215 t216).bind fun bt241 => ((cors_Pre.f k bt241.1 bt241.2.1 bt241.2.2.1 bt241.2.2.2 (rdOf ByteArray.empty y226 t229) a5 (rdOf ByteArray.empty y221 t224) t218).bind fun t247 => ((postilionref01_Pre.f k t211 t212 t215 t216 (rdOf ByteArray.empty y226 t229) a5 (rdOf ByteArray.empty y221 t224) t218).bind fun t248 => (if (t247 == t248) = true then ((cors_List.f k a4).bind fun t249 => ((postilionref01_List.f k a4).bind fun t252 => ((postilionkeep_Same_string.f k t249 t252).bind fun t255 => (if t255 = true then (if a4.size + 8 ≤ 9223372036854775807 then (if a4.size + 8 + a4.size ≤ 9223372036854775807 then ((cors_List.f k ((a4 ++ (⟨#[44, 32, 65, 44, 44, 98, 32, 44]⟩ : ByteArray)) ++ a4)).bind fun t256 => ((postilionref01_List.f k ((a4 ++ (⟨#[44, 32, 65, 44, 44, 98, 32, 44]⟩ : ByteArray)) ++ a4)).bind fun t259 => ((postilionkeep_Same_string.f k t256 t259).bind fun t262 => (if t262 = true then ((postilionlaw13_wakes.f k).bind fun t263 => (some t263)) else (some false))))) else (none)) else (none)) else (some false))))) else (some false))))) else (some false))))) else (some false))) = some r := H
          have A15 := Aside0.mk A150
          clear A150
          replace H := Option.bind_eq_some_iff.mp H
          obtain ⟨t232, A160, H⟩ := H
          replace H : (if (t231 == t232) = true then ((postilionlaw13_To.f t211 t212 t215 t216).bind fun bt233 => ((cors_Check.f k bt233.1 bt233.2.1 bt233.2.2.1 bt233.2.2.2 (rdOf ByteArray.empty y226 t229) a5).bind fun t239 => ((postilionref01_Cors.f k t211 t212 t215 t216 (rdOf ByteArray.empty y226 t229) a5).bind fun t240 => (if (t239 == t240) = true then ((postilionlaw13_To.f t211 t212 t215 t216).bind fun bt241 => ((cors_Pre.f k bt241.1 bt241.2.1 bt241.2.2.1 bt241.2.2.2 (rdOf ByteArray.empty y226 t229) a5 (rdOf ByteArray.empty y221 t224) t218).bind fun t247 => ((postilionref01_Pre.f k t211 t212 t215 t216 (rdOf ByteArray.empty y226 t229) a5 (rdOf ByteArray.empty y221 t224) t218).bind fun t248 => (if (t247 == t248) = true then ((cors_List.f k a4).bind fun t249 => ((postilionref01_List.f k a4).bind fun t252 => ((postilionkeep_Same_string.f k t249 t252).bind fun t255 => (if t255 = true then (if a4.size + 8 ≤ 9223372036854775807 then (if a4.size + 8 + a4.size ≤ 9223372036854775807 then ((cors_List.f k ((a4 ++ (⟨#[44, 32, 65, 44, 44, 98, 32, 44]⟩ : ByteArray)) ++ a4)).bind fun t256 => ((postilionref01_List.f k ((a4 ++ (⟨#[44, 32, 65, 44, 44, 98, 32, 44]⟩ : ByteArray)) ++ a4)).bind fun t259 => ((postilionkeep_Same_string.f k t256 t259).bind fun t262 => (if t262 = true then ((postilionlaw13_wakes.f k).bind fun t263 => (some t263)) else (some false))))) else (none)) else (none)) else (some false))))) else (some false))))) else (some false))))) else (some false)) = some r := H
          have A16 := Aside0.mk A160
          clear A160
          by_cases c17 : (t231 == t232) = true
          · rw [if_pos c17] at H
            have c17b0 : (t231 == t232) = true := c17
            (try (have c17b1 : decide (t231 = t232) = true := by simpa using c17))
            (try (have c17b2 : (t231 == t232) = true := by simpa using c17))
            clear c17
            replace H := Option.bind_eq_some_iff.mp H
            obtain ⟨⟨t233, t234, t237, t238⟩, A180, H⟩ := H
            replace H : ((cors_Check.f k t233 t234 t237 t238 (rdOf ByteArray.empty y226 t229) a5).bind fun t239 => ((postilionref01_Cors.f k t211 t212 t215 t216 (rdOf ByteArray.empty y226 t229) a5).bind fun t240 => (if (t239 == t240) = true then ((postilionlaw13_To.f t211 t212 t215 t216).bind fun bt241 => ((cors_Pre.f k bt241.1 bt241.2.1 bt241.2.2.1 bt241.2.2.2 (rdOf ByteArray.empty y226 t229) a5 (rdOf ByteArray.empty y221 t224) t218).bind fun t247 => ((postilionref01_Pre.f k t211 t212 t215 t216 (rdOf ByteArray.empty y226 t229) a5 (rdOf ByteArray.empty y221 t224) t218).bind fun t248 => (if (t247 == t248) = true then ((cors_List.f k a4).bind fun t249 => ((postilionref01_List.f k a4).bind fun t252 => ((postilionkeep_Same_string.f k t249 t252).bind fun t255 => (if t255 = true then (if a4.size + 8 ≤ 9223372036854775807 then (if a4.size + 8 + a4.size ≤ 9223372036854775807 then ((cors_List.f k ((a4 ++ (⟨#[44, 32, 65, 44, 44, 98, 32, 44]⟩ : ByteArray)) ++ a4)).bind fun t256 => ((postilionref01_List.f k ((a4 ++ (⟨#[44, 32, 65, 44, 44, 98, 32, 44]⟩ : ByteArray)) ++ a4)).bind fun t259 => ((postilionkeep_Same_string.f k t256 t259).bind fun t262 => (if t262 = true then ((postilionlaw13_wakes.f k).bind fun t263 => (some t263)) else (some false))))) else (none)) else (none)) else (some false))))) else (some false))))) else (some false)))) = some r := H
            have A18 := Aside0.mk A180
            clear A180
            replace H := Option.bind_eq_some_iff.mp H
            obtain ⟨t239, A190, H⟩ := H
            replace H : ((postilionref01_Cors.f k t211 t212 t215 t216 (rdOf ByteArray.empty y226 t229) a5).bind fun t240 => (if (t239 == t240) = true then ((postilionlaw13_To.f t211 t212 t215 t216).bind fun bt241 => ((cors_Pre.f k bt241.1 bt241.2.1 bt241.2.2.1 bt241.2.2.2 (rdOf ByteArray.empty y226 t229) a5 (rdOf ByteArray.empty y221 t224) t218).bind fun t247 => ((postilionref01_Pre.f k t211 t212 t215 t216 (rdOf ByteArray.empty y226 t229) a5 (rdOf ByteArray.empty y221 t224) t218).bind fun t248 => (if (t247 == t248) = true then ((cors_List.f k a4).bind fun t249 => ((postilionref01_List.f k a4).bind fun t252 => ((postilionkeep_Same_string.f k t249 t252).bind fun t255 => (if t255 = true then (if a4.size + 8 ≤ 9223372036854775807 then (if a4.size + 8 + a4.size ≤ 9223372036854775807 then ((cors_List.f k ((a4 ++ (⟨#[44, 32, 65, 44, 44, 98, 32, 44]⟩ : ByteArray)) ++ a4)).bind fun t256 => ((postilionref01_List.f k ((a4 ++ (⟨#[44, 32, 65, 44, 44, 98, 32, 44]⟩ : ByteArray)) ++ a4)).bind fun t259 => ((postilionkeep_Same_string.f k t256 t259).bind fun t262 => (if t262 = true then ((postilionlaw13_wakes.f k).bind fun t263 => (some t263)) else (some false))))) else (none)) else (none)) else (some false))))) else (some false))))) else (some false))) = some r := H
            have A19 := Aside0.mk A190
            clear A190
            replace H := Option.bind_eq_some_iff.mp H
            obtain ⟨t240, A200, H⟩ := H
            replace H : (if (t239 == t240) = true then ((postilionlaw13_To.f t211 t212 t215 t216).bind fun bt241 => ((cors_Pre.f k bt241.1 bt241.2.1 bt241.2.2.1 bt241.2.2.2 (rdOf ByteArray.empty y226 t229) a5 (rdOf ByteArray.empty y221 t224) t218).bind fun t247 => ((postilionref01_Pre.f k t211 t212 t215 t216 (rdOf ByteArray.empty y226 t229) a5 (rdOf ByteArray.empty y221 t224) t218).bind fun t248 => (if (t247 == t248) = true then ((cors_List.f k a4).bind fun t249 => ((postilionref01_List.f k a4).bind fun t252 => ((postilionkeep_Same_string.f k t249 t252).bind fun t255 => (if t255 = true then (if a4.size + 8 ≤ 9223372036854775807 then (if a4.size + 8 + a4.size ≤ 9223372036854775807 then ((cors_List.f k ((a4 ++ (⟨#[44, 32, 65, 44, 44, 98, 32, 44]⟩ : ByteArray)) ++ a4)).bind fun t256 => ((postilionref01_List.f k ((a4 ++ (⟨#[44, 32, 65, 44, 44, 98, 32, 44]⟩ : ByteArray)) ++ a4)).bind fun t259 => ((postilionkeep_Same_string.f k t256 t259).bind fun t262 => (if t262 = true then ((postilionlaw13_wakes.f k).bind fun t263 => (some t263)) else (some false))))) else (none)) else (none)) else (some false))))) else (some false))))) else (some false)) = some r := H
            have A20 := Aside0.mk A200
            clear A200
            by_cases c21 : (t239 == t240) = true
            · rw [if_pos c21] at H
              have c21b0 : (t239 == t240) = true := c21
              (try (have c21b1 : decide (t239 = t240) = true := by simpa using c21))
              (try (have c21b2 : (t239 == t240) = true := by simpa using c21))
              clear c21
              replace H := Option.bind_eq_some_iff.mp H
              obtain ⟨⟨t241, t242, t245, t246⟩, A220, H⟩ := H
              replace H : ((cors_Pre.f k t241 t242 t245 t246 (rdOf ByteArray.empty y226 t229) a5 (rdOf ByteArray.empty y221 t224) t218).bind fun t247 => ((postilionref01_Pre.f k t211 t212 t215 t216 (rdOf ByteArray.empty y226 t229) a5 (rdOf ByteArray.empty y221 t224) t218).bind fun t248 => (if (t247 == t248) = true then ((cors_List.f k a4).bind fun t249 => ((postilionref01_List.f k a4).bind fun t252 => ((postilionkeep_Same_string.f k t249 t252).bind fun t255 => (if t255 = true then (if a4.size + 8 ≤ 9223372036854775807 then (if a4.size + 8 + a4.size ≤ 9223372036854775807 then ((cors_List.f k ((a4 ++ (⟨#[44, 32, 65, 44, 44, 98, 32, 44]⟩ : ByteArray)) ++ a4)).bind fun t256 => ((postilionref01_List.f k ((a4 ++ (⟨#[44, 32, 65, 44, 44, 98, 32, 44]⟩ : ByteArray)) ++ a4)).bind fun t259 => ((postilionkeep_Same_string.f k t256 t259).bind fun t262 => (if t262 = true then ((postilionlaw13_wakes.f k).bind fun t263 => (some t263)) else (some false))))) else (none)) else (none)) else (some false))))) else (some false)))) = some r := H
              have A22 := Aside0.mk A220
              clear A220
              replace H := Option.bind_eq_some_iff.mp H
              obtain ⟨t247, A230, H⟩ := H
              replace H : ((postilionref01_Pre.f k t211 t212 t215 t216 (rdOf ByteArray.empty y226 t229) a5 (rdOf ByteArray.empty y221 t224) t218).bind fun t248 => (if (t247 == t248) = true then ((cors_List.f k a4).bind fun t249 => ((postilionref01_List.f k a4).bind fun t252 => ((postilionkeep_Same_string.f k t249 t252).bind fun t255 => (if t255 = true then (if a4.size + 8 ≤ 9223372036854775807 then (if a4.size + 8 + a4.size ≤ 9223372036854775807 then ((cors_List.f k ((a4 ++ (⟨#[44, 32, 65, 44, 44, 98, 32, 44]⟩ : ByteArray)) ++ a4)).bind fun t256 => ((postilionref01_List.f k ((a4 ++ (⟨#[44, 32, 65, 44, 44, 98, 32, 44]⟩ : ByteArray)) ++ a4)).bind fun t259 => ((postilionkeep_Same_string.f k t256 t259).bind fun t262 => (if t262 = true then ((postilionlaw13_wakes.f k).bind fun t263 => (some t263)) else (some false))))) else (none)) else (none)) else (some false))))) else (some false))) = some r := H
              have A23 := Aside0.mk A230
              clear A230
              replace H := Option.bind_eq_some_iff.mp H
              obtain ⟨t248, A240, H⟩ := H
              replace H : (if (t247 == t248) = true then ((cors_List.f k a4).bind fun t249 => ((postilionref01_List.f k a4).bind fun t252 => ((postilionkeep_Same_string.f k t249 t252).bind fun t255 => (if t255 = true then (if a4.size + 8 ≤ 9223372036854775807 then (if a4.size + 8 + a4.size ≤ 9223372036854775807 then ((cors_List.f k ((a4 ++ (⟨#[44, 32, 65, 44, 44, 98, 32, 44]⟩ : ByteArray)) ++ a4)).bind fun t256 => ((postilionref01_List.f k ((a4 ++ (⟨#[44, 32, 65, 44, 44, 98, 32, 44]⟩ : ByteArray)) ++ a4)).bind fun t259 => ((postilionkeep_Same_string.f k t256 t259).bind fun t262 => (if t262 = true then ((postilionlaw13_wakes.f k).bind fun t263 => (some t263)) else (some false))))) else (none)) else (none)) else (some false))))) else (some false)) = some r := H
              have A24 := Aside0.mk A240
              clear A240
              by_cases c25 : (t247 == t248) = true
              · rw [if_pos c25] at H
                have c25b0 : (t247 == t248) = true := c25
                (try (have c25b1 : decide (t247 = t248) = true := by simpa using c25))
                (try (have c25b2 : (t247 == t248) = true := by simpa using c25))
                clear c25
                replace H := Option.bind_eq_some_iff.mp H
                obtain ⟨t249, A260, H⟩ := H
                replace H : ((postilionref01_List.f k a4).bind fun t252 => ((postilionkeep_Same_string.f k t249 t252).bind fun t255 => (if t255 = true then (if a4.size + 8 ≤ 9223372036854775807 then (if a4.size + 8 + a4.size ≤ 9223372036854775807 then ((cors_List.f k ((a4 ++ (⟨#[44, 32, 65, 44, 44, 98, 32, 44]⟩ : ByteArray)) ++ a4)).bind fun t256 => ((postilionref01_List.f k ((a4 ++ (⟨#[44, 32, 65, 44, 44, 98, 32, 44]⟩ : ByteArray)) ++ a4)).bind fun t259 => ((postilionkeep_Same_string.f k t256 t259).bind fun t262 => (if t262 = true then ((postilionlaw13_wakes.f k).bind fun t263 => (some t263)) else (some false))))) else (none)) else (none)) else (some false)))) = some r := H
                have A26 := Aside0.mk A260
                clear A260
                replace H := Option.bind_eq_some_iff.mp H
                obtain ⟨t252, A270, H⟩ := H
                replace H : ((postilionkeep_Same_string.f k t249 t252).bind fun t255 => (if t255 = true then (if a4.size + 8 ≤ 9223372036854775807 then (if a4.size + 8 + a4.size ≤ 9223372036854775807 then ((cors_List.f k ((a4 ++ (⟨#[44, 32, 65, 44, 44, 98, 32, 44]⟩ : ByteArray)) ++ a4)).bind fun t256 => ((postilionref01_List.f k ((a4 ++ (⟨#[44, 32, 65, 44, 44, 98, 32, 44]⟩ : ByteArray)) ++ a4)).bind fun t259 => ((postilionkeep_Same_string.f k t256 t259).bind fun t262 => (if t262 = true then ((postilionlaw13_wakes.f k).bind fun t263 => (some t263)) else (some false))))) else (none)) else (none)) else (some false))) = some r := H
                have A27 := Aside0.mk A270
                clear A270
                replace H := Option.bind_eq_some_iff.mp H
                obtain ⟨t255, A280, H⟩ := H
                replace H : (if t255 = true then (if a4.size + 8 ≤ 9223372036854775807 then (if a4.size + 8 + a4.size ≤ 9223372036854775807 then ((cors_List.f k ((a4 ++ (⟨#[44, 32, 65, 44, 44, 98, 32, 44]⟩ : ByteArray)) ++ a4)).bind fun t256 => ((postilionref01_List.f k ((a4 ++ (⟨#[44, 32, 65, 44, 44, 98, 32, 44]⟩ : ByteArray)) ++ a4)).bind fun t259 => ((postilionkeep_Same_string.f k t256 t259).bind fun t262 => (if t262 = true then ((postilionlaw13_wakes.f k).bind fun t263 => (some t263)) else (some false))))) else (none)) else (none)) else (some false)) = some r := H
                have A28 := Aside0.mk A280
                clear A280
                by_cases c29 : t255 = true
                · subst c29
                  have H1 : (if a4.size + 8 ≤ 9223372036854775807 then (if a4.size + 8 + a4.size ≤ 9223372036854775807 then ((cors_List.f k ((a4 ++ (⟨#[44, 32, 65, 44, 44, 98, 32, 44]⟩ : ByteArray)) ++ a4)).bind fun t256 => ((postilionref01_List.f k ((a4 ++ (⟨#[44, 32, 65, 44, 44, 98, 32, 44]⟩ : ByteArray)) ++ a4)).bind fun t259 => ((postilionkeep_Same_string.f k t256 t259).bind fun t262 => (if t262 = true then ((postilionlaw13_wakes.f k).bind fun t263 => (some t263)) else (some false))))) else (none)) else (none)) = some r := by rw [if_pos rfl] at H; exact H
                  clear H
                  have H := H1
                  clear H1
                  by_cases c30 : a4.size + 8 ≤ 9223372036854775807
                  · rw [if_pos c30] at H
                    have c30b0 := eq_true c30
                    have c30b1 : decide (a4.size + 8 ≤ 9223372036854775807) = true := decide_eq_true c30
                    try have c30b2 : (9223372036854775807 < a4.size + 8) = False := eq_false (Nat.not_lt.2 c30)
                    by_cases c31 : a4.size + 8 + a4.size ≤ 9223372036854775807
                    · rw [if_pos c31] at H
                      have c31b0 := eq_true c31
                      have c31b1 : decide (a4.size + 8 + a4.size ≤ 9223372036854775807) = true := decide_eq_true c31
                      try have c31b2 : (9223372036854775807 < a4.size + 8 + a4.size) = False := eq_false (Nat.not_lt.2 c31)
                      replace H := Option.bind_eq_some_iff.mp H
                      obtain ⟨t256, A320, H⟩ := H
                      replace H : ((postilionref01_List.f k ((a4 ++ (⟨#[44, 32, 65, 44, 44, 98, 32, 44]⟩ : ByteArray)) ++ a4)).bind fun t259 => ((postilionkeep_Same_string.f k t256 t259).bind fun t262 => (if t262 = true then ((postilionlaw13_wakes.f k).bind fun t263 => (some t263)) else (some false)))) = some r := H
                      have A32 := Aside0.mk A320
                      clear A320
                      replace H := Option.bind_eq_some_iff.mp H
                      obtain ⟨t259, A330, H⟩ := H
                      replace H : ((postilionkeep_Same_string.f k t256 t259).bind fun t262 => (if t262 = true then ((postilionlaw13_wakes.f k).bind fun t263 => (some t263)) else (some false))) = some r := H
                      have A33 := Aside0.mk A330
                      clear A330
                      replace H := Option.bind_eq_some_iff.mp H
                      obtain ⟨t262, A340, H⟩ := H
                      replace H : (if t262 = true then ((postilionlaw13_wakes.f k).bind fun t263 => (some t263)) else (some false)) = some r := H
                      have A34 := Aside0.mk A340
                      clear A340
                      by_cases c35 : t262 = true
                      · subst c35
                        have H1 : ((postilionlaw13_wakes.f k).bind fun t263 => (some t263)) = some r := by rw [if_pos rfl] at H; exact H
                        clear H
                        have H := H1
                        clear H1
                        replace H := Option.bind_eq_some_iff.mp H
                        obtain ⟨t263, A360, H⟩ := H
                        replace H : (some t263) = some r := H
                        have A36 := Aside0.mk A360
                        clear A360
                        obtain rfl := Option.some.inj H
                        go_enter Tryd.func6, Tryd.ntmps6
                        try go_wp2_with (first | ((with_reducible refine gate_callee (f := 22) rfl ?_); refine goesL_ (some 20) rfl rfl Tryd.func22 (by kernel_rfl) rfl #[.int .i64 a0, .slice A3 l3.length c3, .string a4] rfl (by (try simp only [List.map_toArray, List.map_cons, List.map_nil]); first | done | rfl | (simp only [List.length_drop, List.length_take]; rfl)) ?_; (with_reducible refine (postilionplay_Reply.calls k a0 _ _ l3 a4 t211 t212 t215 t216 _ ?side1 ?side2 A7.out).mono ?_); (case side1 => repeat (first | exact HR3.out | (with_reducible refine Kd.C_alloc ?_ _) | (with_reducible refine Kd.C_drewN ?_ _) | (with_reducible refine Kd.C_drew ?_))); (case side2 => exact HC3.out); rintro e w37 ⟨v213, rfl, ho0, hb⟩; refine ⟨_, rfl, ?_⟩; have n0_ := Aside0.mk (Kd.R_lower ho0 (below_size (by repeat (first | (with_reducible first | exact HB.out | apply below_alloc | apply pw_below_drewN | apply below_drew1) | exact HB.out)))); have n1_ := Aside0.mk (below_step (by repeat (first | (with_reducible first | exact HB.out | apply below_alloc | apply pw_below_drewN | apply below_drew1) | exact HB.out)) hb); clear HB; have HO214 := n0_; have HB := n1_; clear n0_ n1_; (try clear hb); (try clear hb2); (try clear hk); (try clear hi); (try clear ho0)) | ((with_reducible refine gate_dst (N := 13) rfl ?_); refine box_event ?hg (N := 13) ?hd (cs := #[.int .i64 0, .slice none 0 0, .string (⟨#[]⟩ : ByteArray), .bool false]) (t := 45) ?hr ?_; (case hd => rfl); (case hg => rfl); (case hr => first | (go_simp; done) | (go_simp; rfl)); intro gb217 hg w38 hbox hb; have n0_ := Aside0.mk (Kd.R_below (by (with_reducible repeat (first | apply Kd.R_alloc | apply Kd.R_drewN | apply Kd.R_drew)); exact HO214.out) hb); have n1_ := Aside0.mk (below_step (by repeat (first | (with_reducible first | exact HB.out | apply below_alloc | apply pw_below_drewN | apply below_drew1) | exact HB.out)) hb); have n2_ := Aside0.mk (hbox); have n3_ := Aside0.mk ((by rw [hg]; exact (below_size (by repeat (first | (with_reducible first | exact HB.out | apply below_alloc | apply pw_below_drewN | apply below_drew1) | exact HB.out))) : w.heap.size ≤ gb217)); have n4_ := Aside0.mk ((by rw [hg]; exact (below_size (by repeat (first | (with_reducible first | exact HB.out | apply below_alloc | apply pw_below_drewN | apply below_drew1) | exact HB.out))) : w.heap.size ≤ gb217)); clear HO214; clear HB; have HO214 := n0_; have HB := n1_; have BK217 := n2_; have GW217 := n3_; have GE217 := n4_; clear n0_ n1_ n2_ n3_ n4_; clear hb hbox hg; have hcz39_0 : w38.cell? ⟨gb217, 0, none⟩ = some (.int .i64 0) := (blk_cell BK217.out 0).trans rfl; have hcz39_1 : w38.cell? ⟨gb217, 1, none⟩ = some (.slice none 0 0) := (blk_cell BK217.out 1).trans rfl; have hcz39_2 : w38.cell? ⟨gb217, 2, none⟩ = some (.string (⟨#[]⟩ : ByteArray)) := (blk_cell BK217.out 2).trans rfl; have hcz39_3 : w38.cell? ⟨gb217, 3, none⟩ = some (.bool false) := (blk_cell BK217.out 3).trans rfl; have hfz39_0 := blk_frozen BK217.out 0; have hfz39_1 := blk_frozen BK217.out 1; have hfz39_2 := blk_frozen BK217.out 2; have hfz39_3 := blk_frozen BK217.out 3; obtain ⟨Ao40, co40, eo40⟩ := Kd.R_slice HO214.out; subst eo40) | ((with_reducible refine gate_callee (f := 23) rfl ?_); refine goesL_ (some 22) rfl rfl Tryd.func23 (by kernel_rfl) rfl #[.int .i64 a1, .string (⟨#[]⟩ : ByteArray)] rfl (by (try simp only [List.map_toArray, List.map_cons, List.map_nil]); first | done | rfl | (simp only [List.length_drop, List.length_take]; rfl)) ?_; (with_reducible refine (postilionplay_Heads.calls k a1 (⟨#[]⟩ : ByteArray) t218 _ A8.out).mono ?_); rintro e w41 ⟨v219, rfl, ho0, hb⟩; refine ⟨_, rfl, ?_⟩; have n0_ := Aside0.mk (Kd.R_elder' (by (with_reducible repeat (first | apply Kd.R_alloc | apply Kd.R_drewN | apply Kd.R_drew)); exact (Kd.R_mono (Kd.R_far (p := ⟨gb217, 3, none⟩) (Kd.R_far (p := ⟨gb217, 2, none⟩) (Kd.R_far (p := ⟨gb217, 1, none⟩) (Kd.R_far (p := ⟨gb217, 0, none⟩) (Kd.R_types HO214.out BK217.out (by decide)) (fun _ hk => hk.2) (.int .i64 t211)) (fun _ hk => hk.2) (.slice Ao40 t212.length co40)) (fun _ hk => hk.2) (.string t215)) (fun _ hk => hk.2) (.bool t216)) (fun _ h_ => h_.1))) (Kd.R_base ho0) hb); have n1_ := Aside0.mk (Kd.R_lower (Kd.R_new' ho0 (Kd.R_lt (by (with_reducible repeat (first | apply Kd.R_alloc | apply Kd.R_drewN | apply Kd.R_drew)); exact (Kd.R_mono (Kd.R_far (p := ⟨gb217, 3, none⟩) (Kd.R_far (p := ⟨gb217, 2, none⟩) (Kd.R_far (p := ⟨gb217, 1, none⟩) (Kd.R_far (p := ⟨gb217, 0, none⟩) (Kd.R_types HO214.out BK217.out (by decide)) (fun _ hk => hk.2) (.int .i64 t211)) (fun _ hk => hk.2) (.slice Ao40 t212.length co40)) (fun _ hk => hk.2) (.string t215)) (fun _ hk => hk.2) (.bool t216)) (fun _ h_ => h_.1))))) (below_size (by repeat (first | (with_reducible first | exact HB.out | apply below_alloc | apply pw_below_drewN | apply below_drew1 | refine below_set ?_ GE217.out) | exact HB.out)))); have n2_ := Aside0.mk (blk_below (g := gb217) (o := .cells #[.int .i64 t211, .slice Ao40 t212.length co40, .string t215, .bool t216] 45 (0, 0)) (by (with_reducible repeat (first | refine blk_drewN ?_ _ | refine blk_drew ?_ | refine blk_alloc ?_ _)); refine blk_put (cs := #[.int .i64 t211, .slice Ao40 t212.length co40, .string t215, .bool false]) ?_ 3 _ rfl; (with_reducible repeat (first | refine blk_drewN ?_ _ | refine blk_drew ?_ | refine blk_alloc ?_ _)); refine blk_put (cs := #[.int .i64 t211, .slice Ao40 t212.length co40, .string (⟨#[]⟩ : ByteArray), .bool false]) ?_ 2 _ rfl; (with_reducible repeat (first | refine blk_drewN ?_ _ | refine blk_drew ?_ | refine blk_alloc ?_ _)); refine blk_put (cs := #[.int .i64 t211, .slice none 0 0, .string (⟨#[]⟩ : ByteArray), .bool false]) ?_ 1 _ rfl; (with_reducible repeat (first | refine blk_drewN ?_ _ | refine blk_drew ?_ | refine blk_alloc ?_ _)); refine blk_put (cs := #[.int .i64 0, .slice none 0 0, .string (⟨#[]⟩ : ByteArray), .bool false]) ?_ 0 _ rfl; (with_reducible repeat (first | refine blk_drewN ?_ _ | refine blk_drew ?_ | refine blk_alloc ?_ _)); exact BK217.out) hb); have n3_ := Aside0.mk (below_step (by repeat (first | (with_reducible first | exact HB.out | apply below_alloc | apply pw_below_drewN | apply below_drew1 | refine below_set ?_ GE217.out) | exact HB.out)) hb); clear HO214; clear BK217; clear HB; have HO214 := n0_; have HO220 := n1_; have BK217 := n2_; have HB := n3_; clear n0_ n1_ n2_ n3_; (try clear hb); (try clear hb2); (try clear hk); (try clear hi); (try clear ho0)) | ((with_reducible refine gate_dst (N := 23) rfl ?_); refine Kd.R_lit Kd.string _ 9 ?hg (N := 23) ?hd (xs := ([(⟨#[71, 69, 84]⟩ : ByteArray), (⟨#[80, 79, 83, 84]⟩ : ByteArray), (⟨#[80, 85, 84]⟩ : ByteArray), (⟨#[68, 69, 76, 69, 84, 69]⟩ : ByteArray), (⟨#[72, 69, 65, 68]⟩ : ByteArray), (⟨#[112, 117, 116]⟩ : ByteArray), (⟨#[]⟩ : ByteArray)] : List ByteArray)) (inner := [.string (⟨#[71, 69, 84]⟩ : ByteArray), .string (⟨#[80, 79, 83, 84]⟩ : ByteArray), .string (⟨#[80, 85, 84]⟩ : ByteArray), .string (⟨#[68, 69, 76, 69, 84, 69]⟩ : ByteArray), .string (⟨#[72, 69, 65, 68]⟩ : ByteArray), .string (⟨#[112, 117, 116]⟩ : ByteArray), .string (⟨#[]⟩ : ByteArray)]) (ok := fun _ => True) (okp := fun _ => True) ?hr ?hp (fun _ hk => hk) trivial (Below.refl _ _) (Nat.le_refl _) (by simp) ?_; (case hd => rfl); (case hg => rfl); (case hr => first | (go_simp; done) | (go_simp; rfl)); (case hp => exact (Reps.one (show Kd.M Kd.string _ _ _ (⟨#[71, 69, 84]⟩ : ByteArray) [.string (⟨#[71, 69, 84]⟩ : ByteArray)] from rfl) (Reps.one (show Kd.M Kd.string _ _ _ (⟨#[80, 79, 83, 84]⟩ : ByteArray) [.string (⟨#[80, 79, 83, 84]⟩ : ByteArray)] from rfl) (Reps.one (show Kd.M Kd.string _ _ _ (⟨#[80, 85, 84]⟩ : ByteArray) [.string (⟨#[80, 85, 84]⟩ : ByteArray)] from rfl) (Reps.one (show Kd.M Kd.string _ _ _ (⟨#[68, 69, 76, 69, 84, 69]⟩ : ByteArray) [.string (⟨#[68, 69, 76, 69, 84, 69]⟩ : ByteArray)] from rfl) (Reps.one (show Kd.M Kd.string _ _ _ (⟨#[72, 69, 65, 68]⟩ : ByteArray) [.string (⟨#[72, 69, 65, 68]⟩ : ByteArray)] from rfl) (Reps.one (show Kd.M Kd.string _ _ _ (⟨#[112, 117, 116]⟩ : ByteArray) [.string (⟨#[112, 117, 116]⟩ : ByteArray)] from rfl) (Reps.one (show Kd.M Kd.string _ _ _ (⟨#[]⟩ : ByteArray) [.string (⟨#[]⟩ : ByteArray)] from rfl) (Reps.none _ _))))))))); intro v222 w42 ho43 hb hg_ hnew_; clear hg_ hnew_; (first | rw [← Ny221.out] at ho43 | (simp only [Int.reduceToNat] at ho43; rw [← Ny221.out] at ho43)); have n0_ := Aside0.mk (Kd.R_below (by (with_reducible repeat (first | apply Kd.R_alloc | apply Kd.R_drewN | apply Kd.R_drew)); exact HO214.out) hb); have n1_ := Aside0.mk (Kd.R_below (by (with_reducible repeat (first | apply Kd.R_alloc | apply Kd.R_drewN | apply Kd.R_drew)); exact HO220.out) hb); have n2_ := Aside0.mk (Kd.R_lower ho43 (below_size (by repeat (first | (with_reducible first | exact HB.out | apply below_alloc | apply pw_below_drewN | apply below_drew1 | refine below_set ?_ GE217.out) | exact HB.out)))); have n3_ := Aside0.mk (blk_below (g := gb217) (o := .cells #[.int .i64 t211, .slice Ao40 t212.length co40, .string t215, .bool t216] 45 (0, 0)) (by (with_reducible repeat (first | refine blk_drewN ?_ _ | refine blk_drew ?_ | refine blk_alloc ?_ _)); exact BK217.out) hb); have n4_ := Aside0.mk (below_step (by repeat (first | (with_reducible first | exact HB.out | apply below_alloc | apply pw_below_drewN | apply below_drew1 | refine below_set ?_ GE217.out) | exact HB.out)) hb); clear HO214; clear HO220; clear BK217; clear HB; have HO214 := n0_; have HO220 := n1_; have HO223 := n2_; have BK217 := n3_; have HB := n4_; clear n0_ n1_ n2_ n3_ n4_; clear hb ho43) | ((with_reducible refine gate_callee (f := 12) rfl ?_); refine goesL_ (some 26) rfl rfl Tryd.func12 (by kernel_rfl) rfl #[.int .i64 (wrap64 (Int.tdiv a1 7)), .int .i64 7] rfl (by (try simp only [List.map_toArray, List.map_cons, List.map_nil]); first | done | rfl | (simp only [List.length_drop, List.length_take]; rfl)) ?_; (with_reducible refine (postilionkeep_Within.calls (wrap64 (Int.tdiv a1 7)) 7 t224 _ A9.out).mono ?_); rintro e w' ⟨rfl, ⟨nd, rfl⟩⟩; refine ⟨_, rfl, ?_⟩; obtain ⟨Ao44, co44, eo44⟩ := Kd.R_slice HO223.out; subst eo44; have p225 : 0 ≤ (t224 : Int) := of_decide_eq_true (by first | (with_reducible assumption) | assumption); have q225 : t224 < (y221.length : Int) := of_decide_eq_true (by first | (with_reducible assumption) | assumption); obtain ⟨ad225, e225, hx225_0⟩ := Kd.at_string (Kd.R_reads' HO223.out).2.2 t224 p225 q225; cases e225; replace p225 := eq_true p225; replace q225 := eq_true q225) | ((with_reducible refine gate_dst (N := 29) rfl ?_); refine Kd.R_lit Kd.string _ 9 ?hg (N := 29) ?hd (xs := ([(⟨#[104, 116, 116, 112, 115, 58, 47, 47, 97, 46, 98]⟩ : ByteArray), (⟨#[104, 116, 116, 112, 58, 47, 47, 97, 46, 98]⟩ : ByteArray), (⟨#[110, 117, 108, 108]⟩ : ByteArray), (⟨#[42]⟩ : ByteArray), (⟨#[]⟩ : ByteArray)] : List ByteArray)) (inner := [.string (⟨#[104, 116, 116, 112, 115, 58, 47, 47, 97, 46, 98]⟩ : ByteArray), .string (⟨#[104, 116, 116, 112, 58, 47, 47, 97, 46, 98]⟩ : ByteArray), .string (⟨#[110, 117, 108, 108]⟩ : ByteArray), .string (⟨#[42]⟩ : ByteArray), .string (⟨#[]⟩ : ByteArray)]) (ok := fun _ => True) (okp := fun _ => True) ?hr ?hp (fun _ hk => hk) trivial (Below.refl _ _) (Nat.le_refl _) (by simp) ?_; (case hd => rfl); (case hg => rfl); (case hr => first | (go_simp; done) | (go_simp; rfl)); (case hp => exact (Reps.one (show Kd.M Kd.string _ _ _ (⟨#[104, 116, 116, 112, 115, 58, 47, 47, 97, 46, 98]⟩ : ByteArray) [.string (⟨#[104, 116, 116, 112, 115, 58, 47, 47, 97, 46, 98]⟩ : ByteArray)] from rfl) (Reps.one (show Kd.M Kd.string _ _ _ (⟨#[104, 116, 116, 112, 58, 47, 47, 97, 46, 98]⟩ : ByteArray) [.string (⟨#[104, 116, 116, 112, 58, 47, 47, 97, 46, 98]⟩ : ByteArray)] from rfl) (Reps.one (show Kd.M Kd.string _ _ _ (⟨#[110, 117, 108, 108]⟩ : ByteArray) [.string (⟨#[110, 117, 108, 108]⟩ : ByteArray)] from rfl) (Reps.one (show Kd.M Kd.string _ _ _ (⟨#[42]⟩ : ByteArray) [.string (⟨#[42]⟩ : ByteArray)] from rfl) (Reps.one (show Kd.M Kd.string _ _ _ (⟨#[]⟩ : ByteArray) [.string (⟨#[]⟩ : ByteArray)] from rfl) (Reps.none _ _))))))); intro v227 w45 ho46 hb hg_ hnew_; clear hg_ hnew_; (first | rw [← Ny226.out] at ho46 | (simp only [Int.reduceToNat] at ho46; rw [← Ny226.out] at ho46)); have n0_ := Aside0.mk (Kd.R_below (by (with_reducible repeat (first | apply Kd.R_alloc | apply Kd.R_drewN | apply Kd.R_drew)); exact HO214.out) hb); have n1_ := Aside0.mk (Kd.R_below (by (with_reducible repeat (first | apply Kd.R_alloc | apply Kd.R_drewN | apply Kd.R_drew)); exact HO220.out) hb); have n2_ := Aside0.mk (Kd.R_elder' (by (with_reducible repeat (first | apply Kd.R_alloc | apply Kd.R_drewN | apply Kd.R_drew)); exact HO223.out) (Kd.R_base ho46) hb); have n3_ := Aside0.mk (Kd.R_lower (Kd.R_new' ho46 (Kd.R_lt (by (with_reducible repeat (first | apply Kd.R_alloc | apply Kd.R_drewN | apply Kd.R_drew)); exact HO223.out))) (below_size (by repeat (first | (with_reducible first | exact HB.out | apply below_alloc | apply pw_below_drewN | apply below_drew1 | refine below_set ?_ GE217.out) | exact HB.out)))); have n4_ := Aside0.mk (blk_below (g := gb217) (o := .cells #[.int .i64 t211, .slice Ao40 t212.length co40, .string t215, .bool t216] 45 (0, 0)) (by (with_reducible repeat (first | refine blk_drewN ?_ _ | refine blk_drew ?_ | refine blk_alloc ?_ _)); exact BK217.out) hb); have n5_ := Aside0.mk (below_step (by repeat (first | (with_reducible first | exact HB.out | apply below_alloc | apply pw_below_drewN | apply below_drew1 | refine below_set ?_ GE217.out) | exact HB.out)) hb); clear HO214; clear HO220; clear HO223; clear BK217; clear HB; have HO214 := n0_; have HO220 := n1_; have HO223 := n2_; have HO228 := n3_; have BK217 := n4_; have HB := n5_; clear n0_ n1_ n2_ n3_ n4_ n5_; clear hb ho46) | ((with_reducible refine gate_callee (f := 12) rfl ?_); refine goesL_ (some 31) rfl rfl Tryd.func12 (by kernel_rfl) rfl #[.int .i64 a2, .int .i64 5] rfl (by (try simp only [List.map_toArray, List.map_cons, List.map_nil]); first | done | rfl | (simp only [List.length_drop, List.length_take]; rfl)) ?_; (with_reducible refine (postilionkeep_Within.calls a2 5 t229 _ A12.out).mono ?_); rintro e w' ⟨rfl, ⟨nd, rfl⟩⟩; refine ⟨_, rfl, ?_⟩; obtain ⟨Ao47, co47, eo47⟩ := Kd.R_slice HO228.out; subst eo47; have p230 : 0 ≤ (t229 : Int) := of_decide_eq_true (by first | (with_reducible assumption) | assumption); have q230 : t229 < (y226.length : Int) := of_decide_eq_true (by first | (with_reducible assumption) | assumption); obtain ⟨ad230, e230, hx230_0⟩ := Kd.at_string (Kd.R_reads' HO228.out).2.2 t229 p230 q230; cases e230; replace p230 := eq_true p230; replace q230 := eq_true q230))
                        (try (rw [drewN_self w45]; generalize hq_ : World.drewN w45 _ = w45; have n0_ : Aside0 (Kd.R k27 27 w45 w.heap.size (fun k_ => some k_ ≠ (v219 : Value).ownBlock) (.slice Ao40 t212.length co40) t212) := ⟨by rw [← hq_]; exact (by (with_reducible repeat (first | apply Kd.R_alloc | apply Kd.R_drewN | apply Kd.R_drew)); exact Kd.R_mono HO214.out (fun _ hk => hk.2))⟩; have n1_ : Aside0 (Kd.R k27 27 w45 w.heap.size (fun k_ => some k_ ≠ (.slice Ao40 t212.length co40 : Value).ownBlock) v219 t218) := ⟨by rw [← hq_]; exact (by (with_reducible repeat (first | apply Kd.R_alloc | apply Kd.R_drewN | apply Kd.R_drew)); exact Kd.R_mono HO220.out (fun _ hk => hk.2))⟩; have n2_ : Aside0 (Kd.R Kd.string 9 w45 w.heap.size (fun k_ => some k_ ≠ (.slice (some ad230) y226.length co47 : Value).ownBlock) (.slice (some ad225) y221.length co44) y221) := ⟨by rw [← hq_]; exact (by (with_reducible repeat (first | apply Kd.R_alloc | apply Kd.R_drewN | apply Kd.R_drew)); exact Kd.R_mono HO223.out (fun _ hk => hk.2))⟩; have n3_ : Aside0 (Kd.R Kd.string 9 w45 w.heap.size (fun k_ => some k_ ≠ (.slice (some ad225) y221.length co44 : Value).ownBlock) (.slice (some ad230) y226.length co47) y226) := ⟨by rw [← hq_]; exact (by (with_reducible repeat (first | apply Kd.R_alloc | apply Kd.R_drewN | apply Kd.R_drew)); exact Kd.R_mono HO228.out (fun _ hk => hk.2))⟩; have n4_ : Aside0 (w45.heap[gb217]? = some (.cells #[.int .i64 t211, .slice Ao40 t212.length co40, .string t215, .bool t216] 45 (0, 0))) := ⟨by rw [← hq_]; exact (by (with_reducible repeat (first | refine blk_drewN ?_ _ | refine blk_drew ?_ | refine blk_alloc ?_ _)); exact BK217.out)⟩; have n5_ : Aside0 (Below w.heap.size w w45) := ⟨by rw [← hq_]; exact (by repeat (first | (with_reducible first | exact HB.out | apply below_alloc | apply pw_below_drewN | apply below_drew1 | refine below_set ?_ GE217.out) | exact HB.out))⟩; clear HO214 HO220 HO223 HO228 BK217 HB hq_; have HO214 := n0_; have HO220 := n1_; have HO223 := n2_; have HO228 := n3_; have BK217 := n4_; have HB := n5_; clear n0_ n1_ n2_ n3_ n4_ n5_))
                        have n0_ := Aside0.mk (Kd.R_drew HO214.out)
                        have n1_ := Aside0.mk (Kd.R_drew HO220.out)
                        have n2_ := Aside0.mk (Kd.R_drew HO223.out)
                        have n3_ := Aside0.mk (Kd.R_drew HO228.out)
                        have n4_ := Aside0.mk (blk_drew BK217.out)
                        have n5_ := Aside0.mk (below_drew1 HB.out)
                        clear HO214
                        clear HO220
                        clear HO223
                        clear HO228
                        clear BK217
                        clear HB
                        have HO214 := n0_
                        have HO220 := n1_
                        have HO223 := n2_
                        have HO228 := n3_
                        have BK217 := n4_
                        have HB := n5_
                        clear n0_ n1_ n2_ n3_ n4_ n5_
                        obtain ⟨Ao49, co49, eo49⟩ := Kd.R_slice HO220.out
                        (first | subst eo49 | (injection eo49 with f1_ f2_ f3_; have f4_ := f1_.symm; have f5_ := f3_.symm; clear f1_ f2_ f3_; subst f4_; subst f5_))
                        refine start_ (n := 59) (S := fun w' => w'.cell? ⟨gb217, 0, none⟩ = some (.int .i64 t211) ∧ w'.cell? ⟨gb217, 1, none⟩ = some (.slice Ao40 t212.length co40) ∧ w'.cell? ⟨gb217, 2, none⟩ = some (.string t215) ∧ w'.cell? ⟨gb217, 3, none⟩ = some (.bool t216)) (ds := []) #[false, false, false, false, false, false, false, false, false, false, false, false, false, false, false, false, false, false, false, false, false, false, false, false, false, false, false, false, false, false, false, false, false, false, false, false, false, false, false, false, false, false, false, false, false, false, false, false, false, false, false, false, false, false, false, false, false, false, false] (by kernel_rfl) rfl rfl ⟨(blk_cell BK217.out 0).trans rfl, (blk_cell BK217.out 1).trans rfl, (blk_cell BK217.out 2).trans rfl, (blk_cell BK217.out 3).trans rfl⟩ (fun hHeld => ?_); refine with_tabW postilionlaw13_CorsTells.tab5 postilionlaw13_CorsTells.bits5 (fun HT_ HW_ => ?_)
                        generalize w45.drew = w48 at HO214 HO220 HO223 HO228 BK217 HB hHeld ⊢
                        refine pure_ (i := 0) (N := some 34) (v := ?_) (a' := ?_) #[true, false, false, false, false, false, false, false, false, false, false, false, false, false, false, false, false, false, false, false, false, false, false, false, false, false, false, false, false, false, false, false, false, false, false, false, false, false, false, false, false, false, false, false, false, false, false, false, false, false, false, false, false, false, false, false, false, false, false] rfl rfl (any_of HT_.out (by kernel_rfl)) (fun _ _ _ h => h) (Or.inl ⟨by rfl, ?_⟩) ?_ ?_
                        rotate_left
                        · intro w'
                          go_simp
                          with_reducible rfl
                        rotate_left
                        · simp only [Act.put, List.setIfInBounds_toArray, List.set_cons_zero, List.set_cons_succ, i64_w, i32_w]
                          rfl
                        refine pure_ (i := 1) (N := some 35) (v := ?_) (a' := ?_) #[true, true, false, false, false, false, false, false, false, false, false, false, false, false, false, false, false, false, false, false, false, false, false, false, false, false, false, false, false, false, false, false, false, false, false, false, false, false, false, false, false, false, false, false, false, false, false, false, false, false, false, false, false, false, false, false, false, false, false] rfl rfl (any_of HT_.out (by kernel_rfl)) (fun _ _ _ h => h) (Or.inl ⟨by rfl, ?_⟩) ?_ ?_
                        rotate_left
                        · intro w'
                          go_simp
                          with_reducible rfl
                        rotate_left
                        · simp only [Act.put, List.setIfInBounds_toArray, List.set_cons_zero, List.set_cons_succ, i64_w, i32_w]
                          rfl
                        refine pure_ (i := 3) (N := some 37) (v := ?_) (a' := ?_) #[true, true, false, true, false, false, false, false, false, false, false, false, false, false, false, false, false, false, false, false, false, false, false, false, false, false, false, false, false, false, false, false, false, false, false, false, false, false, false, false, false, false, false, false, false, false, false, false, false, false, false, false, false, false, false, false, false, false, false] rfl rfl (any_of HT_.out (by kernel_rfl)) (fun _ _ _ h => h) (Or.inl ⟨by rfl, ?_⟩) ?_ ?_
                        rotate_left
                        · intro w'
                          go_simp
                          with_reducible rfl
                        rotate_left
                        · simp only [Act.put, List.setIfInBounds_toArray, List.set_cons_zero, List.set_cons_succ, i64_w, i32_w]
                          rfl
                        refine pure_ (i := 4) (N := some 38) (v := ?_) (a' := ?_) #[true, true, false, true, true, false, false, false, false, false, false, false, false, false, false, false, false, false, false, false, false, false, false, false, false, false, false, false, false, false, false, false, false, false, false, false, false, false, false, false, false, false, false, false, false, false, false, false, false, false, false, false, false, false, false, false, false, false, false] rfl rfl (any_of HT_.out (by kernel_rfl)) (fun _ _ _ h => h) (Or.inl ⟨by rfl, ?_⟩) ?_ ?_
                        rotate_left
                        · intro w'
                          go_simp
                          with_reducible rfl
                        rotate_left
                        · simp only [Act.put, List.setIfInBounds_toArray, List.set_cons_zero, List.set_cons_succ, i64_w, i32_w]
                          rfl
                        refine one_ (i := 2) (N := some 36) #[true, true, true, true, true, false, false, false, false, false, false, false, false, false, false, false, false, false, false, false, false, false, false, false, false, false, false, false, false, false, false, false, false, false, false, false, false, false, false, false, false, false, false, false, false, false, false, false, false, false, false, false, false, false, false, false, false, false, false] rfl rfl (one_of HT_.out (by kernel_rfl)) (by decide) (fun K hK => ?_)
                        refine goes_ Tryd.func21 (by kernel_rfl) rfl #[.string (rdOf ByteArray.empty y221 t224), .slice Ao49 t218.length co49] (by rfl) rfl rfl (by (try simp only [List.map_toArray, List.map_cons, List.map_nil]); first | done | rfl | (simp only [List.length_drop, List.length_take]; rfl)) ?_
                        with_reducible refine (cors_Plain.calls k (rdOf ByteArray.empty y221 t224) _ _ t218 t231 _ ?side1 ?side2 ?side3 A15.out).mono ?_
                        (case side1 => exact Gl.below hG (by repeat (first | (with_reducible first | exact HB.out | apply below_alloc | apply pw_below_drewN | apply below_drew1 | refine below_set ?_ GE217.out) | exact HB.out)))
                        (case side2 => repeat (first | exact (Kd.R_reads' HO220.out).2.2 | (with_reducible refine Kd.C_alloc ?_ _) | (with_reducible refine Kd.C_drewN ?_ _) | (with_reducible refine Kd.C_drew ?_)))
                        (case side3 => exact (Kd.R_reads' HO220.out).2.1)
                        rintro e w50 ⟨rfl, hb⟩
                        refine ⟨_, rfl, ?_⟩
                        have n0_ := Aside0.mk (Kd.R_below (by (with_reducible repeat (first | apply Kd.R_alloc | apply Kd.R_drewN | apply Kd.R_drew)); exact HO214.out) hb)
                        have n1_ := Aside0.mk (Kd.R_below (by (with_reducible repeat (first | apply Kd.R_alloc | apply Kd.R_drewN | apply Kd.R_drew)); exact HO220.out) hb)
                        have n2_ := Aside0.mk (Kd.R_below (by (with_reducible repeat (first | apply Kd.R_alloc | apply Kd.R_drewN | apply Kd.R_drew)); exact HO223.out) hb)
                        have n3_ := Aside0.mk (Kd.R_below (by (with_reducible repeat (first | apply Kd.R_alloc | apply Kd.R_drewN | apply Kd.R_drew)); exact HO228.out) hb)
                        have n4_ := Aside0.mk (blk_below (g := gb217) (o := .cells #[.int .i64 t211, .slice Ao40 t212.length co40, .string t215, .bool t216] 45 (0, 0)) (by (with_reducible repeat (first | refine blk_drewN ?_ _ | refine blk_drew ?_ | refine blk_alloc ?_ _)); exact BK217.out) hb)
                        have n5_ := Aside0.mk (below_step (by repeat (first | (with_reducible first | exact HB.out | apply below_alloc | apply pw_below_drewN | apply below_drew1 | refine below_set ?_ GE217.out) | exact HB.out)) hb)
                        clear HO214
                        clear HO220
                        clear HO223
                        clear HO228
                        clear BK217
                        clear HB
                        have HO214 := n0_
                        have HO220 := n1_
                        have HO223 := n2_
                        have HO228 := n3_
                        have BK217 := n4_
                        have HB := n5_
                        clear n0_ n1_ n2_ n3_ n4_ n5_
                        (try clear hb)
                        (try clear hb2)
                        (try clear hk)
                        (try clear hi)
                        refine hK.out _ _ ⟨(blk_cell BK217.out 0).trans rfl, (blk_cell BK217.out 1).trans rfl, (blk_cell BK217.out 2).trans rfl, (blk_cell BK217.out 3).trans rfl⟩ (fun hHeld => ?_)
                        clear hK K
                        refine norm_ (a' := ?_) ?_ ?_
                        rotate_left
                        · show Act.put _ (some 36) _ = _
                          simp only [Act.put, List.setIfInBounds_toArray, List.set_cons_zero, List.set_cons_succ, i64_w, i32_w]
                          rfl
                        refine one_ (i := 5) (N := some 39) #[true, true, true, true, true, true, false, false, false, false, false, false, false, false, false, false, false, false, false, false, false, false, false, false, false, false, false, false, false, false, false, false, false, false, false, false, false, false, false, false, false, false, false, false, false, false, false, false, false, false, false, false, false, false, false, false, false, false, false] rfl rfl (one_of HT_.out (by kernel_rfl)) (by decide) (fun K hK => ?_)
                        refine goes_ Tryd.func24 (by kernel_rfl) rfl #[.string (rdOf ByteArray.empty y221 t224), .slice Ao49 t218.length co49] (by rfl) rfl rfl (by (try simp only [List.map_toArray, List.map_cons, List.map_nil]); first | done | rfl | (simp only [List.length_drop, List.length_take]; rfl)) ?_
                        with_reducible refine (postilionref01_Plain.calls k (rdOf ByteArray.empty y221 t224) _ _ t218 t232 _ ?side1 ?side2 A16.out).mono ?_
                        (case side1 => repeat (first | exact (Kd.R_reads' HO220.out).2.2 | (with_reducible refine Kd.C_alloc ?_ _) | (with_reducible refine Kd.C_drewN ?_ _) | (with_reducible refine Kd.C_drew ?_)))
                        (case side2 => exact (Kd.R_reads' HO220.out).2.1)
                        rintro e w51 ⟨rfl, hb⟩
                        refine ⟨_, rfl, ?_⟩
                        have n0_ := Aside0.mk (Kd.R_below (by (with_reducible repeat (first | apply Kd.R_alloc | apply Kd.R_drewN | apply Kd.R_drew)); exact HO214.out) hb)
                        have n1_ := Aside0.mk (Kd.R_below (by (with_reducible repeat (first | apply Kd.R_alloc | apply Kd.R_drewN | apply Kd.R_drew)); exact HO220.out) hb)
                        have n2_ := Aside0.mk (Kd.R_below (by (with_reducible repeat (first | apply Kd.R_alloc | apply Kd.R_drewN | apply Kd.R_drew)); exact HO223.out) hb)
                        have n3_ := Aside0.mk (Kd.R_below (by (with_reducible repeat (first | apply Kd.R_alloc | apply Kd.R_drewN | apply Kd.R_drew)); exact HO228.out) hb)
                        have n4_ := Aside0.mk (blk_below (g := gb217) (o := .cells #[.int .i64 t211, .slice Ao40 t212.length co40, .string t215, .bool t216] 45 (0, 0)) (by (with_reducible repeat (first | refine blk_drewN ?_ _ | refine blk_drew ?_ | refine blk_alloc ?_ _)); exact BK217.out) hb)
                        have n5_ := Aside0.mk (below_step (by repeat (first | (with_reducible first | exact HB.out | apply below_alloc | apply pw_below_drewN | apply below_drew1 | refine below_set ?_ GE217.out) | exact HB.out)) hb)
                        clear HO214
                        clear HO220
                        clear HO223
                        clear HO228
                        clear BK217
                        clear HB
                        have HO214 := n0_
                        have HO220 := n1_
                        have HO223 := n2_
                        have HO228 := n3_
                        have BK217 := n4_
                        have HB := n5_
                        clear n0_ n1_ n2_ n3_ n4_ n5_
                        (try clear hb)
                        (try clear hb2)
                        (try clear hk)
                        (try clear hi)
                        refine hK.out _ _ ⟨(blk_cell BK217.out 0).trans rfl, (blk_cell BK217.out 1).trans rfl, (blk_cell BK217.out 2).trans rfl, (blk_cell BK217.out 3).trans rfl⟩ (fun hHeld => ?_)
                        clear hK K
                        refine norm_ (a' := ?_) ?_ ?_
                        rotate_left
                        · show Act.put _ (some 39) _ = _
                          simp only [Act.put, List.setIfInBounds_toArray, List.set_cons_zero, List.set_cons_succ, i64_w, i32_w]
                          rfl
                        refine pure_ (i := 6) (N := some 40) (v := ?_) (a' := ?_) #[true, true, true, true, true, true, true, false, false, false, false, false, false, false, false, false, false, false, false, false, false, false, false, false, false, false, false, false, false, false, false, false, false, false, false, false, false, false, false, false, false, false, false, false, false, false, false, false, false, false, false, false, false, false, false, false, false, false, false] rfl rfl (any_of HT_.out (by kernel_rfl)) (fun _ _ _ h => h) (Or.inl ⟨by rfl, ?_⟩) ?_ ?_
                        rotate_left
                        · intro w'
                          go_simp
                          with_reducible rfl
                        rotate_left
                        · simp only [Act.put, List.setIfInBounds_toArray, List.set_cons_zero, List.set_cons_succ, i64_w, i32_w]
                          rfl
                        refine pure_ (i := 7) (N := some 41) (v := ?_) (a' := ?_) #[true, true, true, true, true, true, true, true, false, false, false, false, false, false, false, false, false, false, false, false, false, false, false, false, false, false, false, false, false, false, false, false, false, false, false, false, false, false, false, false, false, false, false, false, false, false, false, false, false, false, false, false, false, false, false, false, false, false, false] rfl rfl (any_of HT_.out (by kernel_rfl)) (fun _ _ _ h => h) (Or.inl ⟨by rfl, ?_⟩) ?_ ?_
                        rotate_left
                        · intro w'
                          go_simp
                          with_reducible rfl
                        rotate_left
                        · simp only [Act.put, List.setIfInBounds_toArray, List.set_cons_zero, List.set_cons_succ, i64_w, i32_w]
                          rfl
                        refine pure_ (i := 10) (N := some 44) (v := ?_) (a' := ?_) #[true, true, true, true, true, true, true, true, false, false, true, false, false, false, false, false, false, false, false, false, false, false, false, false, false, false, false, false, false, false, false, false, false, false, false, false, false, false, false, false, false, false, false, false, false, false, false, false, false, false, false, false, false, false, false, false, false, false, false] rfl rfl (any_of HT_.out (by kernel_rfl)) (fun _ _ _ h => h) (Or.inl ⟨by rfl, ?_⟩) ?_ ?_
                        rotate_left
                        · intro w'
                          go_simp
                          with_reducible rfl
                        rotate_left
                        · simp only [Act.put, List.setIfInBounds_toArray, List.set_cons_zero, List.set_cons_succ, i64_w, i32_w]
                          rfl
                        refine pure_ (i := 11) (N := some 45) (v := ?_) (a' := ?_) #[true, true, true, true, true, true, true, true, false, false, true, true, false, false, false, false, false, false, false, false, false, false, false, false, false, false, false, false, false, false, false, false, false, false, false, false, false, false, false, false, false, false, false, false, false, false, false, false, false, false, false, false, false, false, false, false, false, false, false] rfl rfl (any_of HT_.out (by kernel_rfl)) (fun _ _ _ h => h) (Or.inl ⟨by rfl, ?_⟩) ?_ ?_
                        rotate_left
                        · intro w'
                          go_simp
                          with_reducible rfl
                        rotate_left
                        · simp only [Act.put, List.setIfInBounds_toArray, List.set_cons_zero, List.set_cons_succ, i64_w, i32_w]
                          rfl
                        refine pure_ (i := 14) (N := some 48) (v := ?_) (a' := ?_) #[true, true, true, true, true, true, true, true, false, false, true, true, false, false, true, false, false, false, false, false, false, false, false, false, false, false, false, false, false, false, false, false, false, false, false, false, false, false, false, false, false, false, false, false, false, false, false, false, false, false, false, false, false, false, false, false, false, false, false] rfl rfl (any_of HT_.out (by kernel_rfl)) (fun _ _ _ h => h) (Or.inl ⟨by rfl, ?_⟩) ?_ ?_
                        rotate_left
                        · intro w'
                          go_simp
                          with_reducible rfl
                        rotate_left
                        · simp only [Act.put, List.setIfInBounds_toArray, List.set_cons_zero, List.set_cons_succ, i64_w, i32_w]
                          rfl
                        refine pure_ (i := 15) (N := some 49) (v := ?_) (a' := ?_) #[true, true, true, true, true, true, true, true, false, false, true, true, false, false, true, true, false, false, false, false, false, false, false, false, false, false, false, false, false, false, false, false, false, false, false, false, false, false, false, false, false, false, false, false, false, false, false, false, false, false, false, false, false, false, false, false, false, false, false] rfl rfl (any_of HT_.out (by kernel_rfl)) (fun _ _ _ h => h) (Or.inl ⟨by rfl, ?_⟩) ?_ ?_
                        rotate_left
                        · intro w'
                          go_simp
                          with_reducible rfl
                        rotate_left
                        · simp only [Act.put, List.setIfInBounds_toArray, List.set_cons_zero, List.set_cons_succ, i64_w, i32_w]
                          rfl
                        refine take_ (i := 8) (N := some 42) (v := ?_) (a' := ?_) #[true, true, true, true, true, true, true, true, true, false, true, true, false, false, true, true, false, false, false, false, false, false, false, false, false, false, false, false, false, false, false, false, false, false, false, false, false, false, false, false, false, false, false, false, false, false, false, false, false, false, false, false, false, false, false, false, false, false, false] rfl rfl (take_ofW HT_.out HW_.out (by kernel_rfl)) (fun _ _ _ h => h) (Or.inl ⟨by rfl, ?_⟩) hHeld ?_ ?_
                        rotate_left
                        · rintro w' ⟨s0, s1, s2, s3⟩
                          go_simp
                          with_reducible rfl
                        rotate_left
                        · simp only [Act.put, List.setIfInBounds_toArray, List.set_cons_zero, List.set_cons_succ, i64_w, i32_w]
                          rfl
                        refine take_ (i := 13) (N := some 47) (v := ?_) (a' := ?_) #[true, true, true, true, true, true, true, true, true, false, true, true, false, true, true, true, false, false, false, false, false, false, false, false, false, false, false, false, false, false, false, false, false, false, false, false, false, false, false, false, false, false, false, false, false, false, false, false, false, false, false, false, false, false, false, false, false, false, false] rfl rfl (take_ofW HT_.out HW_.out (by kernel_rfl)) (fun _ _ _ h => h) (Or.inl ⟨by rfl, ?_⟩) hHeld ?_ ?_
                        rotate_left
                        · rintro w' ⟨s0, s1, s2, s3⟩
                          go_simp
                          with_reducible rfl
                        rotate_left
                        · simp only [Act.put, List.setIfInBounds_toArray, List.set_cons_zero, List.set_cons_succ, i64_w, i32_w]
                          rfl
                        refine one_ (i := 9) (N := some 43) #[true, true, true, true, true, true, true, true, true, true, true, true, false, true, true, true, false, false, false, false, false, false, false, false, false, false, false, false, false, false, false, false, false, false, false, false, false, false, false, false, false, false, false, false, false, false, false, false, false, false, false, false, false, false, false, false, false, false, false] rfl rfl (one_of HT_.out (by kernel_rfl)) (by decide) (fun K hK => ?_)
                        refine goes_ Tryd.func25 (by kernel_rfl) rfl #[.agg #[.int .i64 t211, .slice Ao40 t212.length co40, .string t215, .bool t216]] (by rfl) rfl rfl (by (try simp only [List.map_toArray, List.map_cons, List.map_nil]); first | done | rfl | (simp only [List.length_drop, List.length_take]; rfl)) ?_
                        with_reducible refine (postilionlaw13_To.calls t211 (fun k_ => some k_ = (.slice Ao40 t212.length co40 : Value).ownBlock) _ _ t212 t215 t216 t233 t234 t237 t238 _ ?side1 A18.out).mono ?_
                        (case side1 => exact Kd.R_V (Kd.R_tight rfl (Kd.R_types (Kd.R_apart' (Kd.R_apart' (HO214.out) (Kd.R_typed HO223.out) (by decide)) (Kd.R_typed HO228.out) (by decide)) BK217.out (by decide))))
                        rintro e w52 ⟨v235, rfl, ho0, hb⟩
                        refine ⟨_, rfl, ?_⟩
                        have n0_ := Aside0.mk (Kd.R_below (by (with_reducible repeat (first | apply Kd.R_alloc | apply Kd.R_drewN | apply Kd.R_drew)); exact HO214.out) hb)
                        have n1_ := Aside0.mk (Kd.R_below (by (with_reducible repeat (first | apply Kd.R_alloc | apply Kd.R_drewN | apply Kd.R_drew)); exact HO220.out) hb)
                        have n2_ := Aside0.mk (Kd.R_below (by (with_reducible repeat (first | apply Kd.R_alloc | apply Kd.R_drewN | apply Kd.R_drew)); exact HO223.out) hb)
                        have n3_ := Aside0.mk (Kd.R_below (by (with_reducible repeat (first | apply Kd.R_alloc | apply Kd.R_drewN | apply Kd.R_drew)); exact HO228.out) hb)
                        have n4_ := Aside0.mk (Kd.V_lower (Kd.V_mono (ok' := fun k_ => some k_ ≠ (.slice Ao49 t218.length co49 : Value).ownBlock ∧ some k_ ≠ (.slice (some ad225) y221.length co44 : Value).ownBlock ∧ some k_ ≠ (.slice (some ad230) y226.length co47 : Value).ownBlock ∧ k_ ≠ gb217) ho0 (fun k_ hk_ => ⟨Or.elim hk_ (fun hs_ => ((Kd.R_types (Kd.R_apart' (Kd.R_apart' (HO214.out) (Kd.R_typed HO223.out) (by decide)) (Kd.R_typed HO228.out) (by decide)) BK217.out (by decide)).1 k_ hs_.symm).1.1.1) (fun hn_ => (Kd.fresh' (Kd.R_lt (by (with_reducible repeat (first | apply Kd.R_alloc | apply Kd.R_drewN | apply Kd.R_drew)); exact HO220.out)) k_ hn_)), Or.elim hk_ (fun hs_ => ((Kd.R_types (Kd.R_apart' (Kd.R_apart' (HO214.out) (Kd.R_typed HO223.out) (by decide)) (Kd.R_typed HO228.out) (by decide)) BK217.out (by decide)).1 k_ hs_.symm).1.1.2) (fun hn_ => (Kd.fresh' (Kd.R_lt (by (with_reducible repeat (first | apply Kd.R_alloc | apply Kd.R_drewN | apply Kd.R_drew)); exact HO223.out)) k_ hn_)), Or.elim hk_ (fun hs_ => ((Kd.R_types (Kd.R_apart' (Kd.R_apart' (HO214.out) (Kd.R_typed HO223.out) (by decide)) (Kd.R_typed HO228.out) (by decide)) BK217.out (by decide)).1 k_ hs_.symm).1.2) (fun hn_ => (Kd.fresh' (Kd.R_lt (by (with_reducible repeat (first | apply Kd.R_alloc | apply Kd.R_drewN | apply Kd.R_drew)); exact HO228.out)) k_ hn_)), Or.elim hk_ (fun hs_ => ((Kd.R_types (Kd.R_apart' (Kd.R_apart' (HO214.out) (Kd.R_typed HO223.out) (by decide)) (Kd.R_typed HO228.out) (by decide)) BK217.out (by decide)).1 k_ hs_.symm).2) (fun hn_ => (Kd.freshB (g := gb217) (o := .cells #[.int .i64 t211, .slice Ao40 t212.length co40, .string t215, .bool t216] 45 (0, 0)) (by (with_reducible repeat (first | refine blk_drewN ?_ _ | refine blk_drew ?_ | refine blk_alloc ?_ _)); exact BK217.out) k_ hn_))⟩)) (below_size (by repeat (first | (with_reducible first | exact HB.out | apply below_alloc | apply pw_below_drewN | apply below_drew1 | refine below_set ?_ GE217.out) | exact HB.out))))
                        have n5_ := Aside0.mk (blk_below (g := gb217) (o := .cells #[.int .i64 t211, .slice Ao40 t212.length co40, .string t215, .bool t216] 45 (0, 0)) (by (with_reducible repeat (first | refine blk_drewN ?_ _ | refine blk_drew ?_ | refine blk_alloc ?_ _)); exact BK217.out) hb)
                        have n6_ := Aside0.mk (below_step (by repeat (first | (with_reducible first | exact HB.out | apply below_alloc | apply pw_below_drewN | apply below_drew1 | refine below_set ?_ GE217.out) | exact HB.out)) hb)
                        clear HO214
                        clear HO220
                        clear HO223
                        clear HO228
                        clear BK217
                        clear HB
                        have HO214 := n0_
                        have HO220 := n1_
                        have HO223 := n2_
                        have HO228 := n3_
                        have HO236 := n4_
                        have BK217 := n5_
                        have HB := n6_
                        clear n0_ n1_ n2_ n3_ n4_ n5_ n6_
                        (try clear hb)
                        (try clear hb2)
                        (try clear hk)
                        (try clear hi)
                        (try clear ho0)
                        obtain ⟨Ao53, co53, eo53⟩ := Kd.V_slice HO236.out
                        (first | subst eo53 | (injection eo53 with f1_ f2_ f3_; have f4_ := f1_.symm; have f5_ := f3_.symm; clear f1_ f2_ f3_; subst f4_; subst f5_))
                        refine hK.out _ _ ⟨(blk_cell BK217.out 0).trans rfl, (blk_cell BK217.out 1).trans rfl, (blk_cell BK217.out 2).trans rfl, (blk_cell BK217.out 3).trans rfl⟩ (fun hHeld => ?_)
                        clear hK K
                        refine norm_ (a' := ?_) ?_ ?_
                        rotate_left
                        · show Act.put _ (some 43) _ = _
                          simp only [Act.put, List.setIfInBounds_toArray, List.set_cons_zero, List.set_cons_succ, i64_w, i32_w]
                          rfl
                        refine one_ (i := 12) (N := some 46) #[true, true, true, true, true, true, true, true, true, true, true, true, true, true, true, true, false, false, false, false, false, false, false, false, false, false, false, false, false, false, false, false, false, false, false, false, false, false, false, false, false, false, false, false, false, false, false, false, false, false, false, false, false, false, false, false, false, false, false] rfl rfl (one_of HT_.out (by kernel_rfl)) (by decide) (fun K hK => ?_)
                        refine goes_ Tryd.func19 (by kernel_rfl) rfl #[.agg #[.int .i64 t233, .slice Ao53 t234.length co53, .string t237, .bool t238], .string (rdOf ByteArray.empty y226 t229), .bool a5] (by rfl) rfl rfl (by (try simp only [List.map_toArray, List.map_cons, List.map_nil]); first | done | rfl | (simp only [List.length_drop, List.length_take]; rfl)) ?_
                        with_reducible refine (cors_Check.calls k t233 _ _ t234 t237 t238 (rdOf ByteArray.empty y226 t229) a5 t239 _ ?side1 ?side2 A19.out).mono ?_
                        (case side1 => repeat (first | exact (Kd.V_reads' HO236.out).2.2 | (with_reducible refine Kd.C_alloc ?_ _) | (with_reducible refine Kd.C_drewN ?_ _) | (with_reducible refine Kd.C_drew ?_)))
                        (case side2 => exact (Kd.V_reads' HO236.out).2.1)
                        rintro e w54 ⟨rfl, hb⟩
                        refine ⟨_, rfl, ?_⟩
                        have n0_ := Aside0.mk (Kd.R_below (by (with_reducible repeat (first | apply Kd.R_alloc | apply Kd.R_drewN | apply Kd.R_drew)); exact HO214.out) hb)
                        have n1_ := Aside0.mk (Kd.R_below (by (with_reducible repeat (first | apply Kd.R_alloc | apply Kd.R_drewN | apply Kd.R_drew)); exact HO220.out) hb)
                        have n2_ := Aside0.mk (Kd.R_below (by (with_reducible repeat (first | apply Kd.R_alloc | apply Kd.R_drewN | apply Kd.R_drew)); exact HO223.out) hb)
                        have n3_ := Aside0.mk (Kd.R_below (by (with_reducible repeat (first | apply Kd.R_alloc | apply Kd.R_drewN | apply Kd.R_drew)); exact HO228.out) hb)
                        have n4_ := Aside0.mk (Kd.V_below (by (with_reducible repeat (first | apply Kd.V_alloc | apply Kd.V_drewN | apply Kd.V_drew)); exact HO236.out) hb)
                        have n5_ := Aside0.mk (blk_below (g := gb217) (o := .cells #[.int .i64 t211, .slice Ao40 t212.length co40, .string t215, .bool t216] 45 (0, 0)) (by (with_reducible repeat (first | refine blk_drewN ?_ _ | refine blk_drew ?_ | refine blk_alloc ?_ _)); exact BK217.out) hb)
                        have n6_ := Aside0.mk (below_step (by repeat (first | (with_reducible first | exact HB.out | apply below_alloc | apply pw_below_drewN | apply below_drew1 | refine below_set ?_ GE217.out) | exact HB.out)) hb)
                        clear HO214
                        clear HO220
                        clear HO223
                        clear HO228
                        clear HO236
                        clear BK217
                        clear HB
                        have HO214 := n0_
                        have HO220 := n1_
                        have HO223 := n2_
                        have HO228 := n3_
                        have HO236 := n4_
                        have BK217 := n5_
                        have HB := n6_
                        clear n0_ n1_ n2_ n3_ n4_ n5_ n6_
                        (try clear hb)
                        (try clear hb2)
                        (try clear hk)
                        (try clear hi)
                        refine hK.out _ _ ⟨(blk_cell BK217.out 0).trans rfl, (blk_cell BK217.out 1).trans rfl, (blk_cell BK217.out 2).trans rfl, (blk_cell BK217.out 3).trans rfl⟩ (fun hHeld => ?_)
                        clear hK K
                        refine norm_ (a' := ?_) ?_ ?_
                        rotate_left
                        · show Act.put _ (some 46) _ = _
                          simp only [Act.put, List.setIfInBounds_toArray, List.set_cons_zero, List.set_cons_succ, i64_w, i32_w]
                          rfl
                        refine one_ (i := 16) (N := some 50) #[true, true, true, true, true, true, true, true, true, true, true, true, true, true, true, true, true, false, false, false, false, false, false, false, false, false, false, false, false, false, false, false, false, false, false, false, false, false, false, false, false, false, false, false, false, false, false, false, false, false, false, false, false, false, false, false, false, false, false] rfl rfl (one_of HT_.out (by kernel_rfl)) (by decide) (fun K hK => ?_)
                        refine goes_ Tryd.func26 (by kernel_rfl) rfl #[.agg #[.int .i64 t211, .slice Ao40 t212.length co40, .string t215, .bool t216], .string (rdOf ByteArray.empty y226 t229), .bool a5] (by rfl) rfl rfl (by (try simp only [List.map_toArray, List.map_cons, List.map_nil]); first | done | rfl | (simp only [List.length_drop, List.length_take]; rfl)) ?_
                        with_reducible refine (postilionref01_Cors.calls k t211 _ _ t212 t215 t216 (rdOf ByteArray.empty y226 t229) a5 t240 _ ?side1 ?side2 A20.out).mono ?_
                        (case side1 => repeat (first | exact (Kd.R_reads' HO214.out).2.2 | (with_reducible refine Kd.C_alloc ?_ _) | (with_reducible refine Kd.C_drewN ?_ _) | (with_reducible refine Kd.C_drew ?_)))
                        (case side2 => exact (Kd.R_reads' HO214.out).2.1)
                        rintro e w55 ⟨rfl, hb⟩
                        refine ⟨_, rfl, ?_⟩
                        have n0_ := Aside0.mk (Kd.R_below (by (with_reducible repeat (first | apply Kd.R_alloc | apply Kd.R_drewN | apply Kd.R_drew)); exact HO214.out) hb)
                        have n1_ := Aside0.mk (Kd.R_below (by (with_reducible repeat (first | apply Kd.R_alloc | apply Kd.R_drewN | apply Kd.R_drew)); exact HO220.out) hb)
                        have n2_ := Aside0.mk (Kd.R_below (by (with_reducible repeat (first | apply Kd.R_alloc | apply Kd.R_drewN | apply Kd.R_drew)); exact HO223.out) hb)
                        have n3_ := Aside0.mk (Kd.R_below (by (with_reducible repeat (first | apply Kd.R_alloc | apply Kd.R_drewN | apply Kd.R_drew)); exact HO228.out) hb)
                        have n4_ := Aside0.mk (Kd.V_below (by (with_reducible repeat (first | apply Kd.V_alloc | apply Kd.V_drewN | apply Kd.V_drew)); exact HO236.out) hb)
                        have n5_ := Aside0.mk (blk_below (g := gb217) (o := .cells #[.int .i64 t211, .slice Ao40 t212.length co40, .string t215, .bool t216] 45 (0, 0)) (by (with_reducible repeat (first | refine blk_drewN ?_ _ | refine blk_drew ?_ | refine blk_alloc ?_ _)); exact BK217.out) hb)
                        have n6_ := Aside0.mk (below_step (by repeat (first | (with_reducible first | exact HB.out | apply below_alloc | apply pw_below_drewN | apply below_drew1 | refine below_set ?_ GE217.out) | exact HB.out)) hb)
                        clear HO214
                        clear HO220
                        clear HO223
                        clear HO228
                        clear HO236
                        clear BK217
                        clear HB
                        have HO214 := n0_
                        have HO220 := n1_
                        have HO223 := n2_
                        have HO228 := n3_
                        have HO236 := n4_
                        have BK217 := n5_
                        have HB := n6_
                        clear n0_ n1_ n2_ n3_ n4_ n5_ n6_
                        (try clear hb)
                        (try clear hb2)
                        (try clear hk)
                        (try clear hi)
                        refine hK.out _ _ ⟨(blk_cell BK217.out 0).trans rfl, (blk_cell BK217.out 1).trans rfl, (blk_cell BK217.out 2).trans rfl, (blk_cell BK217.out 3).trans rfl⟩ (fun hHeld => ?_)
                        clear hK K
                        refine norm_ (a' := ?_) ?_ ?_
                        rotate_left
                        · show Act.put _ (some 50) _ = _
                          simp only [Act.put, List.setIfInBounds_toArray, List.set_cons_zero, List.set_cons_succ, i64_w, i32_w]
                          rfl
                        refine pure_ (i := 17) (N := some 51) (v := ?_) (a' := ?_) #[true, true, true, true, true, true, true, true, true, true, true, true, true, true, true, true, true, true, false, false, false, false, false, false, false, false, false, false, false, false, false, false, false, false, false, false, false, false, false, false, false, false, false, false, false, false, false, false, false, false, false, false, false, false, false, false, false, false, false] rfl rfl (any_of HT_.out (by kernel_rfl)) (fun _ _ _ h => h) (Or.inl ⟨by rfl, ?_⟩) ?_ ?_
                        rotate_left
                        · intro w'
                          go_simp
                          with_reducible rfl
                        rotate_left
                        · simp only [Act.put, List.setIfInBounds_toArray, List.set_cons_zero, List.set_cons_succ, i64_w, i32_w]
                          rfl
                        refine pure_ (i := 18) (N := some 52) (v := ?_) (a' := ?_) #[true, true, true, true, true, true, true, true, true, true, true, true, true, true, true, true, true, true, true, false, false, false, false, false, false, false, false, false, false, false, false, false, false, false, false, false, false, false, false, false, false, false, false, false, false, false, false, false, false, false, false, false, false, false, false, false, false, false, false] rfl rfl (any_of HT_.out (by kernel_rfl)) (fun _ _ _ h => h) (Or.inl ⟨by rfl, ?_⟩) ?_ ?_
                        rotate_left
                        · intro w'
                          go_simp
                          with_reducible rfl
                        rotate_left
                        · simp only [Act.put, List.setIfInBounds_toArray, List.set_cons_zero, List.set_cons_succ, i64_w, i32_w]
                          rfl
                        refine pure_ (i := 19) (N := some 53) (v := ?_) (a' := ?_) #[true, true, true, true, true, true, true, true, true, true, true, true, true, true, true, true, true, true, true, true, false, false, false, false, false, false, false, false, false, false, false, false, false, false, false, false, false, false, false, false, false, false, false, false, false, false, false, false, false, false, false, false, false, false, false, false, false, false, false] rfl rfl (any_of HT_.out (by kernel_rfl)) (fun _ _ _ h => h) (Or.inl ⟨by rfl, ?_⟩) ?_ ?_
                        rotate_left
                        · intro w'
                          go_simp
                          with_reducible rfl
                        rotate_left
                        · simp only [Act.put, List.setIfInBounds_toArray, List.set_cons_zero, List.set_cons_succ, i64_w, i32_w]
                          rfl
                        refine pure_ (i := 22) (N := some 56) (v := ?_) (a' := ?_) #[true, true, true, true, true, true, true, true, true, true, true, true, true, true, true, true, true, true, true, true, false, false, true, false, false, false, false, false, false, false, false, false, false, false, false, false, false, false, false, false, false, false, false, false, false, false, false, false, false, false, false, false, false, false, false, false, false, false, false] rfl rfl (any_of HT_.out (by kernel_rfl)) (fun _ _ _ h => h) (Or.inl ⟨by rfl, ?_⟩) ?_ ?_
                        rotate_left
                        · intro w'
                          go_simp
                          with_reducible rfl
                        rotate_left
                        · simp only [Act.put, List.setIfInBounds_toArray, List.set_cons_zero, List.set_cons_succ, i64_w, i32_w]
                          rfl
                        refine pure_ (i := 23) (N := some 57) (v := ?_) (a' := ?_) #[true, true, true, true, true, true, true, true, true, true, true, true, true, true, true, true, true, true, true, true, false, false, true, true, false, false, false, false, false, false, false, false, false, false, false, false, false, false, false, false, false, false, false, false, false, false, false, false, false, false, false, false, false, false, false, false, false, false, false] rfl rfl (any_of HT_.out (by kernel_rfl)) (fun _ _ _ h => h) (Or.inl ⟨by rfl, ?_⟩) ?_ ?_
                        rotate_left
                        · intro w'
                          go_simp
                          with_reducible rfl
                        rotate_left
                        · simp only [Act.put, List.setIfInBounds_toArray, List.set_cons_zero, List.set_cons_succ, i64_w, i32_w]
                          rfl
                        refine pure_ (i := 24) (N := some 58) (v := ?_) (a' := ?_) #[true, true, true, true, true, true, true, true, true, true, true, true, true, true, true, true, true, true, true, true, false, false, true, true, true, false, false, false, false, false, false, false, false, false, false, false, false, false, false, false, false, false, false, false, false, false, false, false, false, false, false, false, false, false, false, false, false, false, false] rfl rfl (any_of HT_.out (by kernel_rfl)) (fun _ _ _ h => h) (Or.inl ⟨by rfl, ?_⟩) ?_ ?_
                        rotate_left
                        · intro w'
                          go_simp
                          with_reducible rfl
                        rotate_left
                        · simp only [Act.put, List.setIfInBounds_toArray, List.set_cons_zero, List.set_cons_succ, i64_w, i32_w]
                          rfl
                        refine pure_ (i := 25) (N := some 59) (v := ?_) (a' := ?_) #[true, true, true, true, true, true, true, true, true, true, true, true, true, true, true, true, true, true, true, true, false, false, true, true, true, true, false, false, false, false, false, false, false, false, false, false, false, false, false, false, false, false, false, false, false, false, false, false, false, false, false, false, false, false, false, false, false, false, false] rfl rfl (any_of HT_.out (by kernel_rfl)) (fun _ _ _ h => h) (Or.inl ⟨by rfl, ?_⟩) ?_ ?_
                        rotate_left
                        · intro w'
                          go_simp
                          with_reducible rfl
                        rotate_left
                        · simp only [Act.put, List.setIfInBounds_toArray, List.set_cons_zero, List.set_cons_succ, i64_w, i32_w]
                          rfl
                        refine pure_ (i := 28) (N := some 62) (v := ?_) (a' := ?_) #[true, true, true, true, true, true, true, true, true, true, true, true, true, true, true, true, true, true, true, true, false, false, true, true, true, true, false, false, true, false, false, false, false, false, false, false, false, false, false, false, false, false, false, false, false, false, false, false, false, false, false, false, false, false, false, false, false, false, false] rfl rfl (any_of HT_.out (by kernel_rfl)) (fun _ _ _ h => h) (Or.inl ⟨by rfl, ?_⟩) ?_ ?_
                        rotate_left
                        · intro w'
                          go_simp
                          with_reducible rfl
                        rotate_left
                        · simp only [Act.put, List.setIfInBounds_toArray, List.set_cons_zero, List.set_cons_succ, i64_w, i32_w]
                          rfl
                        refine pure_ (i := 29) (N := some 63) (v := ?_) (a' := ?_) #[true, true, true, true, true, true, true, true, true, true, true, true, true, true, true, true, true, true, true, true, false, false, true, true, true, true, false, false, true, true, false, false, false, false, false, false, false, false, false, false, false, false, false, false, false, false, false, false, false, false, false, false, false, false, false, false, false, false, false] rfl rfl (any_of HT_.out (by kernel_rfl)) (fun _ _ _ h => h) (Or.inl ⟨by rfl, ?_⟩) ?_ ?_
                        rotate_left
                        · intro w'
                          go_simp
                          with_reducible rfl
                        rotate_left
                        · simp only [Act.put, List.setIfInBounds_toArray, List.set_cons_zero, List.set_cons_succ, i64_w, i32_w]
                          rfl
                        refine pure_ (i := 30) (N := some 64) (v := ?_) (a' := ?_) #[true, true, true, true, true, true, true, true, true, true, true, true, true, true, true, true, true, true, true, true, false, false, true, true, true, true, false, false, true, true, true, false, false, false, false, false, false, false, false, false, false, false, false, false, false, false, false, false, false, false, false, false, false, false, false, false, false, false, false] rfl rfl (any_of HT_.out (by kernel_rfl)) (fun _ _ _ h => h) (Or.inl ⟨by rfl, ?_⟩) ?_ ?_
                        rotate_left
                        · intro w'
                          go_simp
                          with_reducible rfl
                        rotate_left
                        · simp only [Act.put, List.setIfInBounds_toArray, List.set_cons_zero, List.set_cons_succ, i64_w, i32_w]
                          rfl
                        refine pure_ (i := 31) (N := some 65) (v := ?_) (a' := ?_) #[true, true, true, true, true, true, true, true, true, true, true, true, true, true, true, true, true, true, true, true, false, false, true, true, true, true, false, false, true, true, true, true, false, false, false, false, false, false, false, false, false, false, false, false, false, false, false, false, false, false, false, false, false, false, false, false, false, false, false] rfl rfl (any_of HT_.out (by kernel_rfl)) (fun _ _ _ h => h) (Or.inl ⟨by rfl, ?_⟩) ?_ ?_
                        rotate_left
                        · intro w'
                          go_simp
                          with_reducible rfl
                        rotate_left
                        · simp only [Act.put, List.setIfInBounds_toArray, List.set_cons_zero, List.set_cons_succ, i64_w, i32_w]
                          rfl
                        refine take_ (i := 20) (N := some 54) (v := ?_) (a' := ?_) #[true, true, true, true, true, true, true, true, true, true, true, true, true, true, true, true, true, true, true, true, true, false, true, true, true, true, false, false, true, true, true, true, false, false, false, false, false, false, false, false, false, false, false, false, false, false, false, false, false, false, false, false, false, false, false, false, false, false, false] rfl rfl (take_ofW HT_.out HW_.out (by kernel_rfl)) (fun _ _ _ h => h) (Or.inl ⟨by rfl, ?_⟩) hHeld ?_ ?_
                        rotate_left
                        · rintro w' ⟨s0, s1, s2, s3⟩
                          go_simp
                          with_reducible rfl
                        rotate_left
                        · simp only [Act.put, List.setIfInBounds_toArray, List.set_cons_zero, List.set_cons_succ, i64_w, i32_w]
                          rfl
                        refine take_ (i := 27) (N := some 61) (v := ?_) (a' := ?_) #[true, true, true, true, true, true, true, true, true, true, true, true, true, true, true, true, true, true, true, true, true, false, true, true, true, true, false, true, true, true, true, true, false, false, false, false, false, false, false, false, false, false, false, false, false, false, false, false, false, false, false, false, false, false, false, false, false, false, false] rfl rfl (take_ofW HT_.out HW_.out (by kernel_rfl)) (fun _ _ _ h => h) (Or.inl ⟨by rfl, ?_⟩) hHeld ?_ ?_
                        rotate_left
                        · rintro w' ⟨s0, s1, s2, s3⟩
                          go_simp
                          with_reducible rfl
                        rotate_left
                        · simp only [Act.put, List.setIfInBounds_toArray, List.set_cons_zero, List.set_cons_succ, i64_w, i32_w]
                          rfl
                        refine one_ (i := 21) (N := some 55) #[true, true, true, true, true, true, true, true, true, true, true, true, true, true, true, true, true, true, true, true, true, true, true, true, true, true, false, true, true, true, true, true, false, false, false, false, false, false, false, false, false, false, false, false, false, false, false, false, false, false, false, false, false, false, false, false, false, false, false] rfl rfl (one_of HT_.out (by kernel_rfl)) (by decide) (fun K hK => ?_)
                        refine goes_ Tryd.func25 (by kernel_rfl) rfl #[.agg #[.int .i64 t211, .slice Ao40 t212.length co40, .string t215, .bool t216]] (by rfl) rfl rfl (by (try simp only [List.map_toArray, List.map_cons, List.map_nil]); first | done | rfl | (simp only [List.length_drop, List.length_take]; rfl)) ?_
                        with_reducible refine (postilionlaw13_To.calls t211 (fun k_ => some k_ = (.slice Ao40 t212.length co40 : Value).ownBlock) _ _ t212 t215 t216 t241 t242 t245 t246 _ ?side1 A22.out).mono ?_
                        (case side1 => exact Kd.R_V (Kd.R_tight rfl (Kd.R_types (Kd.R_apart' (Kd.R_apart' (HO214.out) (Kd.R_typed HO223.out) (by decide)) (Kd.R_typed HO228.out) (by decide)) BK217.out (by decide))))
                        rintro e w56 ⟨v243, rfl, ho0, hb⟩
                        refine ⟨_, rfl, ?_⟩
                        have n0_ := Aside0.mk (Kd.R_below (by (with_reducible repeat (first | apply Kd.R_alloc | apply Kd.R_drewN | apply Kd.R_drew)); exact HO214.out) hb)
                        have n1_ := Aside0.mk (Kd.R_below (by (with_reducible repeat (first | apply Kd.R_alloc | apply Kd.R_drewN | apply Kd.R_drew)); exact HO220.out) hb)
                        have n2_ := Aside0.mk (Kd.R_below (by (with_reducible repeat (first | apply Kd.R_alloc | apply Kd.R_drewN | apply Kd.R_drew)); exact HO223.out) hb)
                        have n3_ := Aside0.mk (Kd.R_below (by (with_reducible repeat (first | apply Kd.R_alloc | apply Kd.R_drewN | apply Kd.R_drew)); exact HO228.out) hb)
                        have n4_ := Aside0.mk (Kd.V_below (by (with_reducible repeat (first | apply Kd.V_alloc | apply Kd.V_drewN | apply Kd.V_drew)); exact HO236.out) hb)
                        have n5_ := Aside0.mk (Kd.V_lower (Kd.V_mono (ok' := fun k_ => some k_ ≠ (.slice Ao49 t218.length co49 : Value).ownBlock ∧ some k_ ≠ (.slice (some ad225) y221.length co44 : Value).ownBlock ∧ some k_ ≠ (.slice (some ad230) y226.length co47 : Value).ownBlock ∧ k_ ≠ gb217) ho0 (fun k_ hk_ => ⟨Or.elim hk_ (fun hs_ => ((Kd.R_types (Kd.R_apart' (Kd.R_apart' (HO214.out) (Kd.R_typed HO223.out) (by decide)) (Kd.R_typed HO228.out) (by decide)) BK217.out (by decide)).1 k_ hs_.symm).1.1.1) (fun hn_ => (Kd.fresh' (Kd.R_lt (by (with_reducible repeat (first | apply Kd.R_alloc | apply Kd.R_drewN | apply Kd.R_drew)); exact HO220.out)) k_ hn_)), Or.elim hk_ (fun hs_ => ((Kd.R_types (Kd.R_apart' (Kd.R_apart' (HO214.out) (Kd.R_typed HO223.out) (by decide)) (Kd.R_typed HO228.out) (by decide)) BK217.out (by decide)).1 k_ hs_.symm).1.1.2) (fun hn_ => (Kd.fresh' (Kd.R_lt (by (with_reducible repeat (first | apply Kd.R_alloc | apply Kd.R_drewN | apply Kd.R_drew)); exact HO223.out)) k_ hn_)), Or.elim hk_ (fun hs_ => ((Kd.R_types (Kd.R_apart' (Kd.R_apart' (HO214.out) (Kd.R_typed HO223.out) (by decide)) (Kd.R_typed HO228.out) (by decide)) BK217.out (by decide)).1 k_ hs_.symm).1.2) (fun hn_ => (Kd.fresh' (Kd.R_lt (by (with_reducible repeat (first | apply Kd.R_alloc | apply Kd.R_drewN | apply Kd.R_drew)); exact HO228.out)) k_ hn_)), Or.elim hk_ (fun hs_ => ((Kd.R_types (Kd.R_apart' (Kd.R_apart' (HO214.out) (Kd.R_typed HO223.out) (by decide)) (Kd.R_typed HO228.out) (by decide)) BK217.out (by decide)).1 k_ hs_.symm).2) (fun hn_ => (Kd.freshB (g := gb217) (o := .cells #[.int .i64 t211, .slice Ao40 t212.length co40, .string t215, .bool t216] 45 (0, 0)) (by (with_reducible repeat (first | refine blk_drewN ?_ _ | refine blk_drew ?_ | refine blk_alloc ?_ _)); exact BK217.out) k_ hn_))⟩)) (below_size (by repeat (first | (with_reducible first | exact HB.out | apply below_alloc | apply pw_below_drewN | apply below_drew1 | refine below_set ?_ GE217.out) | exact HB.out))))
                        have n6_ := Aside0.mk (blk_below (g := gb217) (o := .cells #[.int .i64 t211, .slice Ao40 t212.length co40, .string t215, .bool t216] 45 (0, 0)) (by (with_reducible repeat (first | refine blk_drewN ?_ _ | refine blk_drew ?_ | refine blk_alloc ?_ _)); exact BK217.out) hb)
                        have n7_ := Aside0.mk (below_step (by repeat (first | (with_reducible first | exact HB.out | apply below_alloc | apply pw_below_drewN | apply below_drew1 | refine below_set ?_ GE217.out) | exact HB.out)) hb)
                        clear HO214
                        clear HO220
                        clear HO223
                        clear HO228
                        clear HO236
                        clear BK217
                        clear HB
                        have HO214 := n0_
                        have HO220 := n1_
                        have HO223 := n2_
                        have HO228 := n3_
                        have HO236 := n4_
                        have HO244 := n5_
                        have BK217 := n6_
                        have HB := n7_
                        clear n0_ n1_ n2_ n3_ n4_ n5_ n6_ n7_
                        (try clear hb)
                        (try clear hb2)
                        (try clear hk)
                        (try clear hi)
                        (try clear ho0)
                        obtain ⟨Ao57, co57, eo57⟩ := Kd.V_slice HO244.out
                        (first | subst eo57 | (injection eo57 with f1_ f2_ f3_; have f4_ := f1_.symm; have f5_ := f3_.symm; clear f1_ f2_ f3_; subst f4_; subst f5_))
                        refine hK.out _ _ ⟨(blk_cell BK217.out 0).trans rfl, (blk_cell BK217.out 1).trans rfl, (blk_cell BK217.out 2).trans rfl, (blk_cell BK217.out 3).trans rfl⟩ (fun hHeld => ?_)
                        clear hK K
                        refine norm_ (a' := ?_) ?_ ?_
                        rotate_left
                        · show Act.put _ (some 55) _ = _
                          simp only [Act.put, List.setIfInBounds_toArray, List.set_cons_zero, List.set_cons_succ, i64_w, i32_w]
                          rfl
                        refine one_ (i := 26) (N := some 60) #[true, true, true, true, true, true, true, true, true, true, true, true, true, true, true, true, true, true, true, true, true, true, true, true, true, true, true, true, true, true, true, true, false, false, false, false, false, false, false, false, false, false, false, false, false, false, false, false, false, false, false, false, false, false, false, false, false, false, false] rfl rfl (one_of HT_.out (by kernel_rfl)) (by decide) (fun K hK => ?_)
                        refine goes_ Tryd.func20 (by kernel_rfl) rfl #[.agg #[.int .i64 t241, .slice Ao57 t242.length co57, .string t245, .bool t246], .string (rdOf ByteArray.empty y226 t229), .bool a5, .string (rdOf ByteArray.empty y221 t224), .slice Ao49 t218.length co49] (by rfl) rfl rfl (by (try simp only [List.map_toArray, List.map_cons, List.map_nil]); first | done | rfl | (simp only [List.length_drop, List.length_take]; rfl)) ?_
                        with_reducible refine (cors_Pre.calls k t241 _ _ t242 t245 t246 (rdOf ByteArray.empty y226 t229) a5 (rdOf ByteArray.empty y221 t224) _ _ t218 t247 _ ?side1 ?side2 ?side3 ?side4 ?side5 A23.out).mono ?_
                        (case side1 => exact Gl.below hG (by repeat (first | (with_reducible first | exact HB.out | apply below_alloc | apply pw_below_drewN | apply below_drew1 | refine below_set ?_ GE217.out) | exact HB.out)))
                        (case side2 => repeat (first | exact (Kd.V_reads' HO244.out).2.2 | (with_reducible refine Kd.C_alloc ?_ _) | (with_reducible refine Kd.C_drewN ?_ _) | (with_reducible refine Kd.C_drew ?_)))
                        (case side3 => exact (Kd.V_reads' HO244.out).2.1)
                        (case side4 => repeat (first | exact (Kd.R_reads' HO220.out).2.2 | (with_reducible refine Kd.C_alloc ?_ _) | (with_reducible refine Kd.C_drewN ?_ _) | (with_reducible refine Kd.C_drew ?_)))
                        (case side5 => exact (Kd.R_reads' HO220.out).2.1)
                        rintro e w58 ⟨rfl, hb⟩
                        refine ⟨_, rfl, ?_⟩
                        have n0_ := Aside0.mk (Kd.R_below (by (with_reducible repeat (first | apply Kd.R_alloc | apply Kd.R_drewN | apply Kd.R_drew)); exact HO214.out) hb)
                        have n1_ := Aside0.mk (Kd.R_below (by (with_reducible repeat (first | apply Kd.R_alloc | apply Kd.R_drewN | apply Kd.R_drew)); exact HO220.out) hb)
                        have n2_ := Aside0.mk (Kd.R_below (by (with_reducible repeat (first | apply Kd.R_alloc | apply Kd.R_drewN | apply Kd.R_drew)); exact HO223.out) hb)
                        have n3_ := Aside0.mk (Kd.R_below (by (with_reducible repeat (first | apply Kd.R_alloc | apply Kd.R_drewN | apply Kd.R_drew)); exact HO228.out) hb)
                        have n4_ := Aside0.mk (Kd.V_below (by (with_reducible repeat (first | apply Kd.V_alloc | apply Kd.V_drewN | apply Kd.V_drew)); exact HO236.out) hb)
                        have n5_ := Aside0.mk (Kd.V_below (by (with_reducible repeat (first | apply Kd.V_alloc | apply Kd.V_drewN | apply Kd.V_drew)); exact HO244.out) hb)
                        have n6_ := Aside0.mk (blk_below (g := gb217) (o := .cells #[.int .i64 t211, .slice Ao40 t212.length co40, .string t215, .bool t216] 45 (0, 0)) (by (with_reducible repeat (first | refine blk_drewN ?_ _ | refine blk_drew ?_ | refine blk_alloc ?_ _)); exact BK217.out) hb)
                        have n7_ := Aside0.mk (below_step (by repeat (first | (with_reducible first | exact HB.out | apply below_alloc | apply pw_below_drewN | apply below_drew1 | refine below_set ?_ GE217.out) | exact HB.out)) hb)
                        clear HO214
                        clear HO220
                        clear HO223
                        clear HO228
                        clear HO236
                        clear HO244
                        clear BK217
                        clear HB
                        have HO214 := n0_
                        have HO220 := n1_
                        have HO223 := n2_
                        have HO228 := n3_
                        have HO236 := n4_
                        have HO244 := n5_
                        have BK217 := n6_
                        have HB := n7_
                        clear n0_ n1_ n2_ n3_ n4_ n5_ n6_ n7_
                        (try clear hb)
                        (try clear hb2)
                        (try clear hk)
                        (try clear hi)
                        refine hK.out _ _ ⟨(blk_cell BK217.out 0).trans rfl, (blk_cell BK217.out 1).trans rfl, (blk_cell BK217.out 2).trans rfl, (blk_cell BK217.out 3).trans rfl⟩ (fun hHeld => ?_)
                        clear hK K
                        refine norm_ (a' := ?_) ?_ ?_
                        rotate_left
                        · show Act.put _ (some 60) _ = _
                          simp only [Act.put, List.setIfInBounds_toArray, List.set_cons_zero, List.set_cons_succ, i64_w, i32_w]
                          rfl
                        refine one_ (i := 32) (N := some 66) #[true, true, true, true, true, true, true, true, true, true, true, true, true, true, true, true, true, true, true, true, true, true, true, true, true, true, true, true, true, true, true, true, true, false, false, false, false, false, false, false, false, false, false, false, false, false, false, false, false, false, false, false, false, false, false, false, false, false, false] rfl rfl (one_of HT_.out (by kernel_rfl)) (by decide) (fun K hK => ?_)
                        refine goes_ Tryd.func27 (by kernel_rfl) rfl #[.agg #[.int .i64 t211, .slice Ao40 t212.length co40, .string t215, .bool t216], .string (rdOf ByteArray.empty y226 t229), .bool a5, .string (rdOf ByteArray.empty y221 t224), .slice Ao49 t218.length co49] (by rfl) rfl rfl (by (try simp only [List.map_toArray, List.map_cons, List.map_nil]); first | done | rfl | (simp only [List.length_drop, List.length_take]; rfl)) ?_
                        with_reducible refine (postilionref01_Pre.calls k t211 _ _ t212 t215 t216 (rdOf ByteArray.empty y226 t229) a5 (rdOf ByteArray.empty y221 t224) _ _ t218 t248 _ ?side1 ?side2 ?side3 ?side4 A24.out).mono ?_
                        (case side1 => repeat (first | exact (Kd.R_reads' HO214.out).2.2 | (with_reducible refine Kd.C_alloc ?_ _) | (with_reducible refine Kd.C_drewN ?_ _) | (with_reducible refine Kd.C_drew ?_)))
                        (case side2 => exact (Kd.R_reads' HO214.out).2.1)
                        (case side3 => repeat (first | exact (Kd.R_reads' HO220.out).2.2 | (with_reducible refine Kd.C_alloc ?_ _) | (with_reducible refine Kd.C_drewN ?_ _) | (with_reducible refine Kd.C_drew ?_)))
                        (case side4 => exact (Kd.R_reads' HO220.out).2.1)
                        rintro e w59 ⟨rfl, hb⟩
                        refine ⟨_, rfl, ?_⟩
                        have n0_ := Aside0.mk (Kd.R_below (by (with_reducible repeat (first | apply Kd.R_alloc | apply Kd.R_drewN | apply Kd.R_drew)); exact HO214.out) hb)
                        have n1_ := Aside0.mk (Kd.R_below (by (with_reducible repeat (first | apply Kd.R_alloc | apply Kd.R_drewN | apply Kd.R_drew)); exact HO220.out) hb)
                        have n2_ := Aside0.mk (Kd.R_below (by (with_reducible repeat (first | apply Kd.R_alloc | apply Kd.R_drewN | apply Kd.R_drew)); exact HO223.out) hb)
                        have n3_ := Aside0.mk (Kd.R_below (by (with_reducible repeat (first | apply Kd.R_alloc | apply Kd.R_drewN | apply Kd.R_drew)); exact HO228.out) hb)
                        have n4_ := Aside0.mk (Kd.V_below (by (with_reducible repeat (first | apply Kd.V_alloc | apply Kd.V_drewN | apply Kd.V_drew)); exact HO236.out) hb)
                        have n5_ := Aside0.mk (Kd.V_below (by (with_reducible repeat (first | apply Kd.V_alloc | apply Kd.V_drewN | apply Kd.V_drew)); exact HO244.out) hb)
                        have n6_ := Aside0.mk (blk_below (g := gb217) (o := .cells #[.int .i64 t211, .slice Ao40 t212.length co40, .string t215, .bool t216] 45 (0, 0)) (by (with_reducible repeat (first | refine blk_drewN ?_ _ | refine blk_drew ?_ | refine blk_alloc ?_ _)); exact BK217.out) hb)
                        have n7_ := Aside0.mk (below_step (by repeat (first | (with_reducible first | exact HB.out | apply below_alloc | apply pw_below_drewN | apply below_drew1 | refine below_set ?_ GE217.out) | exact HB.out)) hb)
                        clear HO214
                        clear HO220
                        clear HO223
                        clear HO228
                        clear HO236
                        clear HO244
                        clear BK217
                        clear HB
                        have HO214 := n0_
                        have HO220 := n1_
                        have HO223 := n2_
                        have HO228 := n3_
                        have HO236 := n4_
                        have HO244 := n5_
                        have BK217 := n6_
                        have HB := n7_
                        clear n0_ n1_ n2_ n3_ n4_ n5_ n6_ n7_
                        (try clear hb)
                        (try clear hb2)
                        (try clear hk)
                        (try clear hi)
                        refine hK.out _ _ ⟨(blk_cell BK217.out 0).trans rfl, (blk_cell BK217.out 1).trans rfl, (blk_cell BK217.out 2).trans rfl, (blk_cell BK217.out 3).trans rfl⟩ (fun hHeld => ?_)
                        clear hK K
                        refine norm_ (a' := ?_) ?_ ?_
                        rotate_left
                        · show Act.put _ (some 66) _ = _
                          simp only [Act.put, List.setIfInBounds_toArray, List.set_cons_zero, List.set_cons_succ, i64_w, i32_w]
                          rfl
                        refine pure_ (i := 33) (N := some 67) (v := ?_) (a' := ?_) #[true, true, true, true, true, true, true, true, true, true, true, true, true, true, true, true, true, true, true, true, true, true, true, true, true, true, true, true, true, true, true, true, true, true, false, false, false, false, false, false, false, false, false, false, false, false, false, false, false, false, false, false, false, false, false, false, false, false, false] rfl rfl (any_of HT_.out (by kernel_rfl)) (fun _ _ _ h => h) (Or.inl ⟨by rfl, ?_⟩) ?_ ?_
                        rotate_left
                        · intro w'
                          go_simp
                          with_reducible rfl
                        rotate_left
                        · simp only [Act.put, List.setIfInBounds_toArray, List.set_cons_zero, List.set_cons_succ, i64_w, i32_w]
                          rfl
                        refine pure_ (i := 34) (N := some 68) (v := ?_) (a' := ?_) #[true, true, true, true, true, true, true, true, true, true, true, true, true, true, true, true, true, true, true, true, true, true, true, true, true, true, true, true, true, true, true, true, true, true, true, false, false, false, false, false, false, false, false, false, false, false, false, false, false, false, false, false, false, false, false, false, false, false, false] rfl rfl (any_of HT_.out (by kernel_rfl)) (fun _ _ _ h => h) (Or.inl ⟨by rfl, ?_⟩) ?_ ?_
                        rotate_left
                        · intro w'
                          go_simp
                          with_reducible rfl
                        rotate_left
                        · simp only [Act.put, List.setIfInBounds_toArray, List.set_cons_zero, List.set_cons_succ, i64_w, i32_w]
                          rfl
                        refine pure_ (i := 35) (N := some 69) (v := ?_) (a' := ?_) #[true, true, true, true, true, true, true, true, true, true, true, true, true, true, true, true, true, true, true, true, true, true, true, true, true, true, true, true, true, true, true, true, true, true, true, true, false, false, false, false, false, false, false, false, false, false, false, false, false, false, false, false, false, false, false, false, false, false, false] rfl rfl (any_of HT_.out (by kernel_rfl)) (fun _ _ _ h => h) (Or.inl ⟨by rfl, ?_⟩) ?_ ?_
                        rotate_left
                        · intro w'
                          go_simp
                          with_reducible rfl
                        rotate_left
                        · simp only [Act.put, List.setIfInBounds_toArray, List.set_cons_zero, List.set_cons_succ, i64_w, i32_w]
                          rfl
                        refine pure_ (i := 36) (N := some 70) (v := ?_) (a' := ?_) #[true, true, true, true, true, true, true, true, true, true, true, true, true, true, true, true, true, true, true, true, true, true, true, true, true, true, true, true, true, true, true, true, true, true, true, true, true, false, false, false, false, false, false, false, false, false, false, false, false, false, false, false, false, false, false, false, false, false, false] rfl rfl (any_of HT_.out (by kernel_rfl)) (fun _ _ _ h => h) (Or.inl ⟨by rfl, ?_⟩) ?_ ?_
                        rotate_left
                        · intro w'
                          go_simp
                          with_reducible rfl
                        rotate_left
                        · simp only [Act.put, List.setIfInBounds_toArray, List.set_cons_zero, List.set_cons_succ, i64_w, i32_w]
                          rfl
                        refine pure_ (i := 38) (N := some 72) (v := ?_) (a' := ?_) #[true, true, true, true, true, true, true, true, true, true, true, true, true, true, true, true, true, true, true, true, true, true, true, true, true, true, true, true, true, true, true, true, true, true, true, true, true, false, true, false, false, false, false, false, false, false, false, false, false, false, false, false, false, false, false, false, false, false, false] rfl rfl (any_of HT_.out (by kernel_rfl)) (fun _ _ _ h => h) (Or.inl ⟨by rfl, ?_⟩) ?_ ?_
                        rotate_left
                        · intro w'
                          go_simp
                          with_reducible rfl
                        rotate_left
                        · simp only [Act.put, List.setIfInBounds_toArray, List.set_cons_zero, List.set_cons_succ, i64_w, i32_w]
                          rfl
                        refine one_ (i := 37) (N := some 71) #[true, true, true, true, true, true, true, true, true, true, true, true, true, true, true, true, true, true, true, true, true, true, true, true, true, true, true, true, true, true, true, true, true, true, true, true, true, true, true, false, false, false, false, false, false, false, false, false, false, false, false, false, false, false, false, false, false, false, false] rfl rfl (one_of HT_.out (by kernel_rfl)) (by decide) (fun K hK => ?_)
                        refine goes_ Tryd.func17 (by kernel_rfl) rfl #[.string a4] (by rfl) rfl rfl (by (try simp only [List.map_toArray, List.map_cons, List.map_nil]); first | done | rfl | (simp only [List.length_drop, List.length_take]; rfl)) ?_
                        with_reducible refine (cors_List.calls k a4 t249 _ ?side1 A26.out).mono ?_
                        (case side1 => exact Gl.below hG (by repeat (first | (with_reducible first | exact HB.out | apply below_alloc | apply pw_below_drewN | apply below_drew1 | refine below_set ?_ GE217.out) | exact HB.out)))
                        rintro e w60 ⟨v250, rfl, ho0, hb⟩
                        refine ⟨_, rfl, ?_⟩
                        have n0_ := Aside0.mk (Kd.R_below (by (with_reducible repeat (first | apply Kd.R_alloc | apply Kd.R_drewN | apply Kd.R_drew)); exact HO214.out) hb)
                        have n1_ := Aside0.mk (Kd.R_below (by (with_reducible repeat (first | apply Kd.R_alloc | apply Kd.R_drewN | apply Kd.R_drew)); exact HO220.out) hb)
                        have n2_ := Aside0.mk (Kd.R_elder' (by (with_reducible repeat (first | apply Kd.R_alloc | apply Kd.R_drewN | apply Kd.R_drew)); exact HO223.out) (Kd.R_base ho0) hb)
                        have n3_ := Aside0.mk (Kd.R_elder' (by (with_reducible repeat (first | apply Kd.R_alloc | apply Kd.R_drewN | apply Kd.R_drew)); exact HO228.out) (Kd.R_base ho0) hb)
                        have n4_ := Aside0.mk (Kd.V_elder' (by (with_reducible repeat (first | apply Kd.V_alloc | apply Kd.V_drewN | apply Kd.V_drew)); exact HO236.out) (Kd.R_base ho0) hb)
                        have n5_ := Aside0.mk (Kd.V_elder' (by (with_reducible repeat (first | apply Kd.V_alloc | apply Kd.V_drewN | apply Kd.V_drew)); exact HO244.out) (Kd.R_base ho0) hb)
                        have n6_ := Aside0.mk (Kd.R_lower (Kd.R_new' (Kd.R_new' ho0 (Kd.R_lt (by (with_reducible repeat (first | apply Kd.R_alloc | apply Kd.R_drewN | apply Kd.R_drew)); exact HO223.out))) (Kd.R_lt (by (with_reducible repeat (first | apply Kd.R_alloc | apply Kd.R_drewN | apply Kd.R_drew)); exact HO228.out))) (below_size (by repeat (first | (with_reducible first | exact HB.out | apply below_alloc | apply pw_below_drewN | apply below_drew1 | refine below_set ?_ GE217.out) | exact HB.out))))
                        have n7_ := Aside0.mk (blk_below (g := gb217) (o := .cells #[.int .i64 t211, .slice Ao40 t212.length co40, .string t215, .bool t216] 45 (0, 0)) (by (with_reducible repeat (first | refine blk_drewN ?_ _ | refine blk_drew ?_ | refine blk_alloc ?_ _)); exact BK217.out) hb)
                        have n8_ := Aside0.mk (below_step (by repeat (first | (with_reducible first | exact HB.out | apply below_alloc | apply pw_below_drewN | apply below_drew1 | refine below_set ?_ GE217.out) | exact HB.out)) hb)
                        clear HO214
                        clear HO220
                        clear HO223
                        clear HO228
                        clear HO236
                        clear HO244
                        clear BK217
                        clear HB
                        have HO214 := n0_
                        have HO220 := n1_
                        have HO223 := n2_
                        have HO228 := n3_
                        have HO236 := n4_
                        have HO244 := n5_
                        have HO251 := n6_
                        have BK217 := n7_
                        have HB := n8_
                        clear n0_ n1_ n2_ n3_ n4_ n5_ n6_ n7_ n8_
                        (try clear hb)
                        (try clear hb2)
                        (try clear hk)
                        (try clear hi)
                        (try clear ho0)
                        refine hK.out _ _ ⟨(blk_cell BK217.out 0).trans rfl, (blk_cell BK217.out 1).trans rfl, (blk_cell BK217.out 2).trans rfl, (blk_cell BK217.out 3).trans rfl⟩ (fun hHeld => ?_)
                        clear hK K
                        refine norm_ (a' := ?_) ?_ ?_
                        rotate_left
                        · show Act.put _ (some 71) _ = _
                          simp only [Act.put, List.setIfInBounds_toArray, List.set_cons_zero, List.set_cons_succ, i64_w, i32_w]
                          rfl
                        refine one_ (i := 39) (N := some 73) #[true, true, true, true, true, true, true, true, true, true, true, true, true, true, true, true, true, true, true, true, true, true, true, true, true, true, true, true, true, true, true, true, true, true, true, true, true, true, true, true, false, false, false, false, false, false, false, false, false, false, false, false, false, false, false, false, false, false, false] rfl rfl (one_of HT_.out (by kernel_rfl)) (by decide) (fun K hK => ?_)
                        refine goes_ Tryd.func28 (by kernel_rfl) rfl #[.string a4] (by rfl) rfl rfl (by (try simp only [List.map_toArray, List.map_cons, List.map_nil]); first | done | rfl | (simp only [List.length_drop, List.length_take]; rfl)) ?_
                        with_reducible refine (postilionref01_List.calls k a4 t252 _ A27.out).mono ?_
                        rintro e w61 ⟨v253, rfl, ho0, hb⟩
                        refine ⟨_, rfl, ?_⟩
                        have n0_ := Aside0.mk (Kd.R_below (by (with_reducible repeat (first | apply Kd.R_alloc | apply Kd.R_drewN | apply Kd.R_drew)); exact HO214.out) hb)
                        have n1_ := Aside0.mk (Kd.R_below (by (with_reducible repeat (first | apply Kd.R_alloc | apply Kd.R_drewN | apply Kd.R_drew)); exact HO220.out) hb)
                        have n2_ := Aside0.mk (Kd.R_elder' (by (with_reducible repeat (first | apply Kd.R_alloc | apply Kd.R_drewN | apply Kd.R_drew)); exact HO223.out) (Kd.R_base ho0) hb)
                        have n3_ := Aside0.mk (Kd.R_elder' (by (with_reducible repeat (first | apply Kd.R_alloc | apply Kd.R_drewN | apply Kd.R_drew)); exact HO228.out) (Kd.R_base ho0) hb)
                        have n4_ := Aside0.mk (Kd.V_elder' (by (with_reducible repeat (first | apply Kd.V_alloc | apply Kd.V_drewN | apply Kd.V_drew)); exact HO236.out) (Kd.R_base ho0) hb)
                        have n5_ := Aside0.mk (Kd.V_elder' (by (with_reducible repeat (first | apply Kd.V_alloc | apply Kd.V_drewN | apply Kd.V_drew)); exact HO244.out) (Kd.R_base ho0) hb)
                        have n6_ := Aside0.mk (Kd.R_elder' (by (with_reducible repeat (first | apply Kd.R_alloc | apply Kd.R_drewN | apply Kd.R_drew)); exact HO251.out) (Kd.R_base ho0) hb)
                        have n7_ := Aside0.mk (Kd.R_lower (Kd.R_new' (Kd.R_new' (Kd.R_new' ho0 (Kd.R_lt (by (with_reducible repeat (first | apply Kd.R_alloc | apply Kd.R_drewN | apply Kd.R_drew)); exact HO223.out))) (Kd.R_lt (by (with_reducible repeat (first | apply Kd.R_alloc | apply Kd.R_drewN | apply Kd.R_drew)); exact HO228.out))) (Kd.R_lt (by (with_reducible repeat (first | apply Kd.R_alloc | apply Kd.R_drewN | apply Kd.R_drew)); exact HO251.out))) (below_size (by repeat (first | (with_reducible first | exact HB.out | apply below_alloc | apply pw_below_drewN | apply below_drew1 | refine below_set ?_ GE217.out) | exact HB.out))))
                        have n8_ := Aside0.mk (blk_below (g := gb217) (o := .cells #[.int .i64 t211, .slice Ao40 t212.length co40, .string t215, .bool t216] 45 (0, 0)) (by (with_reducible repeat (first | refine blk_drewN ?_ _ | refine blk_drew ?_ | refine blk_alloc ?_ _)); exact BK217.out) hb)
                        have n9_ := Aside0.mk (below_step (by repeat (first | (with_reducible first | exact HB.out | apply below_alloc | apply pw_below_drewN | apply below_drew1 | refine below_set ?_ GE217.out) | exact HB.out)) hb)
                        clear HO214
                        clear HO220
                        clear HO223
                        clear HO228
                        clear HO236
                        clear HO244
                        clear HO251
                        clear BK217
                        clear HB
                        have HO214 := n0_
                        have HO220 := n1_
                        have HO223 := n2_
                        have HO228 := n3_
                        have HO236 := n4_
                        have HO244 := n5_
                        have HO251 := n6_
                        have HO254 := n7_
                        have BK217 := n8_
                        have HB := n9_
                        clear n0_ n1_ n2_ n3_ n4_ n5_ n6_ n7_ n8_ n9_
                        (try clear hb)
                        (try clear hb2)
                        (try clear hk)
                        (try clear hi)
                        (try clear ho0)
                        obtain ⟨Ao62, co62, eo62⟩ := Kd.R_slice HO251.out
                        (first | subst eo62 | (injection eo62 with f1_ f2_ f3_; have f4_ := f1_.symm; have f5_ := f3_.symm; clear f1_ f2_ f3_; subst f4_; subst f5_))
                        obtain ⟨Ao63, co63, eo63⟩ := Kd.R_slice HO254.out
                        (first | subst eo63 | (injection eo63 with f1_ f2_ f3_; have f4_ := f1_.symm; have f5_ := f3_.symm; clear f1_ f2_ f3_; subst f4_; subst f5_))
                        refine hK.out _ _ ⟨(blk_cell BK217.out 0).trans rfl, (blk_cell BK217.out 1).trans rfl, (blk_cell BK217.out 2).trans rfl, (blk_cell BK217.out 3).trans rfl⟩ (fun hHeld => ?_)
                        clear hK K
                        refine norm_ (a' := ?_) ?_ ?_
                        rotate_left
                        · show Act.put _ (some 73) _ = _
                          simp only [Act.put, List.setIfInBounds_toArray, List.set_cons_zero, List.set_cons_succ, i64_w, i32_w]
                          rfl
                        refine one_ (i := 40) (N := some 74) #[true, true, true, true, true, true, true, true, true, true, true, true, true, true, true, true, true, true, true, true, true, true, true, true, true, true, true, true, true, true, true, true, true, true, true, true, true, true, true, true, true, false, false, false, false, false, false, false, false, false, false, false, false, false, false, false, false, false, false] rfl rfl (one_of HT_.out (by kernel_rfl)) (by decide) (fun K hK => ?_)
                        refine goes_ Tryd.func16 (by kernel_rfl) rfl #[.slice Ao62 t249.length co62, .slice Ao63 t252.length co63] (by rfl) rfl rfl (by (try simp only [List.map_toArray, List.map_cons, List.map_nil]); first | done | rfl | (simp only [List.length_drop, List.length_take]; rfl)) ?_
                        with_reducible refine (postilionkeep_Same_string.calls k _ _ t249 _ _ t252 true _ ?side1 ?side2 ?side3 ?side4 A28.out).mono ?_
                        (case side1 => repeat (first | exact (Kd.R_reads' HO251.out).2.2 | (with_reducible refine Kd.C_alloc ?_ _) | (with_reducible refine Kd.C_drewN ?_ _) | (with_reducible refine Kd.C_drew ?_)))
                        (case side2 => exact (Kd.R_reads' HO251.out).2.1)
                        (case side3 => repeat (first | exact (Kd.R_reads' HO254.out).2.2 | (with_reducible refine Kd.C_alloc ?_ _) | (with_reducible refine Kd.C_drewN ?_ _) | (with_reducible refine Kd.C_drew ?_)))
                        (case side4 => exact (Kd.R_reads' HO254.out).2.1)
                        rintro e w' ⟨rfl, ⟨nd, rfl⟩⟩
                        refine ⟨_, rfl, ?_⟩
                        refine hK.out _ _ ⟨(blk_cell BK217.out 0).trans rfl, (blk_cell BK217.out 1).trans rfl, (blk_cell BK217.out 2).trans rfl, (blk_cell BK217.out 3).trans rfl⟩ (fun hHeld => ?_)
                        clear hK K
                        refine norm_ (a' := ?_) ?_ ?_
                        rotate_left
                        · show Act.put _ (some 74) _ = _
                          simp only [Act.put, List.setIfInBounds_toArray, List.set_cons_zero, List.set_cons_succ, i64_w, i32_w]
                          rfl
                        refine pure_ (i := 41) (N := some 75) (v := ?_) (a' := ?_) #[true, true, true, true, true, true, true, true, true, true, true, true, true, true, true, true, true, true, true, true, true, true, true, true, true, true, true, true, true, true, true, true, true, true, true, true, true, true, true, true, true, true, false, false, false, false, false, false, false, false, false, false, false, false, false, false, false, false, false] rfl rfl (any_of HT_.out (by kernel_rfl)) (fun _ _ _ h => h) (Or.inl ⟨by rfl, ?_⟩) ?_ ?_
                        rotate_left
                        · intro w'
                          go_simp
                          with_reducible rfl
                        rotate_left
                        · simp only [Act.put, List.setIfInBounds_toArray, List.set_cons_zero, List.set_cons_succ, i64_w, i32_w]
                          rfl
                        refine pure_ (i := 42) (N := some 76) (v := ?_) (a' := ?_) #[true, true, true, true, true, true, true, true, true, true, true, true, true, true, true, true, true, true, true, true, true, true, true, true, true, true, true, true, true, true, true, true, true, true, true, true, true, true, true, true, true, true, true, false, false, false, false, false, false, false, false, false, false, false, false, false, false, false, false] rfl rfl (any_of HT_.out (by kernel_rfl)) (fun _ _ _ h => h) (Or.inl ⟨by rfl, ?_⟩) ?_ ?_
                        rotate_left
                        · intro w'
                          go_simp
                          with_reducible rfl
                        rotate_left
                        · simp only [Act.put, List.setIfInBounds_toArray, List.set_cons_zero, List.set_cons_succ, i64_w, i32_w]
                          rfl
                        refine pure_ (i := 43) (N := some 77) (v := ?_) (a' := ?_) #[true, true, true, true, true, true, true, true, true, true, true, true, true, true, true, true, true, true, true, true, true, true, true, true, true, true, true, true, true, true, true, true, true, true, true, true, true, true, true, true, true, true, true, true, false, false, false, false, false, false, false, false, false, false, false, false, false, false, false] rfl rfl (any_of HT_.out (by kernel_rfl)) (fun _ _ _ h => h) (Or.inl ⟨by rfl, ?_⟩) ?_ ?_
                        rotate_left
                        · intro w'
                          go_simp
                          with_reducible rfl
                        rotate_left
                        · simp only [Act.put, List.setIfInBounds_toArray, List.set_cons_zero, List.set_cons_succ, i64_w, i32_w]
                          rfl
                        refine pure_ (i := 44) (N := some 78) (v := ?_) (a' := ?_) #[true, true, true, true, true, true, true, true, true, true, true, true, true, true, true, true, true, true, true, true, true, true, true, true, true, true, true, true, true, true, true, true, true, true, true, true, true, true, true, true, true, true, true, true, true, false, false, false, false, false, false, false, false, false, false, false, false, false, false] rfl rfl (any_of HT_.out (by kernel_rfl)) (fun _ _ _ h => h) (Or.inl ⟨by rfl, ?_⟩) ?_ ?_
                        rotate_left
                        · intro w'
                          go_simp
                          with_reducible rfl
                        rotate_left
                        · simp only [Act.put, List.setIfInBounds_toArray, List.set_cons_zero, List.set_cons_succ, i64_w, i32_w]
                          rfl
                        refine pure_ (i := 45) (N := some 79) (v := ?_) (a' := ?_) #[true, true, true, true, true, true, true, true, true, true, true, true, true, true, true, true, true, true, true, true, true, true, true, true, true, true, true, true, true, true, true, true, true, true, true, true, true, true, true, true, true, true, true, true, true, true, false, false, false, false, false, false, false, false, false, false, false, false, false] rfl rfl (any_of HT_.out (by kernel_rfl)) (fun _ _ _ h => h) (Or.inl ⟨by rfl, ?_⟩) ?_ ?_
                        rotate_left
                        · intro w'
                          go_simp
                          with_reducible rfl
                        rotate_left
                        · simp only [Act.put, List.setIfInBounds_toArray, List.set_cons_zero, List.set_cons_succ, i64_w, i32_w]
                          rfl
                        refine pure_ (i := 46) (N := some 80) (v := ?_) (a' := ?_) #[true, true, true, true, true, true, true, true, true, true, true, true, true, true, true, true, true, true, true, true, true, true, true, true, true, true, true, true, true, true, true, true, true, true, true, true, true, true, true, true, true, true, true, true, true, true, true, false, false, false, false, false, false, false, false, false, false, false, false] rfl rfl (any_of HT_.out (by kernel_rfl)) (fun _ _ _ h => h) (Or.inl ⟨by rfl, ?_⟩) ?_ ?_
                        rotate_left
                        · intro w'
                          go_simp
                          with_reducible rfl
                        rotate_left
                        · simp only [Act.put, List.setIfInBounds_toArray, List.set_cons_zero, List.set_cons_succ, i64_w, i32_w]
                          rfl
                        refine pure_ (i := 48) (N := some 82) (v := ?_) (a' := ?_) #[true, true, true, true, true, true, true, true, true, true, true, true, true, true, true, true, true, true, true, true, true, true, true, true, true, true, true, true, true, true, true, true, true, true, true, true, true, true, true, true, true, true, true, true, true, true, true, false, true, false, false, false, false, false, false, false, false, false, false] rfl rfl (any_of HT_.out (by kernel_rfl)) (fun _ _ _ h => h) (Or.inl ⟨by rfl, ?_⟩) ?_ ?_
                        rotate_left
                        · intro w'
                          go_simp
                          with_reducible rfl
                        rotate_left
                        · simp only [Act.put, List.setIfInBounds_toArray, List.set_cons_zero, List.set_cons_succ, i64_w, i32_w]
                          rfl
                        refine pure_ (i := 49) (N := some 83) (v := ?_) (a' := ?_) #[true, true, true, true, true, true, true, true, true, true, true, true, true, true, true, true, true, true, true, true, true, true, true, true, true, true, true, true, true, true, true, true, true, true, true, true, true, true, true, true, true, true, true, true, true, true, true, false, true, true, false, false, false, false, false, false, false, false, false] rfl rfl (any_of HT_.out (by kernel_rfl)) (fun _ _ _ h => h) (Or.inl ⟨by rfl, ?_⟩) ?_ ?_
                        rotate_left
                        · intro w'
                          go_simp
                          with_reducible rfl
                        rotate_left
                        · simp only [Act.put, List.setIfInBounds_toArray, List.set_cons_zero, List.set_cons_succ, i64_w, i32_w]
                          rfl
                        refine pure_ (i := 50) (N := some 84) (v := ?_) (a' := ?_) #[true, true, true, true, true, true, true, true, true, true, true, true, true, true, true, true, true, true, true, true, true, true, true, true, true, true, true, true, true, true, true, true, true, true, true, true, true, true, true, true, true, true, true, true, true, true, true, false, true, true, true, false, false, false, false, false, false, false, false] rfl rfl (any_of HT_.out (by kernel_rfl)) (fun _ _ _ h => h) (Or.inl ⟨by rfl, ?_⟩) ?_ ?_
                        rotate_left
                        · intro w'
                          go_simp
                          with_reducible rfl
                        rotate_left
                        · simp only [Act.put, List.setIfInBounds_toArray, List.set_cons_zero, List.set_cons_succ, i64_w, i32_w]
                          rfl
                        refine pure_ (i := 51) (N := some 85) (v := ?_) (a' := ?_) #[true, true, true, true, true, true, true, true, true, true, true, true, true, true, true, true, true, true, true, true, true, true, true, true, true, true, true, true, true, true, true, true, true, true, true, true, true, true, true, true, true, true, true, true, true, true, true, false, true, true, true, true, false, false, false, false, false, false, false] rfl rfl (any_of HT_.out (by kernel_rfl)) (fun _ _ _ h => h) (Or.inl ⟨by rfl, ?_⟩) ?_ ?_
                        rotate_left
                        · intro w'
                          go_simp
                          with_reducible rfl
                        rotate_left
                        · simp only [Act.put, List.setIfInBounds_toArray, List.set_cons_zero, List.set_cons_succ, i64_w, i32_w]
                          rfl
                        refine one_ (i := 47) (N := some 81) #[true, true, true, true, true, true, true, true, true, true, true, true, true, true, true, true, true, true, true, true, true, true, true, true, true, true, true, true, true, true, true, true, true, true, true, true, true, true, true, true, true, true, true, true, true, true, true, true, true, true, true, true, false, false, false, false, false, false, false] rfl rfl (one_of HT_.out (by kernel_rfl)) (by decide) (fun K hK => ?_)
                        refine goes_ Tryd.func17 (by kernel_rfl) rfl #[.string ((a4 ++ (⟨#[44, 32, 65, 44, 44, 98, 32, 44]⟩ : ByteArray)) ++ a4)] (by rfl) rfl rfl (by (try simp only [List.map_toArray, List.map_cons, List.map_nil]); first | done | rfl | (simp only [List.length_drop, List.length_take]; rfl)) ?_
                        with_reducible refine (cors_List.calls k ((a4 ++ (⟨#[44, 32, 65, 44, 44, 98, 32, 44]⟩ : ByteArray)) ++ a4) t256 _ ?side1 A32.out).mono ?_
                        (case side1 => exact Gl.below hG (by repeat (first | (with_reducible first | exact HB.out | apply below_alloc | apply pw_below_drewN | apply below_drew1 | refine below_set ?_ GE217.out) | exact HB.out)))
                        rintro e w64 ⟨v257, rfl, ho0, hb⟩
                        refine ⟨_, rfl, ?_⟩
                        have n0_ := Aside0.mk (Kd.R_below (by (with_reducible repeat (first | apply Kd.R_alloc | apply Kd.R_drewN | apply Kd.R_drew)); exact HO214.out) hb)
                        have n1_ := Aside0.mk (Kd.R_below (by (with_reducible repeat (first | apply Kd.R_alloc | apply Kd.R_drewN | apply Kd.R_drew)); exact HO220.out) hb)
                        have n2_ := Aside0.mk (Kd.R_elder' (by (with_reducible repeat (first | apply Kd.R_alloc | apply Kd.R_drewN | apply Kd.R_drew)); exact HO223.out) (Kd.R_base ho0) hb)
                        have n3_ := Aside0.mk (Kd.R_elder' (by (with_reducible repeat (first | apply Kd.R_alloc | apply Kd.R_drewN | apply Kd.R_drew)); exact HO228.out) (Kd.R_base ho0) hb)
                        have n4_ := Aside0.mk (Kd.V_elder' (by (with_reducible repeat (first | apply Kd.V_alloc | apply Kd.V_drewN | apply Kd.V_drew)); exact HO236.out) (Kd.R_base ho0) hb)
                        have n5_ := Aside0.mk (Kd.V_elder' (by (with_reducible repeat (first | apply Kd.V_alloc | apply Kd.V_drewN | apply Kd.V_drew)); exact HO244.out) (Kd.R_base ho0) hb)
                        have n6_ := Aside0.mk (Kd.R_elder' (by (with_reducible repeat (first | apply Kd.R_alloc | apply Kd.R_drewN | apply Kd.R_drew)); exact HO251.out) (Kd.R_base ho0) hb)
                        have n7_ := Aside0.mk (Kd.R_elder' (by (with_reducible repeat (first | apply Kd.R_alloc | apply Kd.R_drewN | apply Kd.R_drew)); exact HO254.out) (Kd.R_base ho0) hb)
                        have n8_ := Aside0.mk (Kd.R_lower (Kd.R_new' (Kd.R_new' (Kd.R_new' (Kd.R_new' ho0 (Kd.R_lt (by (with_reducible repeat (first | apply Kd.R_alloc | apply Kd.R_drewN | apply Kd.R_drew)); exact HO223.out))) (Kd.R_lt (by (with_reducible repeat (first | apply Kd.R_alloc | apply Kd.R_drewN | apply Kd.R_drew)); exact HO228.out))) (Kd.R_lt (by (with_reducible repeat (first | apply Kd.R_alloc | apply Kd.R_drewN | apply Kd.R_drew)); exact HO251.out))) (Kd.R_lt (by (with_reducible repeat (first | apply Kd.R_alloc | apply Kd.R_drewN | apply Kd.R_drew)); exact HO254.out))) (below_size (by repeat (first | (with_reducible first | exact HB.out | apply below_alloc | apply pw_below_drewN | apply below_drew1 | refine below_set ?_ GE217.out) | exact HB.out))))
                        have n9_ := Aside0.mk (blk_below (g := gb217) (o := .cells #[.int .i64 t211, .slice Ao40 t212.length co40, .string t215, .bool t216] 45 (0, 0)) (by (with_reducible repeat (first | refine blk_drewN ?_ _ | refine blk_drew ?_ | refine blk_alloc ?_ _)); exact BK217.out) hb)
                        have n10_ := Aside0.mk (below_step (by repeat (first | (with_reducible first | exact HB.out | apply below_alloc | apply pw_below_drewN | apply below_drew1 | refine below_set ?_ GE217.out) | exact HB.out)) hb)
                        clear HO214
                        clear HO220
                        clear HO223
                        clear HO228
                        clear HO236
                        clear HO244
                        clear HO251
                        clear HO254
                        clear BK217
                        clear HB
                        have HO214 := n0_
                        have HO220 := n1_
                        have HO223 := n2_
                        have HO228 := n3_
                        have HO236 := n4_
                        have HO244 := n5_
                        have HO251 := n6_
                        have HO254 := n7_
                        have HO258 := n8_
                        have BK217 := n9_
                        have HB := n10_
                        clear n0_ n1_ n2_ n3_ n4_ n5_ n6_ n7_ n8_ n9_ n10_
                        (try clear hb)
                        (try clear hb2)
                        (try clear hk)
                        (try clear hi)
                        (try clear ho0)
                        refine hK.out _ _ ⟨(blk_cell BK217.out 0).trans rfl, (blk_cell BK217.out 1).trans rfl, (blk_cell BK217.out 2).trans rfl, (blk_cell BK217.out 3).trans rfl⟩ (fun hHeld => ?_)
                        clear hK K
                        refine norm_ (a' := ?_) ?_ ?_
                        rotate_left
                        · show Act.put _ (some 81) _ = _
                          simp only [Act.put, List.setIfInBounds_toArray, List.set_cons_zero, List.set_cons_succ, i64_w, i32_w]
                          rfl
                        refine one_ (i := 52) (N := some 86) #[true, true, true, true, true, true, true, true, true, true, true, true, true, true, true, true, true, true, true, true, true, true, true, true, true, true, true, true, true, true, true, true, true, true, true, true, true, true, true, true, true, true, true, true, true, true, true, true, true, true, true, true, true, false, false, false, false, false, false] rfl rfl (one_of HT_.out (by kernel_rfl)) (by decide) (fun K hK => ?_)
                        refine goes_ Tryd.func28 (by kernel_rfl) rfl #[.string ((a4 ++ (⟨#[44, 32, 65, 44, 44, 98, 32, 44]⟩ : ByteArray)) ++ a4)] (by rfl) rfl rfl (by (try simp only [List.map_toArray, List.map_cons, List.map_nil]); first | done | rfl | (simp only [List.length_drop, List.length_take]; rfl)) ?_
                        with_reducible refine (postilionref01_List.calls k ((a4 ++ (⟨#[44, 32, 65, 44, 44, 98, 32, 44]⟩ : ByteArray)) ++ a4) t259 _ A33.out).mono ?_
                        rintro e w65 ⟨v260, rfl, ho0, hb⟩
                        refine ⟨_, rfl, ?_⟩
                        have n0_ := Aside0.mk (Kd.R_below (by (with_reducible repeat (first | apply Kd.R_alloc | apply Kd.R_drewN | apply Kd.R_drew)); exact HO214.out) hb)
                        have n1_ := Aside0.mk (Kd.R_below (by (with_reducible repeat (first | apply Kd.R_alloc | apply Kd.R_drewN | apply Kd.R_drew)); exact HO220.out) hb)
                        have n2_ := Aside0.mk (Kd.R_elder' (by (with_reducible repeat (first | apply Kd.R_alloc | apply Kd.R_drewN | apply Kd.R_drew)); exact HO223.out) (Kd.R_base ho0) hb)
                        have n3_ := Aside0.mk (Kd.R_elder' (by (with_reducible repeat (first | apply Kd.R_alloc | apply Kd.R_drewN | apply Kd.R_drew)); exact HO228.out) (Kd.R_base ho0) hb)
                        have n4_ := Aside0.mk (Kd.V_elder' (by (with_reducible repeat (first | apply Kd.V_alloc | apply Kd.V_drewN | apply Kd.V_drew)); exact HO236.out) (Kd.R_base ho0) hb)
                        have n5_ := Aside0.mk (Kd.V_elder' (by (with_reducible repeat (first | apply Kd.V_alloc | apply Kd.V_drewN | apply Kd.V_drew)); exact HO244.out) (Kd.R_base ho0) hb)
                        have n6_ := Aside0.mk (Kd.R_elder' (by (with_reducible repeat (first | apply Kd.R_alloc | apply Kd.R_drewN | apply Kd.R_drew)); exact HO251.out) (Kd.R_base ho0) hb)
                        have n7_ := Aside0.mk (Kd.R_elder' (by (with_reducible repeat (first | apply Kd.R_alloc | apply Kd.R_drewN | apply Kd.R_drew)); exact HO254.out) (Kd.R_base ho0) hb)
                        have n8_ := Aside0.mk (Kd.R_elder' (by (with_reducible repeat (first | apply Kd.R_alloc | apply Kd.R_drewN | apply Kd.R_drew)); exact HO258.out) (Kd.R_base ho0) hb)
                        have n9_ := Aside0.mk (Kd.R_lower (Kd.R_new' (Kd.R_new' (Kd.R_new' (Kd.R_new' (Kd.R_new' ho0 (Kd.R_lt (by (with_reducible repeat (first | apply Kd.R_alloc | apply Kd.R_drewN | apply Kd.R_drew)); exact HO223.out))) (Kd.R_lt (by (with_reducible repeat (first | apply Kd.R_alloc | apply Kd.R_drewN | apply Kd.R_drew)); exact HO228.out))) (Kd.R_lt (by (with_reducible repeat (first | apply Kd.R_alloc | apply Kd.R_drewN | apply Kd.R_drew)); exact HO251.out))) (Kd.R_lt (by (with_reducible repeat (first | apply Kd.R_alloc | apply Kd.R_drewN | apply Kd.R_drew)); exact HO254.out))) (Kd.R_lt (by (with_reducible repeat (first | apply Kd.R_alloc | apply Kd.R_drewN | apply Kd.R_drew)); exact HO258.out))) (below_size (by repeat (first | (with_reducible first | exact HB.out | apply below_alloc | apply pw_below_drewN | apply below_drew1 | refine below_set ?_ GE217.out) | exact HB.out))))
                        have n10_ := Aside0.mk (blk_below (g := gb217) (o := .cells #[.int .i64 t211, .slice Ao40 t212.length co40, .string t215, .bool t216] 45 (0, 0)) (by (with_reducible repeat (first | refine blk_drewN ?_ _ | refine blk_drew ?_ | refine blk_alloc ?_ _)); exact BK217.out) hb)
                        have n11_ := Aside0.mk (below_step (by repeat (first | (with_reducible first | exact HB.out | apply below_alloc | apply pw_below_drewN | apply below_drew1 | refine below_set ?_ GE217.out) | exact HB.out)) hb)
                        clear HO214
                        clear HO220
                        clear HO223
                        clear HO228
                        clear HO236
                        clear HO244
                        clear HO251
                        clear HO254
                        clear HO258
                        clear BK217
                        clear HB
                        have HO214 := n0_
                        have HO220 := n1_
                        have HO223 := n2_
                        have HO228 := n3_
                        have HO236 := n4_
                        have HO244 := n5_
                        have HO251 := n6_
                        have HO254 := n7_
                        have HO258 := n8_
                        have HO261 := n9_
                        have BK217 := n10_
                        have HB := n11_
                        clear n0_ n1_ n2_ n3_ n4_ n5_ n6_ n7_ n8_ n9_ n10_ n11_
                        (try clear hb)
                        (try clear hb2)
                        (try clear hk)
                        (try clear hi)
                        (try clear ho0)
                        obtain ⟨Ao66, co66, eo66⟩ := Kd.R_slice HO258.out
                        (first | subst eo66 | (injection eo66 with f1_ f2_ f3_; have f4_ := f1_.symm; have f5_ := f3_.symm; clear f1_ f2_ f3_; subst f4_; subst f5_))
                        obtain ⟨Ao67, co67, eo67⟩ := Kd.R_slice HO261.out
                        (first | subst eo67 | (injection eo67 with f1_ f2_ f3_; have f4_ := f1_.symm; have f5_ := f3_.symm; clear f1_ f2_ f3_; subst f4_; subst f5_))
                        refine hK.out _ _ ⟨(blk_cell BK217.out 0).trans rfl, (blk_cell BK217.out 1).trans rfl, (blk_cell BK217.out 2).trans rfl, (blk_cell BK217.out 3).trans rfl⟩ (fun hHeld => ?_)
                        clear hK K
                        refine norm_ (a' := ?_) ?_ ?_
                        rotate_left
                        · show Act.put _ (some 86) _ = _
                          simp only [Act.put, List.setIfInBounds_toArray, List.set_cons_zero, List.set_cons_succ, i64_w, i32_w]
                          rfl
                        refine one_ (i := 53) (N := some 87) #[true, true, true, true, true, true, true, true, true, true, true, true, true, true, true, true, true, true, true, true, true, true, true, true, true, true, true, true, true, true, true, true, true, true, true, true, true, true, true, true, true, true, true, true, true, true, true, true, true, true, true, true, true, true, false, false, false, false, false] rfl rfl (one_of HT_.out (by kernel_rfl)) (by decide) (fun K hK => ?_)
                        refine goes_ Tryd.func16 (by kernel_rfl) rfl #[.slice Ao66 t256.length co66, .slice Ao67 t259.length co67] (by rfl) rfl rfl (by (try simp only [List.map_toArray, List.map_cons, List.map_nil]); first | done | rfl | (simp only [List.length_drop, List.length_take]; rfl)) ?_
                        with_reducible refine (postilionkeep_Same_string.calls k _ _ t256 _ _ t259 true _ ?side1 ?side2 ?side3 ?side4 A34.out).mono ?_
                        (case side1 => repeat (first | exact (Kd.R_reads' HO258.out).2.2 | (with_reducible refine Kd.C_alloc ?_ _) | (with_reducible refine Kd.C_drewN ?_ _) | (with_reducible refine Kd.C_drew ?_)))
                        (case side2 => exact (Kd.R_reads' HO258.out).2.1)
                        (case side3 => repeat (first | exact (Kd.R_reads' HO261.out).2.2 | (with_reducible refine Kd.C_alloc ?_ _) | (with_reducible refine Kd.C_drewN ?_ _) | (with_reducible refine Kd.C_drew ?_)))
                        (case side4 => exact (Kd.R_reads' HO261.out).2.1)
                        rintro e w' ⟨rfl, ⟨nd, rfl⟩⟩
                        refine ⟨_, rfl, ?_⟩
                        refine hK.out _ _ ⟨(blk_cell BK217.out 0).trans rfl, (blk_cell BK217.out 1).trans rfl, (blk_cell BK217.out 2).trans rfl, (blk_cell BK217.out 3).trans rfl⟩ (fun hHeld => ?_)
                        clear hK K
                        refine norm_ (a' := ?_) ?_ ?_
                        rotate_left
                        · show Act.put _ (some 87) _ = _
                          simp only [Act.put, List.setIfInBounds_toArray, List.set_cons_zero, List.set_cons_succ, i64_w, i32_w]
                          rfl
                        refine pure_ (i := 54) (N := some 88) (v := ?_) (a' := ?_) #[true, true, true, true, true, true, true, true, true, true, true, true, true, true, true, true, true, true, true, true, true, true, true, true, true, true, true, true, true, true, true, true, true, true, true, true, true, true, true, true, true, true, true, true, true, true, true, true, true, true, true, true, true, true, true, false, false, false, false] rfl rfl (any_of HT_.out (by kernel_rfl)) (fun _ _ _ h => h) (Or.inl ⟨by rfl, ?_⟩) ?_ ?_
                        rotate_left
                        · intro w'
                          go_simp
                          with_reducible rfl
                        rotate_left
                        · simp only [Act.put, List.setIfInBounds_toArray, List.set_cons_zero, List.set_cons_succ, i64_w, i32_w]
                          rfl
                        refine pure_ (i := 55) (N := some 89) (v := ?_) (a' := ?_) #[true, true, true, true, true, true, true, true, true, true, true, true, true, true, true, true, true, true, true, true, true, true, true, true, true, true, true, true, true, true, true, true, true, true, true, true, true, true, true, true, true, true, true, true, true, true, true, true, true, true, true, true, true, true, true, true, false, false, false] rfl rfl (any_of HT_.out (by kernel_rfl)) (fun _ _ _ h => h) (Or.inl ⟨by rfl, ?_⟩) ?_ ?_
                        rotate_left
                        · intro w'
                          go_simp
                          with_reducible rfl
                        rotate_left
                        · simp only [Act.put, List.setIfInBounds_toArray, List.set_cons_zero, List.set_cons_succ, i64_w, i32_w]
                          rfl
                        refine one_ (i := 56) (N := some 90) #[true, true, true, true, true, true, true, true, true, true, true, true, true, true, true, true, true, true, true, true, true, true, true, true, true, true, true, true, true, true, true, true, true, true, true, true, true, true, true, true, true, true, true, true, true, true, true, true, true, true, true, true, true, true, true, true, true, false, false] rfl rfl (one_of HT_.out (by kernel_rfl)) (by decide) (fun K hK => ?_)
                        refine goes_ Tryd.func18 (by kernel_rfl) rfl #[] (by rfl) rfl rfl (by (try simp only [List.map_toArray, List.map_cons, List.map_nil]); first | done | rfl | (simp only [List.length_drop, List.length_take]; rfl)) ?_
                        with_reducible refine (postilionlaw13_wakes.calls k  t263 _ ?side1 A36.out).mono ?_
                        (case side1 => exact Gl.below hG (by repeat (first | (with_reducible first | exact HB.out | apply below_alloc | apply pw_below_drewN | apply below_drew1 | refine below_set ?_ GE217.out) | exact HB.out)))
                        rintro e w68 ⟨rfl, hb⟩
                        refine ⟨_, rfl, ?_⟩
                        have n0_ := Aside0.mk (Kd.R_below (by (with_reducible repeat (first | apply Kd.R_alloc | apply Kd.R_drewN | apply Kd.R_drew)); exact HO214.out) hb)
                        have n1_ := Aside0.mk (Kd.R_below (by (with_reducible repeat (first | apply Kd.R_alloc | apply Kd.R_drewN | apply Kd.R_drew)); exact HO220.out) hb)
                        have n2_ := Aside0.mk (Kd.R_below (by (with_reducible repeat (first | apply Kd.R_alloc | apply Kd.R_drewN | apply Kd.R_drew)); exact HO223.out) hb)
                        have n3_ := Aside0.mk (Kd.R_below (by (with_reducible repeat (first | apply Kd.R_alloc | apply Kd.R_drewN | apply Kd.R_drew)); exact HO228.out) hb)
                        have n4_ := Aside0.mk (Kd.V_below (by (with_reducible repeat (first | apply Kd.V_alloc | apply Kd.V_drewN | apply Kd.V_drew)); exact HO236.out) hb)
                        have n5_ := Aside0.mk (Kd.V_below (by (with_reducible repeat (first | apply Kd.V_alloc | apply Kd.V_drewN | apply Kd.V_drew)); exact HO244.out) hb)
                        have n6_ := Aside0.mk (Kd.R_below (by (with_reducible repeat (first | apply Kd.R_alloc | apply Kd.R_drewN | apply Kd.R_drew)); exact HO251.out) hb)
                        have n7_ := Aside0.mk (Kd.R_below (by (with_reducible repeat (first | apply Kd.R_alloc | apply Kd.R_drewN | apply Kd.R_drew)); exact HO254.out) hb)
                        have n8_ := Aside0.mk (Kd.R_below (by (with_reducible repeat (first | apply Kd.R_alloc | apply Kd.R_drewN | apply Kd.R_drew)); exact HO258.out) hb)
                        have n9_ := Aside0.mk (Kd.R_below (by (with_reducible repeat (first | apply Kd.R_alloc | apply Kd.R_drewN | apply Kd.R_drew)); exact HO261.out) hb)
                        have n10_ := Aside0.mk (blk_below (g := gb217) (o := .cells #[.int .i64 t211, .slice Ao40 t212.length co40, .string t215, .bool t216] 45 (0, 0)) (by (with_reducible repeat (first | refine blk_drewN ?_ _ | refine blk_drew ?_ | refine blk_alloc ?_ _)); exact BK217.out) hb)
                        have n11_ := Aside0.mk (below_step (by repeat (first | (with_reducible first | exact HB.out | apply below_alloc | apply pw_below_drewN | apply below_drew1 | refine below_set ?_ GE217.out) | exact HB.out)) hb)
                        clear HO214
                        clear HO220
                        clear HO223
                        clear HO228
                        clear HO236
                        clear HO244
                        clear HO251
                        clear HO254
                        clear HO258
                        clear HO261
                        clear BK217
                        clear HB
                        have HO214 := n0_
                        have HO220 := n1_
                        have HO223 := n2_
                        have HO228 := n3_
                        have HO236 := n4_
                        have HO244 := n5_
                        have HO251 := n6_
                        have HO254 := n7_
                        have HO258 := n8_
                        have HO261 := n9_
                        have BK217 := n10_
                        have HB := n11_
                        clear n0_ n1_ n2_ n3_ n4_ n5_ n6_ n7_ n8_ n9_ n10_ n11_
                        (try clear hb)
                        (try clear hb2)
                        (try clear hk)
                        (try clear hi)
                        refine hK.out _ _ ⟨(blk_cell BK217.out 0).trans rfl, (blk_cell BK217.out 1).trans rfl, (blk_cell BK217.out 2).trans rfl, (blk_cell BK217.out 3).trans rfl⟩ (fun hHeld => ?_)
                        clear hK K
                        refine norm_ (a' := ?_) ?_ ?_
                        rotate_left
                        · show Act.put _ (some 90) _ = _
                          simp only [Act.put, List.setIfInBounds_toArray, List.set_cons_zero, List.set_cons_succ, i64_w, i32_w]
                          rfl
                        refine pure_ (i := 57) (N := some 91) (v := ?_) (a' := ?_) #[true, true, true, true, true, true, true, true, true, true, true, true, true, true, true, true, true, true, true, true, true, true, true, true, true, true, true, true, true, true, true, true, true, true, true, true, true, true, true, true, true, true, true, true, true, true, true, true, true, true, true, true, true, true, true, true, true, true, false] rfl rfl (any_of HT_.out (by kernel_rfl)) (fun _ _ _ h => h) (Or.inl ⟨by rfl, ?_⟩) ?_ ?_
                        rotate_left
                        · intro w'
                          go_simp
                          with_reducible rfl
                        rotate_left
                        · simp only [Act.put, List.setIfInBounds_toArray, List.set_cons_zero, List.set_cons_succ, i64_w, i32_w]
                          rfl
                        refine pure_ (i := 58) (N := some 12) (v := ?_) (a' := ?_) #[true, true, true, true, true, true, true, true, true, true, true, true, true, true, true, true, true, true, true, true, true, true, true, true, true, true, true, true, true, true, true, true, true, true, true, true, true, true, true, true, true, true, true, true, true, true, true, true, true, true, true, true, true, true, true, true, true, true, true] rfl rfl (any_of HT_.out (by kernel_rfl)) (fun _ _ _ h => h) (Or.inl ⟨by rfl, ?_⟩) ?_ ?_
                        rotate_left
                        · intro w'
                          go_simp
                          with_reducible rfl
                        rotate_left
                        · simp only [Act.put, List.setIfInBounds_toArray, List.set_cons_zero, List.set_cons_succ, i64_w, i32_w]
                          rfl
                        refine done_ (done_of HT_.out (by kernel_rfl)) ?_
                        try go_wp2
                        go_ret
                        exact ⟨by first | rfl | (simp [errW_none, errW_some] <;> rfl) | (simp [*, errW_none, errW_some] <;> rfl), by repeat (first | (with_reducible first | exact HB.out | apply below_alloc | apply pw_below_drewN | apply below_drew1 | refine below_set ?_ GE217.out) | exact HB.out)⟩
                      · replace c35 := Bool.eq_false_iff.mpr c35
                        subst c35
                        have H1 : (some false) = some r := by rw [if_neg (show ¬ (false = true) by decide)] at H; exact H
                        clear H
                        have H := H1
                        clear H1
                        obtain rfl := Option.some.inj H
                        cases hT
                    · rw [if_neg c31] at H
                      exact absurd H (by simp)
                  · rw [if_neg c30] at H
                    exact absurd H (by simp)
                · replace c29 := Bool.eq_false_iff.mpr c29
                  subst c29
                  have H1 : (some false) = some r := by rw [if_neg (show ¬ (false = true) by decide)] at H; exact H
                  clear H
                  have H := H1
                  clear H1
                  obtain rfl := Option.some.inj H
                  cases hT
              · rw [if_neg c25] at H
                have c25b0 : (t247 == t248) = false := by simpa using c25
                (try (have c25b1 : decide (t247 = t248) = false := by simpa using c25))
                (try (have c25b2 : (t247 == t248) = false := by simpa using c25))
                (try (have c25b3 : ¬ (t247 = t248) := by simpa using c25))
                clear c25
                obtain rfl := Option.some.inj H
                cases hT
            · rw [if_neg c21] at H
              have c21b0 : (t239 == t240) = false := by simpa using c21
              (try (have c21b1 : decide (t239 = t240) = false := by simpa using c21))
              (try (have c21b2 : (t239 == t240) = false := by simpa using c21))
              (try (have c21b3 : ¬ (t239 = t240) := by simpa using c21))
              clear c21
              obtain rfl := Option.some.inj H
              cases hT
          · rw [if_neg c17] at H
            have c17b0 : (t231 == t232) = false := by simpa using c17
            (try (have c17b1 : decide (t231 = t232) = false := by simpa using c17))
            (try (have c17b2 : (t231 == t232) = false := by simpa using c17))
            (try (have c17b3 : ¬ (t231 = t232) := by simpa using c17))
            clear c17
            obtain rfl := Option.some.inj H
            cases hT
        · rw [if_neg c14] at H
          exact absurd H (by simp)
      · rw [if_neg c13] at H
        exact absurd H (by simp)
    · rw [if_neg c11] at H
      exact absurd H (by simp)
  · rw [if_neg c10] at H
    exact absurd H (by simp)

/-- THE ONE PURE STATEMENT of postilionlaw13_CorsTells: yours. -/
def postilionlaw13_CorsTells.Pure : Prop := ∀ (a0 : Int) (a1 : Int) (a2 : Int) (l3 : List Int) (a4 : ByteArray) (a5 : Bool), (Lit.int .i64 a0).wf = true → (Lit.int .i64 a1).wf = true → (Lit.int .i64 a2).wf = true → l3.length ≤ maxLen → l3.length * 8 ≤ 140737488351232 → (∀ x ∈ l3, (Lit.int .i64 x).wf = true) → a4.size ≤ 140737488351232 → ∃ k, postilionlaw13_CorsTells.f k a0 a1 a2 l3 a4 a5 = some true
theorem postilionlaw13_CorsTells.walk (P : postilionlaw13_CorsTells.Pure) (a0 : Int) (a1 : Int) (a2 : Int) (a3 : Option Addr) (len3 cap3 : Nat) (z3 : List Int) (a4 : ByteArray) (a5 : Bool) (w : World) (w0 : (Lit.int .i64 a0).wf = true) (w1 : (Lit.int .i64 a1).wf = true) (w2 : (Lit.int .i64 a2).wf = true) (w3 : (a3 = none ∧ len3 = 0 ∧ cap3 = 0 ∧ z3 = []) ∨ ∃ x, a3 = some x ∧ len3 ≤ cap3 ∧ cap3 ≤ maxLen ∧ z3.length = cap3 ∧ (∀ i, i < z3.length → w.cell? (x.add i) = some (.int .i64 (z3.getD i 0))) ∧ ∀ n ∈ z3, (Lit.int .i64 n).wf = true) (y3 : len3 * 8 ≤ 140737488351232) (w4 : a4.size ≤ 140737488351232) (hG : Gl w) :
    Calls Tryd.prog 6 #[.int .i64 a0, .int .i64 a1, .int .i64 a2, .slice a3 len3 cap3, .string a4, .bool a5] w fun e w' => e = .returned (.bool true) ∧ Below w.heap.size w w' := by
  obtain ⟨l3, rfl, hr3, hm3, hw3, hc3⟩ := ReadsInt.ofRowC w3
  obtain ⟨k, h⟩ := P a0 a1 a2 l3 a4 a5 w0 w1 w2 hm3 y3 hw3 w4
  refine (postilionlaw13_CorsTells.calls k a0 a1 a2 _ _ l3 a4 a5 true w hG (Kd.C_of_reads (d := (0 : Int)) (h1 := fun _ => rfl) hr3) hc3 rfl h).mono ?_
  rintro e w' ⟨rfl, hd⟩
  exact ⟨rfl, hd⟩

end Go.Proofs.YtllblgjhoeopjaaDoor.GCorsTells
