-- Made by this session's changed copy of the kit's printer (wip/myprint). Not trusted: Lean checks it.
import Derived.Test.YtllblgjhoeopjaaDoorVGReplyFormsx0
import Derived.Test.YtllblgjhoeopjaaDoorVGReplyFormsx2
import Derived.Test.YtllblgjhoeopjaaDoorVGReplyFormsx5
import Derived.Test.YtllblgjhoeopjaaDoorVGivP
namespace Go.Proofs.YtllblgjhoeopjaaDoor.GReplyForms
open Go.RowKit Go.Proofs.YtllblgjhoeopjaaDoor.GivP Go.Proofs.YtllblgjhoeopjaaDoor.Mw Go.Proofs.YtllblgjhoeopjaaDoorW.PrintWords Go.Proofs.YtllblgjhoeopjaaDoorW.PrintLast Go.Proofs.YtllblgjhoeopjaaDoorW.PrintMore
attribute [local go_sem] max2_int min2_int max_two min_two max_three min_three max_four min_four   -- for this text's walks alone
set_option linter.unusedVariables false
set_option linter.unusedSimpArgs false

/-! ### postilionlaw09_ReplyForms: function 9 -/
mutual
def postilionlaw09_ReplyForms.j0 : Nat → Int → Bool → Int → List (S27) → ByteArray → Bool → Option (Bool)
  | 0, _, _, _, _, _, _ => none
  | k + 1, x0, x42, x176000, x176001, x176002, x176003 => if x42 = true then (some false) else ((reply_Print.f k x176000 x176001 x176002 x176003).bind fun t180 => (if t180.toList = ([72, 84, 84, 80, 47, 49, 46, 49, 32, 52, 48, 52, 32, 45, 13, 10, 65, 45, 98, 58, 32, 120, 32, 121, 13, 10, 67, 111, 110, 116, 101, 110, 116, 45, 76, 69, 78, 71, 84, 72, 58, 32, 51, 13, 10, 13, 10, 104, 101, 108] : List UInt8) then ((reply_Parse.f k (⟨#[72, 84, 84, 80, 47, 49, 46, 49, 32, 49, 48, 48, 32, 13, 10, 99, 111, 110, 116, 101, 110, 116, 45, 108, 101, 110, 103, 116, 104, 58, 32, 48, 48, 48, 48, 48, 57, 13, 10, 120, 58, 13, 10, 13, 10, 97, 98]⟩ : ByteArray)).bind fun bt181 => (if bt181.2.2.2.2 = 0 then (if bt181.1 = 100 then (if bt181.2.2.2.1 = true then (if bt181.2.2.1.toList = ([97, 98] : List UInt8) then (if (bt181.2.1.length : Int) = 2 then (if 1 < (bt181.2.1.length : Int) then (postilionlaw09_ReplyForms.j1 k x0 (((rd_T27 bt181.2.1 1).f1).toList != ([] : List UInt8))) else (none)) else (postilionlaw09_ReplyForms.j1 k x0 true)) else (postilionlaw09_ReplyForms.j1 k x0 true)) else (postilionlaw09_ReplyForms.j1 k x0 true)) else (postilionlaw09_ReplyForms.j1 k x0 true)) else (postilionlaw09_ReplyForms.j1 k x0 true))) else (some false)))
def postilionlaw09_ReplyForms.j1 : Nat → Int → Bool → Option (Bool)
  | 0, _, _ => none
  | k + 1, x0, x80 => if x80 = true then (some false) else ((some (([(⟨#[]⟩ : ByteArray), (⟨#[72, 84, 84, 80, 47, 49, 46, 49, 32, 50, 48, 48, 32, 45]⟩ : ByteArray), (⟨#[72, 84, 84, 80, 47, 49, 46, 49, 32, 50, 48, 48, 32, 45, 13, 10]⟩ : ByteArray), (⟨#[72, 84, 84, 80, 47, 49, 46, 48, 32, 50, 48, 48, 32, 45, 13, 10, 13, 10]⟩ : ByteArray), (⟨#[72, 84, 84, 80, 47, 49, 46, 49, 32, 50, 48, 32, 45, 13, 10, 13, 10]⟩ : ByteArray), (⟨#[72, 84, 84, 80, 47, 49, 46, 49, 32, 48, 57, 57, 32, 45, 13, 10, 13, 10]⟩ : ByteArray), (⟨#[72, 84, 84, 80, 47, 49, 46, 49, 32, 54, 48, 48, 32, 45, 13, 10, 13, 10]⟩ : ByteArray), (⟨#[72, 84, 84, 80, 47, 49, 46, 49, 32, 50, 120, 48, 32, 45, 13, 10, 13, 10]⟩ : ByteArray), (⟨#[72, 84, 84, 80, 47, 49, 46, 49, 32, 50, 48, 48, 32, 45, 10, 10]⟩ : ByteArray), (⟨#[72, 84, 84, 80, 47, 49, 46, 49, 32, 50, 48, 48, 32, 45, 13, 10, 120, 13, 10, 13, 10]⟩ : ByteArray), (⟨#[72, 84, 84, 80, 47, 49, 46, 49, 32, 50, 48, 48, 32, 45, 13, 10, 58, 32, 120, 13, 10, 13, 10]⟩ : ByteArray), (⟨#[72, 84, 84, 80, 47, 49, 46, 49, 32, 50, 48, 48, 32, 45, 13, 10, 97, 32, 98, 58, 32, 120, 13, 10, 13, 10]⟩ : ByteArray), (⟨#[72, 84, 84, 80, 47, 49, 46, 49, 32, 50, 48, 48, 32, 45, 13, 10, 120, 58, 32, 9, 13, 10, 13, 10]⟩ : ByteArray), (⟨#[72, 84, 84, 80, 47, 49, 46, 49, 32, 50, 48, 48, 32, 45, 13, 10, 99, 111, 110, 116, 101, 110, 116, 45, 108, 101, 110, 103, 116, 104, 58, 32, 120, 13, 10, 13, 10]⟩ : ByteArray), (⟨#[72, 84, 84, 80, 47, 49, 46, 49, 32, 50, 48, 48, 32, 45, 13, 10, 99, 111, 110, 116, 101, 110, 116, 45, 108, 101, 110, 103, 116, 104, 58, 32, 49, 50, 51, 52, 53, 54, 55, 13, 10, 13, 10]⟩ : ByteArray), (⟨#[72, 84, 84, 80, 47, 49, 46, 49, 32, 50, 48, 48, 32, 45, 13, 10, 99, 111, 110, 116, 101, 110, 116, 45, 108, 101, 110, 103, 116, 104, 58, 32, 49, 13, 10, 67, 111, 110, 116, 101, 110, 116, 45, 76, 101, 110, 103, 116, 104, 58, 32, 49, 13, 10, 13, 10, 97]⟩ : ByteArray), (⟨#[72, 84, 84, 80, 47, 49, 46, 49, 32, 50, 48, 48, 32, 45, 13, 10, 97, 58, 32, 49, 13, 10, 97, 58, 32, 49, 13, 10, 97, 58, 32, 49, 13, 10, 97, 58, 32, 49, 13, 10, 97, 58, 32, 49, 13, 10, 97, 58, 32, 49, 13, 10, 97, 58, 32, 49, 13, 10, 97, 58, 32, 49, 13, 10, 97, 58, 32, 49, 13, 10, 13, 10]⟩ : ByteArray), (⟨#[72, 84, 84, 80, 47, 49, 46, 49, 32, 50, 48, 48, 32, 45, 13, 10, 97, 98, 99, 100, 101, 102, 103, 104, 105, 106, 107, 108, 109, 110, 111, 112, 113, 114, 115, 116, 117, 58, 32, 49, 13, 10, 13, 10]⟩ : ByteArray), (⟨#[72, 84, 84, 80, 47, 49, 46, 49, 32, 50, 48, 48, 32, 45, 13, 10, 120, 58, 32, 49, 50, 51, 52, 53, 54, 55, 56, 57, 48, 49, 50, 51, 52, 53, 54, 55, 56, 57, 48, 49, 50, 51, 52, 53, 54, 55, 56, 57, 48, 49, 50, 51, 52, 53, 54, 55, 56, 57, 48, 49, 13, 10, 13, 10]⟩ : ByteArray)] : List ByteArray) : List ByteArray)).bind fun y189 => ((postilionkeep_Within.f x0 (y189.length : Int)).bind fun t192 => (if 0 ≤ t192 then (if t192 < (y189.length : Int) then ((reply_Parse.f k (rdOf ByteArray.empty y189 t192)).bind fun bt194 => ((reply_Number.f k (⟨#[48, 48, 48, 49, 50, 51]⟩ : ByteArray)).bind fun bt201 => ((reply_Number.f k (⟨#[49, 50, 51, 52, 53, 54, 55]⟩ : ByteArray)).bind fun bt203 => ((reply_Number.f k (⟨#[]⟩ : ByteArray)).bind fun bt205 => ((reply_Number.f k (⟨#[45, 49]⟩ : ByteArray)).bind fun bt207 => (if bt194.2.2.2.2 = 2 then (if bt194.1 = 0 then (if (bt194.2.1.length : Int) = 0 then (if bt201.2 = true then (if bt201.1 = 123 then (if bt203.2 = true then (some false) else (if bt205.2 = true then (some false) else (if bt207.2 = true then (some false) else ((postilionlaw09_wakes.f k).bind fun t209 => (some t209))))) else (some false)) else (some false)) else (some false)) else (some false)) else (some false))))))) else (none)) else (none))))
end
def postilionlaw09_ReplyForms.f (k : Nat) (a0 : Int) : Option (Bool) := (reply_Parse.f k (⟨#[72, 84, 84, 80, 47, 49, 46, 49, 32, 52, 48, 52, 32, 78, 111, 116, 32, 116, 104, 101, 114, 101, 32, 97, 116, 32, 97, 108, 108, 13, 10, 65, 45, 98, 58, 32, 32, 120, 32, 121, 32, 32, 13, 10, 67, 111, 110, 116, 101, 110, 116, 45, 76, 69, 78, 71, 84, 72, 58, 51, 13, 10, 13, 10, 104, 101, 108, 108, 111]⟩ : ByteArray)).bind fun bt168 => (if bt168.2.2.2.2 = 0 then (if bt168.1 = 404 then (if bt168.2.2.1.toList = ([104, 101, 108] : List UInt8) then (if bt168.2.2.2.1 = true then (postilionlaw09_ReplyForms.j0 k a0 true bt168.1 bt168.2.1 bt168.2.2.1 bt168.2.2.2.1) else ((api_Head.f k bt168.2.1 (([(⟨(⟨#[65, 45, 98]⟩ : ByteArray), (⟨#[120, 32, 121]⟩ : ByteArray)⟩ : S27), (⟨(⟨#[67, 111, 110, 116, 101, 110, 116, 45, 76, 69, 78, 71, 84, 72]⟩ : ByteArray), (⟨#[51]⟩ : ByteArray)⟩ : S27)] : List (S27)))).bind fun t179 => (postilionlaw09_ReplyForms.j0 k a0 (!t179) bt168.1 bt168.2.1 bt168.2.2.1 bt168.2.2.2.1))) else (postilionlaw09_ReplyForms.j0 k a0 true bt168.1 bt168.2.1 bt168.2.2.1 bt168.2.2.2.1)) else (postilionlaw09_ReplyForms.j0 k a0 true bt168.1 bt168.2.1 bt168.2.2.1 bt168.2.2.2.1)) else (postilionlaw09_ReplyForms.j0 k a0 true bt168.1 bt168.2.1 bt168.2.2.1 bt168.2.2.2.1))
theorem postilionlaw09_ReplyForms.mono_l : ∀ k, (∀ y0 y1 y2 y3 y4 y5, LeO (postilionlaw09_ReplyForms.j0 k y0 y1 y2 y3 y4 y5) (postilionlaw09_ReplyForms.j0 (k + 1) y0 y1 y2 y3 y4 y5)) ∧ (∀ y0 y1, LeO (postilionlaw09_ReplyForms.j1 k y0 y1) (postilionlaw09_ReplyForms.j1 (k + 1) y0 y1))
  | 0 => ⟨fun _ _ _ _ _ _ r h => by simp [postilionlaw09_ReplyForms.j0] at h, fun _ _ r h => by simp [postilionlaw09_ReplyForms.j1] at h⟩
  | k + 1 => by
    obtain ⟨ih0, ih1⟩ := postilionlaw09_ReplyForms.mono_l k
    refine ⟨?_, ?_⟩
    · intro y0 y1 y2 y3 y4 y5
      unfold postilionlaw09_ReplyForms.j0
      repeat' first
      | (with_reducible exact ih0 _ _ _ _ _ _)
      | (with_reducible exact ih1 _ _)
      | (with_reducible exact api_Head.mono _ _ _)
      | (with_reducible exact postilionlaw09_wakes.mono _)
      | (with_reducible exact reply_Number.mono _ _)
      | (with_reducible exact reply_Parse.mono _ _)
      | (with_reducible exact reply_Print.mono _ _ _ _ _)
      | (with_reducible exact LeO.refl _)
      | (with_reducible exact LeO.none _)
      | (with_reducible refine LeO.ite ?_ ?_)
      | (with_reducible refine LeO.bind ?_ (fun _ => ?_))
      | exact ih0 _ _ _ _ _ _
      | exact ih1 _ _
      | exact api_Head.mono _ _ _
      | exact postilionlaw09_wakes.mono _
      | exact reply_Number.mono _ _
      | exact reply_Parse.mono _ _
      | exact reply_Print.mono _ _ _ _ _
      | exact LeO.none _
      | refine LeO.ite ?_ ?_
      | refine LeO.bind ?_ (fun _ => ?_)
    · intro y0 y1
      unfold postilionlaw09_ReplyForms.j1
      repeat' first
      | (with_reducible exact ih0 _ _ _ _ _ _)
      | (with_reducible exact ih1 _ _)
      | (with_reducible exact api_Head.mono _ _ _)
      | (with_reducible exact postilionlaw09_wakes.mono _)
      | (with_reducible exact reply_Number.mono _ _)
      | (with_reducible exact reply_Parse.mono _ _)
      | (with_reducible exact reply_Print.mono _ _ _ _ _)
      | (with_reducible exact LeO.refl _)
      | (with_reducible exact LeO.none _)
      | (with_reducible refine LeO.ite ?_ ?_)
      | (with_reducible refine LeO.bind ?_ (fun _ => ?_))
      | exact ih0 _ _ _ _ _ _
      | exact ih1 _ _
      | exact api_Head.mono _ _ _
      | exact postilionlaw09_wakes.mono _
      | exact reply_Number.mono _ _
      | exact reply_Parse.mono _ _
      | exact reply_Print.mono _ _ _ _ _
      | exact LeO.none _
      | refine LeO.ite ?_ ?_
      | refine LeO.bind ?_ (fun _ => ?_)
theorem postilionlaw09_ReplyForms.mono : ∀ a0 k, LeO (postilionlaw09_ReplyForms.f k a0) (postilionlaw09_ReplyForms.f (k + 1) a0) := by
  intro a0 k
  obtain ⟨ih0, ih1⟩ := postilionlaw09_ReplyForms.mono_l k
  unfold postilionlaw09_ReplyForms.f
  repeat' first
      | (with_reducible exact ih0 _ _ _ _ _ _)
      | (with_reducible exact ih1 _ _)
      | (with_reducible exact api_Head.mono _ _ _)
      | (with_reducible exact postilionlaw09_wakes.mono _)
      | (with_reducible exact reply_Number.mono _ _)
      | (with_reducible exact reply_Parse.mono _ _)
      | (with_reducible exact reply_Print.mono _ _ _ _ _)
      | (with_reducible exact LeO.refl _)
      | (with_reducible exact LeO.none _)
      | (with_reducible refine LeO.ite ?_ ?_)
      | (with_reducible refine LeO.bind ?_ (fun _ => ?_))
      | exact ih0 _ _ _ _ _ _
      | exact ih1 _ _
      | exact api_Head.mono _ _ _
      | exact postilionlaw09_wakes.mono _
      | exact reply_Number.mono _ _
      | exact reply_Parse.mono _ _
      | exact reply_Print.mono _ _ _ _ _
      | exact LeO.none _
      | refine LeO.ite ?_ ?_
      | refine LeO.bind ?_ (fun _ => ?_)
set_option maxHeartbeats 8000000 in
set_option maxRecDepth 100000 in
theorem postilionlaw09_ReplyForms.calls (k : Nat) (a0 : Int) (r : Bool) (w : World) (hG : Gl w) (hT : r = true) (h : postilionlaw09_ReplyForms.f k a0 = some r) :
    Calls Tryd.prog 9 #[.int .i64 a0] w fun e w' => e = .returned (.bool r) ∧ Below w.heap.size w w' := by
  have hu29 := Tryd.underlying29
  have hu27 := Tryd.underlying27
  have HB := Aside0.mk (Below.refl w.heap.size w)
  have H : ((reply_Parse.f k (⟨#[72, 84, 84, 80, 47, 49, 46, 49, 32, 52, 48, 52, 32, 78, 111, 116, 32, 116, 104, 101, 114, 101, 32, 97, 116, 32, 97, 108, 108, 13, 10, 65, 45, 98, 58, 32, 32, 120, 32, 121, 32, 32, 13, 10, 67, 111, 110, 116, 101, 110, 116, 45, 76, 69, 78, 71, 84, 72, 58, 51, 13, 10, 13, 10, 104, 101, 108, 108, 111]⟩ : ByteArray)).bind fun bt168 => (if bt168.2.2.2.2 = 0 then (if bt168.1 = 404 then (if bt168.2.2.1.toList = ([104, 101, 108] : List UInt8) then (if bt168.2.2.2.1 = true then (postilionlaw09_ReplyForms.j0 k a0 true bt168.1 bt168.2.1 bt168.2.2.1 bt168.2.2.2.1) else ((api_Head.f k bt168.2.1 (([(⟨(⟨#[65, 45, 98]⟩ : ByteArray), (⟨#[120, 32, 121]⟩ : ByteArray)⟩ : S27), (⟨(⟨#[67, 111, 110, 116, 101, 110, 116, 45, 76, 69, 78, 71, 84, 72]⟩ : ByteArray), (⟨#[51]⟩ : ByteArray)⟩ : S27)] : List (S27)))).bind fun t179 => (postilionlaw09_ReplyForms.j0 k a0 (!t179) bt168.1 bt168.2.1 bt168.2.2.1 bt168.2.2.2.1))) else (postilionlaw09_ReplyForms.j0 k a0 true bt168.1 bt168.2.1 bt168.2.2.1 bt168.2.2.2.1)) else (postilionlaw09_ReplyForms.j0 k a0 true bt168.1 bt168.2.1 bt168.2.2.1 bt168.2.2.2.1)) else (postilionlaw09_ReplyForms.j0 k a0 true bt168.1 bt168.2.1 bt168.2.2.1 bt168.2.2.2.1))) = some r := h
  clear h
  replace H := Option.bind_eq_some_iff.mp H
  obtain ⟨⟨t168, t169, t172, t173, t174⟩, A20, H⟩ := H
  replace H : (if t174 = 0 then (if t168 = 404 then (if t172.toList = ([104, 101, 108] : List UInt8) then (if t173 = true then (postilionlaw09_ReplyForms.j0 k a0 true t168 t169 t172 t173) else ((api_Head.f k t169 (([(⟨(⟨#[65, 45, 98]⟩ : ByteArray), (⟨#[120, 32, 121]⟩ : ByteArray)⟩ : S27), (⟨(⟨#[67, 111, 110, 116, 101, 110, 116, 45, 76, 69, 78, 71, 84, 72]⟩ : ByteArray), (⟨#[51]⟩ : ByteArray)⟩ : S27)] : List (S27)))).bind fun t179 => (postilionlaw09_ReplyForms.j0 k a0 (!t179) t168 t169 t172 t173))) else (postilionlaw09_ReplyForms.j0 k a0 true t168 t169 t172 t173)) else (postilionlaw09_ReplyForms.j0 k a0 true t168 t169 t172 t173)) else (postilionlaw09_ReplyForms.j0 k a0 true t168 t169 t172 t173)) = some r := H
  have A2 := Aside0.mk A20
  clear A20
  have HC3 := Aside0.mk H
  clear H
  go_enter Tryd.func9, Tryd.ntmps9
  go_upto_region 2 with (first | ((with_reducible refine gate_callee (f := 13) rfl ?_); refine goesL_ (some 15) rfl rfl Tryd.func13 (by kernel_rfl) rfl #[.string (⟨#[72, 84, 84, 80, 47, 49, 46, 49, 32, 52, 48, 52, 32, 78, 111, 116, 32, 116, 104, 101, 114, 101, 32, 97, 116, 32, 97, 108, 108, 13, 10, 65, 45, 98, 58, 32, 32, 120, 32, 121, 32, 32, 13, 10, 67, 111, 110, 116, 101, 110, 116, 45, 76, 69, 78, 71, 84, 72, 58, 51, 13, 10, 13, 10, 104, 101, 108, 108, 111]⟩ : ByteArray)] rfl (by (try simp only [List.map_toArray, List.map_cons, List.map_nil]); first | done | rfl | (simp only [List.length_drop, List.length_take]; rfl)) ?_; (with_reducible refine (reply_Parse.calls k (⟨#[72, 84, 84, 80, 47, 49, 46, 49, 32, 52, 48, 52, 32, 78, 111, 116, 32, 116, 104, 101, 114, 101, 32, 97, 116, 32, 97, 108, 108, 13, 10, 65, 45, 98, 58, 32, 32, 120, 32, 121, 32, 32, 13, 10, 67, 111, 110, 116, 101, 110, 116, 45, 76, 69, 78, 71, 84, 72, 58, 51, 13, 10, 13, 10, 104, 101, 108, 108, 111]⟩ : ByteArray) t168 t169 t172 t173 t174 _ ?side1 A2.out).mono ?_); (case side1 => exact Gl.below hG (by repeat (first | (with_reducible first | exact HB.out | apply below_alloc | apply pw_below_drewN | apply below_drew1) | exact HB.out))); rintro e w4 ⟨v170, rfl, ho0, hb⟩; refine ⟨_, rfl, ?_⟩; have n0_ := Aside0.mk (Kd.R_lower ho0 (below_size (by repeat (first | (with_reducible first | exact HB.out | apply below_alloc | apply pw_below_drewN | apply below_drew1) | exact HB.out)))); have n1_ := Aside0.mk (below_step (by repeat (first | (with_reducible first | exact HB.out | apply below_alloc | apply pw_below_drewN | apply below_drew1) | exact HB.out)) hb); clear HB; have HO171 := n0_; have HB := n1_; clear n0_ n1_; (try clear hb); (try clear hb2); (try clear hk); (try clear hi); (try clear ho0)) | ((with_reducible refine gate_dst (N := 3) rfl ?_); (try (refine gate_guard (by rfl) ?_; dsimp only)); refine box_event ?hg (N := 3) ?hd (cs := #[.int .i64 0, .slice none 0 0, .string (⟨#[]⟩ : ByteArray), .bool false]) (t := 29) ?hr ?_; (case hd => rfl); (case hg => rfl); (case hr => first | (go_simp; done) | (go_simp; rfl)); intro gb175 hg w5 hbox hb; have n0_ := Aside0.mk (Kd.R_below (by (with_reducible repeat (first | apply Kd.R_alloc | apply Kd.R_drewN | apply Kd.R_drew)); exact HO171.out) hb); have n1_ := Aside0.mk (below_step (by repeat (first | (with_reducible first | exact HB.out | apply below_alloc | apply pw_below_drewN | apply below_drew1) | exact HB.out)) hb); have n2_ := Aside0.mk (hbox); have n3_ := Aside0.mk ((by rw [hg]; exact (below_size (by repeat (first | (with_reducible first | exact HB.out | apply below_alloc | apply pw_below_drewN | apply below_drew1) | exact HB.out))) : w.heap.size ≤ gb175)); have n4_ := Aside0.mk ((by rw [hg]; exact (below_size (by repeat (first | (with_reducible first | exact HB.out | apply below_alloc | apply pw_below_drewN | apply below_drew1) | exact HB.out))) : w.heap.size ≤ gb175)); clear HO171; clear HB; have HO171 := n0_; have HB := n1_; have BK175 := n2_; have GW175 := n3_; have GE175 := n4_; clear n0_ n1_ n2_ n3_ n4_; clear hb hbox hg; have hcz6_0 : w5.cell? ⟨gb175, 0, none⟩ = some (.int .i64 0) := (blk_cell BK175.out 0).trans rfl; have hcz6_1 : w5.cell? ⟨gb175, 1, none⟩ = some (.slice none 0 0) := (blk_cell BK175.out 1).trans rfl; have hcz6_2 : w5.cell? ⟨gb175, 2, none⟩ = some (.string (⟨#[]⟩ : ByteArray)) := (blk_cell BK175.out 2).trans rfl; have hcz6_3 : w5.cell? ⟨gb175, 3, none⟩ = some (.bool false) := (blk_cell BK175.out 3).trans rfl; have hfz6_0 := blk_frozen BK175.out 0; have hfz6_1 := blk_frozen BK175.out 1; have hfz6_2 := blk_frozen BK175.out 2; have hfz6_3 := blk_frozen BK175.out 3; obtain ⟨Ao7, co7, eo7⟩ := Kd.R_slice HO171.out; subst eo7))
  (try simp only [Act.put, List.setIfInBounds_toArray, List.set_cons_zero, List.set_cons_succ])
  go_cut [42] (fun v42 wc => ∃ (kq : Nat) (x42_2 : Bool), v42 = .bool x42_2 ∧ Aside0 (postilionlaw09_ReplyForms.j0 kq a0 x42_2 t168 t169 t172 t173 = some r) ∧ Aside0 (kq ≤ k) ∧ Aside0 (Kd.R k27 27 wc w.heap.size (fun _ => True) (.slice Ao7 t169.length co7) t169) ∧ Aside0 (wc.heap[gb175]? = some (.cells #[.int .i64 t168, (.slice Ao7 t169.length co7), .string t172, .bool t173] 29 (0, 0))) ∧ Aside0 (Below w.heap.size w wc))
  case first =>
    have H := HC3.out
    clear HC3
    by_cases c8 : t174 = 0
    · rw [if_pos c8] at H
      have c8b0 : (t174 == 0) = true := beq_iff_eq.mpr c8
      have c8b1 : (t174 != 0) = false := bne_eq_false_iff_eq.mpr c8
      clear c8
      (first | rw [c8b0] | (simp only [i64_w, i32_w]; rw [c8b0]) | skip)
      by_cases c9 : t168 = 404
      · rw [if_pos c9] at H
        have c9b0 : (t168 == 404) = true := beq_iff_eq.mpr c9
        have c9b1 : (t168 != 404) = false := bne_eq_false_iff_eq.mpr c9
        clear c9
        by_cases c10 : t172.toList = ([104, 101, 108] : List UInt8)
        · rw [if_pos c10] at H
          have c10b0 : (t172.toList == ([104, 101, 108] : List UInt8)) = true := beq_iff_eq.mpr c10
          have c10b1 : (t172.toList != ([104, 101, 108] : List UInt8)) = false := bne_eq_false_iff_eq.mpr c10
          clear c10
          by_cases c11 : t173 = true
          · subst c11
            have H1 : (postilionlaw09_ReplyForms.j0 k a0 true t168 t169 t172 true) = some r := by rw [if_pos rfl] at H; exact H
            clear H
            have H := H1
            clear H1
            have H' := Aside0.mk H
            clear H
            have hcz12_0 : w5.cell? ⟨gb175, 0, none⟩ = some (.int .i64 0) := (blk_cell BK175.out 0).trans rfl
            have hcz12_1 : w5.cell? ⟨gb175, 1, none⟩ = some (.slice none 0 0) := (blk_cell BK175.out 1).trans rfl
            have hcz12_2 : w5.cell? ⟨gb175, 2, none⟩ = some (.string (⟨#[]⟩ : ByteArray)) := (blk_cell BK175.out 2).trans rfl
            have hcz12_3 : w5.cell? ⟨gb175, 3, none⟩ = some (.bool false) := (blk_cell BK175.out 3).trans rfl
            have hfz12_0 := blk_frozen BK175.out 0
            have hfz12_1 := blk_frozen BK175.out 1
            have hfz12_2 := blk_frozen BK175.out 2
            have hfz12_3 := blk_frozen BK175.out 3
            go_wp2
            go_meet
            case rel => exact ⟨_, (true), (by first | rfl | (simp; done) | (simp [*]; done) | (congr 1; cases (_ : List UInt8) <;> rfl) | (rw [← List.isEmpty_iff]; simp) | (simp only [Value.bool.injEq]; generalize ByteArray.toList _ = l_; cases l_ <;> rfl) | (generalize ByteArray.toList _ = l_; cases l_ <;> rfl)), H', ⟨by first | omega | exact Nat.le_refl _⟩, ⟨by (with_reducible repeat (first | apply Kd.R_alloc | apply Kd.R_drewN | apply Kd.R_drew)); exact Kd.R_mono (Kd.R_far (p := ⟨gb175, 3, none⟩) (Kd.R_far (p := ⟨gb175, 2, none⟩) (Kd.R_far (p := ⟨gb175, 1, none⟩) (Kd.R_far (p := ⟨gb175, 0, none⟩) (Kd.R_types HO171.out BK175.out (by decide)) (fun _ hk => hk.2) (.int .i64 t168)) (fun _ hk => hk.2) (.slice Ao7 t169.length co7)) (fun _ hk => hk.2) (.string t172)) (fun _ hk => hk.2) (.bool true)) (fun _ hk => trivial)⟩, ⟨by (with_reducible repeat (first | refine blk_drewN ?_ _ | refine blk_drew ?_ | refine blk_alloc ?_ _)); refine blk_put (cs := #[.int .i64 t168, .slice Ao7 t169.length co7, .string t172, .bool false]) ?_ 3 _ rfl; (with_reducible repeat (first | refine blk_drewN ?_ _ | refine blk_drew ?_ | refine blk_alloc ?_ _)); refine blk_put (cs := #[.int .i64 t168, .slice Ao7 t169.length co7, .string (⟨#[]⟩ : ByteArray), .bool false]) ?_ 2 _ rfl; (with_reducible repeat (first | refine blk_drewN ?_ _ | refine blk_drew ?_ | refine blk_alloc ?_ _)); refine blk_put (cs := #[.int .i64 t168, .slice none 0 0, .string (⟨#[]⟩ : ByteArray), .bool false]) ?_ 1 _ rfl; (with_reducible repeat (first | refine blk_drewN ?_ _ | refine blk_drew ?_ | refine blk_alloc ?_ _)); refine blk_put (cs := #[.int .i64 0, .slice none 0 0, .string (⟨#[]⟩ : ByteArray), .bool false]) ?_ 0 _ rfl; (with_reducible repeat (first | refine blk_drewN ?_ _ | refine blk_drew ?_ | refine blk_alloc ?_ _)); exact BK175.out⟩, ⟨by repeat (first | (with_reducible first | exact HB.out | apply below_alloc | apply pw_below_drewN | apply below_drew1 | refine below_set ?_ GE175.out) | exact HB.out)⟩⟩
          · replace c11 := Bool.eq_false_iff.mpr c11
            subst c11
            have H1 : ((api_Head.f k t169 (([(⟨(⟨#[65, 45, 98]⟩ : ByteArray), (⟨#[120, 32, 121]⟩ : ByteArray)⟩ : S27), (⟨(⟨#[67, 111, 110, 116, 101, 110, 116, 45, 76, 69, 78, 71, 84, 72]⟩ : ByteArray), (⟨#[51]⟩ : ByteArray)⟩ : S27)] : List (S27)))).bind fun t179 => (postilionlaw09_ReplyForms.j0 k a0 (!t179) t168 t169 t172 false)) = some r := by rw [if_neg (show ¬ (false = true) by decide)] at H; exact H
            clear H
            have H := H1
            clear H1
            obtain ⟨y176, hy176⟩ : ∃ y_ : List (S27), y_ = (([(⟨(⟨#[65, 45, 98]⟩ : ByteArray), (⟨#[120, 32, 121]⟩ : ByteArray)⟩ : S27), (⟨(⟨#[67, 111, 110, 116, 101, 110, 116, 45, 76, 69, 78, 71, 84, 72]⟩ : ByteArray), (⟨#[51]⟩ : ByteArray)⟩ : S27)] : List (S27))) := ⟨_, rfl⟩
            replace H : ((api_Head.f k t169 y176).bind fun t179 => (postilionlaw09_ReplyForms.j0 k a0 (!t179) t168 t169 t172 false)) = some r := by first | (rw [hy176]; with_reducible exact H) | (have H2_ := (Option.bind_some _ _).symm.trans H; rw [hy176]; with_reducible exact H2_) | (have H2_ := (Option.bind_some _ _).symm.trans H; with_reducible exact H2_) | with_reducible exact H | (rw [hy176]; exact H) | exact H
            have Ny176 := Aside0.mk hy176
            clear hy176
            replace H := Option.bind_eq_some_iff.mp H
            obtain ⟨t179, A130, H⟩ := H
            replace H : (postilionlaw09_ReplyForms.j0 k a0 (!t179) t168 t169 t172 false) = some r := H
            have A13 := Aside0.mk A130
            clear A130
            have H' := Aside0.mk H
            clear H
            have hcz14_0 : w5.cell? ⟨gb175, 0, none⟩ = some (.int .i64 0) := (blk_cell BK175.out 0).trans rfl
            have hcz14_1 : w5.cell? ⟨gb175, 1, none⟩ = some (.slice none 0 0) := (blk_cell BK175.out 1).trans rfl
            have hcz14_2 : w5.cell? ⟨gb175, 2, none⟩ = some (.string (⟨#[]⟩ : ByteArray)) := (blk_cell BK175.out 2).trans rfl
            have hcz14_3 : w5.cell? ⟨gb175, 3, none⟩ = some (.bool false) := (blk_cell BK175.out 3).trans rfl
            have hfz14_0 := blk_frozen BK175.out 0
            have hfz14_1 := blk_frozen BK175.out 1
            have hfz14_2 := blk_frozen BK175.out 2
            have hfz14_3 := blk_frozen BK175.out 3
            go_wp2_with (first | ((with_reducible refine gate_dst (N := 39) rfl ?_); (try (refine gate_guard (by rfl) ?_; dsimp only)); refine Kd.R_lit k27 _ 27 ?hg (N := 39) ?hd (xs := ([(⟨(⟨#[65, 45, 98]⟩ : ByteArray), (⟨#[120, 32, 121]⟩ : ByteArray)⟩ : S27), (⟨(⟨#[67, 111, 110, 116, 101, 110, 116, 45, 76, 69, 78, 71, 84, 72]⟩ : ByteArray), (⟨#[51]⟩ : ByteArray)⟩ : S27)] : List (S27))) (inner := [.string (⟨#[65, 45, 98]⟩ : ByteArray), .string (⟨#[120, 32, 121]⟩ : ByteArray), .string (⟨#[67, 111, 110, 116, 101, 110, 116, 45, 76, 69, 78, 71, 84, 72]⟩ : ByteArray), .string (⟨#[51]⟩ : ByteArray)]) (ok := fun _ => True) (okp := fun _ => True) ?hr ?hp (fun _ hk => hk) trivial (Below.refl _ _) (Nat.le_refl _) (by simp) ?_; (case hd => rfl); (case hg => rfl); (case hr => first | (go_simp; done) | (go_simp; rfl)); (case hp => exact (Reps.c2 (show Kd.M k27 _ _ _ (⟨(⟨#[65, 45, 98]⟩ : ByteArray), (⟨#[120, 32, 121]⟩ : ByteArray)⟩ : S27) [.string (⟨#[65, 45, 98]⟩ : ByteArray), .string (⟨#[120, 32, 121]⟩ : ByteArray)] from (k27_mkM _ _ _ (⟨(⟨#[65, 45, 98]⟩ : ByteArray), (⟨#[120, 32, 121]⟩ : ByteArray)⟩ : S27) )) (Reps.c2 (show Kd.M k27 _ _ _ (⟨(⟨#[67, 111, 110, 116, 101, 110, 116, 45, 76, 69, 78, 71, 84, 72]⟩ : ByteArray), (⟨#[51]⟩ : ByteArray)⟩ : S27) [.string (⟨#[67, 111, 110, 116, 101, 110, 116, 45, 76, 69, 78, 71, 84, 72]⟩ : ByteArray), .string (⟨#[51]⟩ : ByteArray)] from (k27_mkM _ _ _ (⟨(⟨#[67, 111, 110, 116, 101, 110, 116, 45, 76, 69, 78, 71, 84, 72]⟩ : ByteArray), (⟨#[51]⟩ : ByteArray)⟩ : S27) )) (Reps.none _ _)))); intro v177 w15 ho16 hb hg_ hnew_; clear hg_ hnew_; (first | rw [← Ny176.out] at ho16 | (simp only [Int.reduceToNat] at ho16; rw [← Ny176.out] at ho16)); have n0_ := Aside0.mk (Kd.R_elder' (by (with_reducible repeat (first | apply Kd.R_alloc | apply Kd.R_drewN | apply Kd.R_drew)); exact (Kd.R_mono (Kd.R_far (p := ⟨gb175, 3, none⟩) (Kd.R_far (p := ⟨gb175, 2, none⟩) (Kd.R_far (p := ⟨gb175, 1, none⟩) (Kd.R_far (p := ⟨gb175, 0, none⟩) (Kd.R_types HO171.out BK175.out (by decide)) (fun _ hk => hk.2) (.int .i64 t168)) (fun _ hk => hk.2) (.slice Ao7 t169.length co7)) (fun _ hk => hk.2) (.string t172)) (fun _ hk => hk.2) (.bool false)) (fun _ h_ => h_.1))) (Kd.R_base ho16) hb); have n1_ := Aside0.mk (Kd.R_lower (Kd.R_new' ho16 (Kd.R_lt (by (with_reducible repeat (first | apply Kd.R_alloc | apply Kd.R_drewN | apply Kd.R_drew)); exact (Kd.R_mono (Kd.R_far (p := ⟨gb175, 3, none⟩) (Kd.R_far (p := ⟨gb175, 2, none⟩) (Kd.R_far (p := ⟨gb175, 1, none⟩) (Kd.R_far (p := ⟨gb175, 0, none⟩) (Kd.R_types HO171.out BK175.out (by decide)) (fun _ hk => hk.2) (.int .i64 t168)) (fun _ hk => hk.2) (.slice Ao7 t169.length co7)) (fun _ hk => hk.2) (.string t172)) (fun _ hk => hk.2) (.bool false)) (fun _ h_ => h_.1))))) (below_size (by repeat (first | (with_reducible first | exact HB.out | apply below_alloc | apply pw_below_drewN | apply below_drew1 | refine below_set ?_ GE175.out) | exact HB.out)))); have n2_ := Aside0.mk (blk_below (g := gb175) (o := .cells #[.int .i64 t168, .slice Ao7 t169.length co7, .string t172, .bool false] 29 (0, 0)) (by (with_reducible repeat (first | refine blk_drewN ?_ _ | refine blk_drew ?_ | refine blk_alloc ?_ _)); refine blk_put (cs := #[.int .i64 t168, .slice Ao7 t169.length co7, .string t172, .bool false]) ?_ 3 _ rfl; (with_reducible repeat (first | refine blk_drewN ?_ _ | refine blk_drew ?_ | refine blk_alloc ?_ _)); refine blk_put (cs := #[.int .i64 t168, .slice Ao7 t169.length co7, .string (⟨#[]⟩ : ByteArray), .bool false]) ?_ 2 _ rfl; (with_reducible repeat (first | refine blk_drewN ?_ _ | refine blk_drew ?_ | refine blk_alloc ?_ _)); refine blk_put (cs := #[.int .i64 t168, .slice none 0 0, .string (⟨#[]⟩ : ByteArray), .bool false]) ?_ 1 _ rfl; (with_reducible repeat (first | refine blk_drewN ?_ _ | refine blk_drew ?_ | refine blk_alloc ?_ _)); refine blk_put (cs := #[.int .i64 0, .slice none 0 0, .string (⟨#[]⟩ : ByteArray), .bool false]) ?_ 0 _ rfl; (with_reducible repeat (first | refine blk_drewN ?_ _ | refine blk_drew ?_ | refine blk_alloc ?_ _)); exact BK175.out) hb); have n3_ := Aside0.mk (below_step (by repeat (first | (with_reducible first | exact HB.out | apply below_alloc | apply pw_below_drewN | apply below_drew1 | refine below_set ?_ GE175.out) | exact HB.out)) hb); clear HO171; clear BK175; clear HB; have HO171 := n0_; have HO178 := n1_; have BK175 := n2_; have HB := n3_; clear n0_ n1_ n2_ n3_; clear hb ho16; obtain ⟨Ao17, co17, eo17⟩ := Kd.R_slice HO178.out; subst eo17) | (go_at_call 15; (with_reducible refine (api_Head.calls k _ _ t169 _ _ y176 t179 _ ?side1 ?side2 ?side3 ?side4 A13.out).mono ?_); (case side1 => repeat (first | exact (Kd.R_reads' HO171.out).2.2 | (with_reducible refine Kd.C_alloc ?_ _) | (with_reducible refine Kd.C_drewN ?_ _) | (with_reducible refine Kd.C_drew ?_))); (case side2 => exact (Kd.R_reads' HO171.out).2.1); (case side3 => repeat (first | exact (Kd.R_reads' HO178.out).2.2 | (with_reducible refine Kd.C_alloc ?_ _) | (with_reducible refine Kd.C_drewN ?_ _) | (with_reducible refine Kd.C_drew ?_))); (case side4 => exact (Kd.R_reads' HO178.out).2.1); rintro e w' ⟨rfl, ⟨nd, rfl⟩⟩))
            go_meet
            case rel => exact ⟨_, (!t179), (by first | rfl | (simp; done) | (simp [*]; done) | (congr 1; cases (_ : List UInt8) <;> rfl) | (rw [← List.isEmpty_iff]; simp) | (simp only [Value.bool.injEq]; generalize ByteArray.toList _ = l_; cases l_ <;> rfl) | (generalize ByteArray.toList _ = l_; cases l_ <;> rfl)), H', ⟨by first | omega | exact Nat.le_refl _⟩, ⟨by (with_reducible repeat (first | apply Kd.R_alloc | apply Kd.R_drewN | apply Kd.R_drew)); exact Kd.R_mono HO171.out (fun _ hk => trivial)⟩, ⟨by (with_reducible repeat (first | refine blk_drewN ?_ _ | refine blk_drew ?_ | refine blk_alloc ?_ _)); exact BK175.out⟩, ⟨by repeat (first | (with_reducible first | exact HB.out | apply below_alloc | apply pw_below_drewN | apply below_drew1 | refine below_set ?_ GE175.out) | exact HB.out)⟩⟩
        · rw [if_neg c10] at H
          have c10b0 : (t172.toList == ([104, 101, 108] : List UInt8)) = false := beq_eq_false_iff_ne.mpr c10
          have c10b1 : (t172.toList != ([104, 101, 108] : List UInt8)) = true := bne_iff_ne.mpr c10
          have H' := Aside0.mk H
          clear H
          have hcz18_0 : w5.cell? ⟨gb175, 0, none⟩ = some (.int .i64 0) := (blk_cell BK175.out 0).trans rfl
          have hcz18_1 : w5.cell? ⟨gb175, 1, none⟩ = some (.slice none 0 0) := (blk_cell BK175.out 1).trans rfl
          have hcz18_2 : w5.cell? ⟨gb175, 2, none⟩ = some (.string (⟨#[]⟩ : ByteArray)) := (blk_cell BK175.out 2).trans rfl
          have hcz18_3 : w5.cell? ⟨gb175, 3, none⟩ = some (.bool false) := (blk_cell BK175.out 3).trans rfl
          have hfz18_0 := blk_frozen BK175.out 0
          have hfz18_1 := blk_frozen BK175.out 1
          have hfz18_2 := blk_frozen BK175.out 2
          have hfz18_3 := blk_frozen BK175.out 3
          go_wp2
          go_meet
          case rel => exact ⟨_, (true), (by first | rfl | (simp; done) | (simp [*]; done) | (congr 1; cases (_ : List UInt8) <;> rfl) | (rw [← List.isEmpty_iff]; simp) | (simp only [Value.bool.injEq]; generalize ByteArray.toList _ = l_; cases l_ <;> rfl) | (generalize ByteArray.toList _ = l_; cases l_ <;> rfl)), H', ⟨by first | omega | exact Nat.le_refl _⟩, ⟨by (with_reducible repeat (first | apply Kd.R_alloc | apply Kd.R_drewN | apply Kd.R_drew)); exact Kd.R_mono (Kd.R_far (p := ⟨gb175, 3, none⟩) (Kd.R_far (p := ⟨gb175, 2, none⟩) (Kd.R_far (p := ⟨gb175, 1, none⟩) (Kd.R_far (p := ⟨gb175, 0, none⟩) (Kd.R_types HO171.out BK175.out (by decide)) (fun _ hk => hk.2) (.int .i64 t168)) (fun _ hk => hk.2) (.slice Ao7 t169.length co7)) (fun _ hk => hk.2) (.string t172)) (fun _ hk => hk.2) (.bool t173)) (fun _ hk => trivial)⟩, ⟨by (with_reducible repeat (first | refine blk_drewN ?_ _ | refine blk_drew ?_ | refine blk_alloc ?_ _)); refine blk_put (cs := #[.int .i64 t168, .slice Ao7 t169.length co7, .string t172, .bool false]) ?_ 3 _ rfl; (with_reducible repeat (first | refine blk_drewN ?_ _ | refine blk_drew ?_ | refine blk_alloc ?_ _)); refine blk_put (cs := #[.int .i64 t168, .slice Ao7 t169.length co7, .string (⟨#[]⟩ : ByteArray), .bool false]) ?_ 2 _ rfl; (with_reducible repeat (first | refine blk_drewN ?_ _ | refine blk_drew ?_ | refine blk_alloc ?_ _)); refine blk_put (cs := #[.int .i64 t168, .slice none 0 0, .string (⟨#[]⟩ : ByteArray), .bool false]) ?_ 1 _ rfl; (with_reducible repeat (first | refine blk_drewN ?_ _ | refine blk_drew ?_ | refine blk_alloc ?_ _)); refine blk_put (cs := #[.int .i64 0, .slice none 0 0, .string (⟨#[]⟩ : ByteArray), .bool false]) ?_ 0 _ rfl; (with_reducible repeat (first | refine blk_drewN ?_ _ | refine blk_drew ?_ | refine blk_alloc ?_ _)); exact BK175.out⟩, ⟨by repeat (first | (with_reducible first | exact HB.out | apply below_alloc | apply pw_below_drewN | apply below_drew1 | refine below_set ?_ GE175.out) | exact HB.out)⟩⟩
      · rw [if_neg c9] at H
        have c9b0 : (t168 == 404) = false := beq_eq_false_iff_ne.mpr c9
        have c9b1 : (t168 != 404) = true := bne_iff_ne.mpr c9
        have H' := Aside0.mk H
        clear H
        have hcz19_0 : w5.cell? ⟨gb175, 0, none⟩ = some (.int .i64 0) := (blk_cell BK175.out 0).trans rfl
        have hcz19_1 : w5.cell? ⟨gb175, 1, none⟩ = some (.slice none 0 0) := (blk_cell BK175.out 1).trans rfl
        have hcz19_2 : w5.cell? ⟨gb175, 2, none⟩ = some (.string (⟨#[]⟩ : ByteArray)) := (blk_cell BK175.out 2).trans rfl
        have hcz19_3 : w5.cell? ⟨gb175, 3, none⟩ = some (.bool false) := (blk_cell BK175.out 3).trans rfl
        have hfz19_0 := blk_frozen BK175.out 0
        have hfz19_1 := blk_frozen BK175.out 1
        have hfz19_2 := blk_frozen BK175.out 2
        have hfz19_3 := blk_frozen BK175.out 3
        go_wp2
        go_meet
        case rel => exact ⟨_, (true), (by first | rfl | (simp; done) | (simp [*]; done) | (congr 1; cases (_ : List UInt8) <;> rfl) | (rw [← List.isEmpty_iff]; simp) | (simp only [Value.bool.injEq]; generalize ByteArray.toList _ = l_; cases l_ <;> rfl) | (generalize ByteArray.toList _ = l_; cases l_ <;> rfl)), H', ⟨by first | omega | exact Nat.le_refl _⟩, ⟨by (with_reducible repeat (first | apply Kd.R_alloc | apply Kd.R_drewN | apply Kd.R_drew)); exact Kd.R_mono (Kd.R_far (p := ⟨gb175, 3, none⟩) (Kd.R_far (p := ⟨gb175, 2, none⟩) (Kd.R_far (p := ⟨gb175, 1, none⟩) (Kd.R_far (p := ⟨gb175, 0, none⟩) (Kd.R_types HO171.out BK175.out (by decide)) (fun _ hk => hk.2) (.int .i64 t168)) (fun _ hk => hk.2) (.slice Ao7 t169.length co7)) (fun _ hk => hk.2) (.string t172)) (fun _ hk => hk.2) (.bool t173)) (fun _ hk => trivial)⟩, ⟨by (with_reducible repeat (first | refine blk_drewN ?_ _ | refine blk_drew ?_ | refine blk_alloc ?_ _)); refine blk_put (cs := #[.int .i64 t168, .slice Ao7 t169.length co7, .string t172, .bool false]) ?_ 3 _ rfl; (with_reducible repeat (first | refine blk_drewN ?_ _ | refine blk_drew ?_ | refine blk_alloc ?_ _)); refine blk_put (cs := #[.int .i64 t168, .slice Ao7 t169.length co7, .string (⟨#[]⟩ : ByteArray), .bool false]) ?_ 2 _ rfl; (with_reducible repeat (first | refine blk_drewN ?_ _ | refine blk_drew ?_ | refine blk_alloc ?_ _)); refine blk_put (cs := #[.int .i64 t168, .slice none 0 0, .string (⟨#[]⟩ : ByteArray), .bool false]) ?_ 1 _ rfl; (with_reducible repeat (first | refine blk_drewN ?_ _ | refine blk_drew ?_ | refine blk_alloc ?_ _)); refine blk_put (cs := #[.int .i64 0, .slice none 0 0, .string (⟨#[]⟩ : ByteArray), .bool false]) ?_ 0 _ rfl; (with_reducible repeat (first | refine blk_drewN ?_ _ | refine blk_drew ?_ | refine blk_alloc ?_ _)); exact BK175.out⟩, ⟨by repeat (first | (with_reducible first | exact HB.out | apply below_alloc | apply pw_below_drewN | apply below_drew1 | refine below_set ?_ GE175.out) | exact HB.out)⟩⟩
    · rw [if_neg c8] at H
      have c8b0 : (t174 == 0) = false := beq_eq_false_iff_ne.mpr c8
      have c8b1 : (t174 != 0) = true := bne_iff_ne.mpr c8
      (first | rw [c8b0] | (simp only [i64_w, i32_w]; rw [c8b0]) | skip)
      have H' := Aside0.mk H
      clear H
      go_wp2
      go_meet
      case rel => exact ⟨_, (true), (by first | rfl | (simp; done) | (simp [*]; done) | (congr 1; cases (_ : List UInt8) <;> rfl) | (rw [← List.isEmpty_iff]; simp) | (simp only [Value.bool.injEq]; generalize ByteArray.toList _ = l_; cases l_ <;> rfl) | (generalize ByteArray.toList _ = l_; cases l_ <;> rfl)), H', ⟨by first | omega | exact Nat.le_refl _⟩, ⟨by (with_reducible repeat (first | apply Kd.R_alloc | apply Kd.R_drewN | apply Kd.R_drew)); exact Kd.R_mono (Kd.R_far (p := ⟨gb175, 3, none⟩) (Kd.R_far (p := ⟨gb175, 2, none⟩) (Kd.R_far (p := ⟨gb175, 1, none⟩) (Kd.R_far (p := ⟨gb175, 0, none⟩) (Kd.R_types HO171.out BK175.out (by decide)) (fun _ hk => hk.2) (.int .i64 t168)) (fun _ hk => hk.2) (.slice Ao7 t169.length co7)) (fun _ hk => hk.2) (.string t172)) (fun _ hk => hk.2) (.bool t173)) (fun _ hk => trivial)⟩, ⟨by (with_reducible repeat (first | refine blk_drewN ?_ _ | refine blk_drew ?_ | refine blk_alloc ?_ _)); refine blk_put (cs := #[.int .i64 t168, .slice Ao7 t169.length co7, .string t172, .bool false]) ?_ 3 _ rfl; (with_reducible repeat (first | refine blk_drewN ?_ _ | refine blk_drew ?_ | refine blk_alloc ?_ _)); refine blk_put (cs := #[.int .i64 t168, .slice Ao7 t169.length co7, .string (⟨#[]⟩ : ByteArray), .bool false]) ?_ 2 _ rfl; (with_reducible repeat (first | refine blk_drewN ?_ _ | refine blk_drew ?_ | refine blk_alloc ?_ _)); refine blk_put (cs := #[.int .i64 t168, .slice none 0 0, .string (⟨#[]⟩ : ByteArray), .bool false]) ?_ 1 _ rfl; (with_reducible repeat (first | refine blk_drewN ?_ _ | refine blk_drew ?_ | refine blk_alloc ?_ _)); refine blk_put (cs := #[.int .i64 0, .slice none 0 0, .string (⟨#[]⟩ : ByteArray), .bool false]) ?_ 0 _ rfl; (with_reducible repeat (first | refine blk_drewN ?_ _ | refine blk_drew ?_ | refine blk_alloc ?_ _)); exact BK175.out⟩, ⟨by repeat (first | (with_reducible first | exact HB.out | apply below_alloc | apply pw_below_drewN | apply below_drew1 | refine below_set ?_ GE175.out) | exact HB.out)⟩⟩
  case rest =>
    clear HC3
    try clear c1
    try clear c2
    try clear p2
    try clear c8
    try clear c8b0
    try clear c8b1
    try clear c9
    try clear c9b0
    try clear c9b1
    try clear c10
    try clear c10b0
    try clear c10b1
    try clear c11
    try clear c13
    try clear hcz12_0
    try clear hcz12_1
    try clear hcz12_2
    try clear hcz12_3
    try clear hcz14_0
    try clear hcz14_1
    try clear hcz14_2
    try clear hcz14_3
    try clear hcz18_0
    try clear hcz18_1
    try clear hcz18_2
    try clear hcz18_3
    try clear hcz19_0
    try clear hcz19_1
    try clear hcz19_2
    try clear hcz19_3
    try clear hcz6_0
    try clear hcz6_1
    try clear hcz6_2
    try clear hcz6_3
    try clear hfz12_0
    try clear hfz12_1
    try clear hfz12_2
    try clear hfz12_3
    try clear hfz14_0
    try clear hfz14_1
    try clear hfz14_2
    try clear hfz14_3
    try clear hfz18_0
    try clear hfz18_1
    try clear hfz18_2
    try clear hfz18_3
    try clear hfz19_0
    try clear hfz19_1
    try clear hfz19_2
    try clear hfz19_3
    try clear hfz6_0
    try clear hfz6_1
    try clear hfz6_2
    try clear hfz6_3
    obtain ⟨kq, x42_2, rfl, HA, HJ2, HO_176001, BK175, HB⟩ := hcut
    cases kq with
    | zero => exact absurd HA.out (by simp [postilionlaw09_ReplyForms.j0])
    | succ kj2 =>
      have H := HA.out
      clear HA
      simp only [postilionlaw09_ReplyForms.j0] at H
      by_cases c20 : x42_2 = true
      · subst c20
        have H1 : (some false) = some r := by rw [if_pos rfl] at H; exact H
        clear H
        have H := H1
        clear H1
        obtain rfl := Option.some.inj H
        cases hT
      · replace c20 := Bool.eq_false_iff.mpr c20
        subst c20
        have H1 : ((reply_Print.f kj2 t168 t169 t172 t173).bind fun t180 => (if t180.toList = ([72, 84, 84, 80, 47, 49, 46, 49, 32, 52, 48, 52, 32, 45, 13, 10, 65, 45, 98, 58, 32, 120, 32, 121, 13, 10, 67, 111, 110, 116, 101, 110, 116, 45, 76, 69, 78, 71, 84, 72, 58, 32, 51, 13, 10, 13, 10, 104, 101, 108] : List UInt8) then ((reply_Parse.f kj2 (⟨#[72, 84, 84, 80, 47, 49, 46, 49, 32, 49, 48, 48, 32, 13, 10, 99, 111, 110, 116, 101, 110, 116, 45, 108, 101, 110, 103, 116, 104, 58, 32, 48, 48, 48, 48, 48, 57, 13, 10, 120, 58, 13, 10, 13, 10, 97, 98]⟩ : ByteArray)).bind fun bt181 => (if bt181.2.2.2.2 = 0 then (if bt181.1 = 100 then (if bt181.2.2.2.1 = true then (if bt181.2.2.1.toList = ([97, 98] : List UInt8) then (if (bt181.2.1.length : Int) = 2 then (if 1 < (bt181.2.1.length : Int) then (postilionlaw09_ReplyForms.j1 kj2 a0 (((rd_T27 bt181.2.1 1).f1).toList != ([] : List UInt8))) else (none)) else (postilionlaw09_ReplyForms.j1 kj2 a0 true)) else (postilionlaw09_ReplyForms.j1 kj2 a0 true)) else (postilionlaw09_ReplyForms.j1 kj2 a0 true)) else (postilionlaw09_ReplyForms.j1 kj2 a0 true)) else (postilionlaw09_ReplyForms.j1 kj2 a0 true))) else (some false))) = some r := by rw [if_neg (show ¬ (false = true) by decide)] at H; exact H
        clear H
        have H := H1
        clear H1
        replace H := Option.bind_eq_some_iff.mp H
        obtain ⟨t180, A210, H⟩ := H
        replace H : (if t180.toList = ([72, 84, 84, 80, 47, 49, 46, 49, 32, 52, 48, 52, 32, 45, 13, 10, 65, 45, 98, 58, 32, 120, 32, 121, 13, 10, 67, 111, 110, 116, 101, 110, 116, 45, 76, 69, 78, 71, 84, 72, 58, 32, 51, 13, 10, 13, 10, 104, 101, 108] : List UInt8) then ((reply_Parse.f kj2 (⟨#[72, 84, 84, 80, 47, 49, 46, 49, 32, 49, 48, 48, 32, 13, 10, 99, 111, 110, 116, 101, 110, 116, 45, 108, 101, 110, 103, 116, 104, 58, 32, 48, 48, 48, 48, 48, 57, 13, 10, 120, 58, 13, 10, 13, 10, 97, 98]⟩ : ByteArray)).bind fun bt181 => (if bt181.2.2.2.2 = 0 then (if bt181.1 = 100 then (if bt181.2.2.2.1 = true then (if bt181.2.2.1.toList = ([97, 98] : List UInt8) then (if (bt181.2.1.length : Int) = 2 then (if 1 < (bt181.2.1.length : Int) then (postilionlaw09_ReplyForms.j1 kj2 a0 (((rd_T27 bt181.2.1 1).f1).toList != ([] : List UInt8))) else (none)) else (postilionlaw09_ReplyForms.j1 kj2 a0 true)) else (postilionlaw09_ReplyForms.j1 kj2 a0 true)) else (postilionlaw09_ReplyForms.j1 kj2 a0 true)) else (postilionlaw09_ReplyForms.j1 kj2 a0 true)) else (postilionlaw09_ReplyForms.j1 kj2 a0 true))) else (some false)) = some r := H
        have A21 := Aside0.mk A210
        clear A210
        by_cases c22 : t180.toList = ([72, 84, 84, 80, 47, 49, 46, 49, 32, 52, 48, 52, 32, 45, 13, 10, 65, 45, 98, 58, 32, 120, 32, 121, 13, 10, 67, 111, 110, 116, 101, 110, 116, 45, 76, 69, 78, 71, 84, 72, 58, 32, 51, 13, 10, 13, 10, 104, 101, 108] : List UInt8)
        · rw [if_pos c22] at H
          have c22b0 : (t180.toList == ([72, 84, 84, 80, 47, 49, 46, 49, 32, 52, 48, 52, 32, 45, 13, 10, 65, 45, 98, 58, 32, 120, 32, 121, 13, 10, 67, 111, 110, 116, 101, 110, 116, 45, 76, 69, 78, 71, 84, 72, 58, 32, 51, 13, 10, 13, 10, 104, 101, 108] : List UInt8)) = true := beq_iff_eq.mpr c22
          have c22b1 : (t180.toList != ([72, 84, 84, 80, 47, 49, 46, 49, 32, 52, 48, 52, 32, 45, 13, 10, 65, 45, 98, 58, 32, 120, 32, 121, 13, 10, 67, 111, 110, 116, 101, 110, 116, 45, 76, 69, 78, 71, 84, 72, 58, 32, 51, 13, 10, 13, 10, 104, 101, 108] : List UInt8)) = false := bne_eq_false_iff_eq.mpr c22
          clear c22
          replace H := Option.bind_eq_some_iff.mp H
          obtain ⟨⟨t181, t182, t185, t186, t187⟩, A230, H⟩ := H
          replace H : (if t187 = 0 then (if t181 = 100 then (if t186 = true then (if t185.toList = ([97, 98] : List UInt8) then (if (t182.length : Int) = 2 then (if 1 < (t182.length : Int) then (postilionlaw09_ReplyForms.j1 kj2 a0 (((rd_T27 t182 1).f1).toList != ([] : List UInt8))) else (none)) else (postilionlaw09_ReplyForms.j1 kj2 a0 true)) else (postilionlaw09_ReplyForms.j1 kj2 a0 true)) else (postilionlaw09_ReplyForms.j1 kj2 a0 true)) else (postilionlaw09_ReplyForms.j1 kj2 a0 true)) else (postilionlaw09_ReplyForms.j1 kj2 a0 true)) = some r := H
          have A23 := Aside0.mk A230
          clear A230
          have HC24 := Aside0.mk H
          clear H
          have hcz25_0 : wc.cell? ⟨gb175, 0, none⟩ = some (.int .i64 t168) := (blk_cell BK175.out 0).trans rfl
          have hcz25_1 : wc.cell? ⟨gb175, 1, none⟩ = some (.slice Ao7 t169.length co7) := (blk_cell BK175.out 1).trans rfl
          have hcz25_2 : wc.cell? ⟨gb175, 2, none⟩ = some (.string t172) := (blk_cell BK175.out 2).trans rfl
          have hcz25_3 : wc.cell? ⟨gb175, 3, none⟩ = some (.bool t173) := (blk_cell BK175.out 3).trans rfl
          have hfz25_0 := blk_frozen BK175.out 0
          have hfz25_1 := blk_frozen BK175.out 1
          have hfz25_2 := blk_frozen BK175.out 2
          have hfz25_3 := blk_frozen BK175.out 3
          go_upto_region 7 with (first | ((with_reducible refine gate_callee (f := 29) rfl ?_); refine goesL_ (some 44) rfl rfl Tryd.func29 (by kernel_rfl) rfl #[.agg #[.int .i64 t168, .slice Ao7 t169.length co7, .string t172, .bool t173]] rfl (by (try simp only [List.map_toArray, List.map_cons, List.map_nil]); first | done | rfl | (simp only [List.length_drop, List.length_take]; rfl)) ?_; (with_reducible refine (reply_Print.calls kj2 t168 _ _ t169 t172 t173 t180 _ ?side1 ?side2 ?side3 A21.out).mono ?_); (case side1 => exact Gl.below hG (by repeat (first | (with_reducible first | exact HB.out | apply below_alloc | apply pw_below_drewN | apply below_drew1 | refine below_set ?_ GE175.out) | exact HB.out))); (case side2 => repeat (first | exact (Kd.R_reads' HO_176001.out).2.2 | (with_reducible refine Kd.C_alloc ?_ _) | (with_reducible refine Kd.C_drewN ?_ _) | (with_reducible refine Kd.C_drew ?_))); (case side3 => exact (Kd.R_reads' HO_176001.out).2.1); rintro e w26 ⟨rfl, hb⟩; refine ⟨_, rfl, ?_⟩; have n0_ := Aside0.mk (Kd.R_below (by (with_reducible repeat (first | apply Kd.R_alloc | apply Kd.R_drewN | apply Kd.R_drew)); exact HO_176001.out) hb); have n1_ := Aside0.mk (blk_below (g := gb175) (o := .cells #[.int .i64 t168, .slice Ao7 t169.length co7, .string t172, .bool t173] 29 (0, 0)) (by (with_reducible repeat (first | refine blk_drewN ?_ _ | refine blk_drew ?_ | refine blk_alloc ?_ _)); exact BK175.out) hb); have n2_ := Aside0.mk (below_step (by repeat (first | (with_reducible first | exact HB.out | apply below_alloc | apply pw_below_drewN | apply below_drew1 | refine below_set ?_ GE175.out) | exact HB.out)) hb); clear HO_176001; clear BK175; clear HB; have HO_176001 := n0_; have BK175 := n1_; have HB := n2_; clear n0_ n1_ n2_; (try clear hb); (try clear hb2); (try clear hk); (try clear hi)) | ((with_reducible refine gate_callee (f := 13) rfl ?_); refine goesL_ (some 47) rfl rfl Tryd.func13 (by kernel_rfl) rfl #[.string (⟨#[72, 84, 84, 80, 47, 49, 46, 49, 32, 49, 48, 48, 32, 13, 10, 99, 111, 110, 116, 101, 110, 116, 45, 108, 101, 110, 103, 116, 104, 58, 32, 48, 48, 48, 48, 48, 57, 13, 10, 120, 58, 13, 10, 13, 10, 97, 98]⟩ : ByteArray)] rfl (by (try simp only [List.map_toArray, List.map_cons, List.map_nil]); first | done | rfl | (simp only [List.length_drop, List.length_take]; rfl)) ?_; (with_reducible refine (reply_Parse.calls kj2 (⟨#[72, 84, 84, 80, 47, 49, 46, 49, 32, 49, 48, 48, 32, 13, 10, 99, 111, 110, 116, 101, 110, 116, 45, 108, 101, 110, 103, 116, 104, 58, 32, 48, 48, 48, 48, 48, 57, 13, 10, 120, 58, 13, 10, 13, 10, 97, 98]⟩ : ByteArray) t181 t182 t185 t186 t187 _ ?side1 A23.out).mono ?_); (case side1 => exact Gl.below hG (by repeat (first | (with_reducible first | exact HB.out | apply below_alloc | apply pw_below_drewN | apply below_drew1 | refine below_set ?_ GE175.out) | exact HB.out))); rintro e w27 ⟨v183, rfl, ho0, hb⟩; refine ⟨_, rfl, ?_⟩; have n0_ := Aside0.mk (Kd.R_elder' (by (with_reducible repeat (first | apply Kd.R_alloc | apply Kd.R_drewN | apply Kd.R_drew)); exact HO_176001.out) (Kd.R_base ho0) hb); have n1_ := Aside0.mk (Kd.R_lower (Kd.R_new' ho0 (Kd.R_lt (by (with_reducible repeat (first | apply Kd.R_alloc | apply Kd.R_drewN | apply Kd.R_drew)); exact HO_176001.out))) (below_size (by repeat (first | (with_reducible first | exact HB.out | apply below_alloc | apply pw_below_drewN | apply below_drew1 | refine below_set ?_ GE175.out) | exact HB.out)))); have n2_ := Aside0.mk (blk_below (g := gb175) (o := .cells #[.int .i64 t168, .slice Ao7 t169.length co7, .string t172, .bool t173] 29 (0, 0)) (by (with_reducible repeat (first | refine blk_drewN ?_ _ | refine blk_drew ?_ | refine blk_alloc ?_ _)); exact BK175.out) hb); have n3_ := Aside0.mk (below_step (by repeat (first | (with_reducible first | exact HB.out | apply below_alloc | apply pw_below_drewN | apply below_drew1 | refine below_set ?_ GE175.out) | exact HB.out)) hb); clear HO_176001; clear BK175; clear HB; have HO_176001 := n0_; have HO184 := n1_; have BK175 := n2_; have HB := n3_; clear n0_ n1_ n2_ n3_; (try clear hb); (try clear hb2); (try clear hk); (try clear hi); (try clear ho0); have hcz28_0 : w27.cell? ⟨gb175, 0, none⟩ = some (.int .i64 t168) := (blk_cell BK175.out 0).trans rfl; have hcz28_1 : w27.cell? ⟨gb175, 1, none⟩ = some (.slice Ao7 t169.length co7) := (blk_cell BK175.out 1).trans rfl; have hcz28_2 : w27.cell? ⟨gb175, 2, none⟩ = some (.string t172) := (blk_cell BK175.out 2).trans rfl; have hcz28_3 : w27.cell? ⟨gb175, 3, none⟩ = some (.bool t173) := (blk_cell BK175.out 3).trans rfl; have hfz28_0 := blk_frozen BK175.out 0; have hfz28_1 := blk_frozen BK175.out 1; have hfz28_2 := blk_frozen BK175.out 2; have hfz28_3 := blk_frozen BK175.out 3; obtain ⟨Ao29, co29, eo29⟩ := Kd.R_slice HO184.out; subst eo29))
          (try simp only [Act.put, List.setIfInBounds_toArray, List.set_cons_zero, List.set_cons_succ])
          go_cut [80] (fun v80 wc => ∃ (kq : Nat) (x80_23 : Bool), v80 = .bool x80_23 ∧ Aside0 (postilionlaw09_ReplyForms.j1 kq a0 x80_23 = some r) ∧ Aside0 (kq ≤ kj2) ∧ Aside0 (Kd.R k27 27 wc w.heap.size (fun _ => True) (.slice Ao29 t182.length co29) t182) ∧ Aside0 (wc.heap[gb175]? = some (.cells #[.int .i64 t181, (.slice Ao29 t182.length co29), .string t185, .bool t186] 29 (0, 0))) ∧ Aside0 (Below w.heap.size w wc))
          case first =>
            have H := HC24.out
            clear HC24
            by_cases c30 : t187 = 0
            · rw [if_pos c30] at H
              have c30b0 : (t187 == 0) = true := beq_iff_eq.mpr c30
              have c30b1 : (t187 != 0) = false := bne_eq_false_iff_eq.mpr c30
              clear c30
              (first | rw [c30b0] | (simp only [i64_w, i32_w]; rw [c30b0]) | skip)
              by_cases c31 : t181 = 100
              · rw [if_pos c31] at H
                have c31b0 : (t181 == 100) = true := beq_iff_eq.mpr c31
                have c31b1 : (t181 != 100) = false := bne_eq_false_iff_eq.mpr c31
                clear c31
                by_cases c32 : t186 = true
                · subst c32
                  have H1 : (if t185.toList = ([97, 98] : List UInt8) then (if (t182.length : Int) = 2 then (if 1 < (t182.length : Int) then (postilionlaw09_ReplyForms.j1 kj2 a0 (((rd_T27 t182 1).f1).toList != ([] : List UInt8))) else (none)) else (postilionlaw09_ReplyForms.j1 kj2 a0 true)) else (postilionlaw09_ReplyForms.j1 kj2 a0 true)) = some r := by rw [if_pos rfl] at H; exact H
                  clear H
                  have H := H1
                  clear H1
                  by_cases c33 : t185.toList = ([97, 98] : List UInt8)
                  · rw [if_pos c33] at H
                    have c33b0 : (t185.toList == ([97, 98] : List UInt8)) = true := beq_iff_eq.mpr c33
                    have c33b1 : (t185.toList != ([97, 98] : List UInt8)) = false := bne_eq_false_iff_eq.mpr c33
                    clear c33
                    by_cases c34 : (t182.length : Int) = 2
                    · rw [if_pos c34] at H
                      have c34b0 : ((t182.length : Int) == 2) = true := beq_iff_eq.mpr c34
                      have c34b1 : ((t182.length : Int) != 2) = false := bne_eq_false_iff_eq.mpr c34
                      clear c34
                      by_cases c35 : 1 < (t182.length : Int)
                      · rw [if_pos c35] at H
                        have c35b0 : decide (1 < (t182.length : Int)) = true := decide_eq_true c35
                        have c35b1 : decide (1 < t182.length) = true := decide_eq_true (by omega)
                        clear c35
                        have H' := Aside0.mk H
                        clear H
                        have hcz36_0 : w27.cell? ⟨gb175, 0, none⟩ = some (.int .i64 t168) := (blk_cell BK175.out 0).trans rfl
                        have hcz36_1 : w27.cell? ⟨gb175, 1, none⟩ = some (.slice Ao7 t169.length co7) := (blk_cell BK175.out 1).trans rfl
                        have hcz36_2 : w27.cell? ⟨gb175, 2, none⟩ = some (.string t172) := (blk_cell BK175.out 2).trans rfl
                        have hcz36_3 : w27.cell? ⟨gb175, 3, none⟩ = some (.bool t173) := (blk_cell BK175.out 3).trans rfl
                        have hfz36_0 := blk_frozen BK175.out 0
                        have hfz36_1 := blk_frozen BK175.out 1
                        have hfz36_2 := blk_frozen BK175.out 2
                        have hfz36_3 := blk_frozen BK175.out 3
                        have p188 : 0 ≤ (1 : Int) := (by omega)
                        have q188 : 1 < (t182.length : Int) := of_decide_eq_true (by first | (with_reducible assumption) | assumption)
                        obtain ⟨ad188, e188, hx188_0, hx188_1⟩ := at_T27 (Kd.R_reads' HO184.out).2.2 1 p188 q188
                        cases e188
                        (try simp only [show (1 : Int).toNat = 1 from rfl, Nat.reduceMul, Nat.reduceEqDiff, Go.Addr.add, ↓reduceIte] at hx188_0)
                        (try simp only [show (1 : Int).toNat = 1 from rfl, Nat.reduceMul, Nat.reduceEqDiff, Go.Addr.add, ↓reduceIte] at hx188_1)
                        have qi188 : (1 < t182.length) = True := eq_true (by omega)
                        (try rw [show ((1 : Int)).toNat = 1 from rfl] at hx188_0)
                        (try rw [show 1 * 2 = 2 from rfl] at hx188_0)
                        (try rw [show ((1 : Int)).toNat = 1 from rfl] at hx188_1)
                        (try rw [show 1 * 2 = 2 from rfl] at hx188_1)
                        have hn188_0 : ad188.block ≠ gb175 := Kd.own_blk (Kd.R_ne HO184.out BK175.out (by decide))
                        have hn188_1 : ad188.block ≠ gb175 := Kd.own_blk (Kd.R_ne HO184.out BK175.out (by decide))
                        have hn188_2 : ad188.block ≠ gb175 := Kd.own_blk (Kd.R_ne HO184.out BK175.out (by decide))
                        have hn188_3 : ad188.block ≠ gb175 := Kd.own_blk (Kd.R_ne HO184.out BK175.out (by decide))
                        replace hx188_0 := (cell_far (p := ⟨gb175, 0, none⟩) (by first | (rw [add_block]; exact hn188_0) | (show (Addr.add _ _).block ≠ _; rw [add_block]; exact hn188_0) | exact hn188_0) (.int .i64 t181)).trans hx188_0
                        replace hx188_1 := (cell_far (p := ⟨gb175, 0, none⟩) (by first | (rw [add_block]; exact hn188_0) | (show (Addr.add _ _).block ≠ _; rw [add_block]; exact hn188_0) | exact hn188_0) (.int .i64 t181)).trans hx188_1
                        replace hx188_0 := (cell_far (p := ⟨gb175, 1, none⟩) (by first | (rw [add_block]; exact hn188_1) | (show (Addr.add _ _).block ≠ _; rw [add_block]; exact hn188_1) | exact hn188_1) (.slice (some ad188) t182.length co29)).trans hx188_0
                        replace hx188_1 := (cell_far (p := ⟨gb175, 1, none⟩) (by first | (rw [add_block]; exact hn188_1) | (show (Addr.add _ _).block ≠ _; rw [add_block]; exact hn188_1) | exact hn188_1) (.slice (some ad188) t182.length co29)).trans hx188_1
                        replace hx188_0 := (cell_far (p := ⟨gb175, 2, none⟩) (by first | (rw [add_block]; exact hn188_2) | (show (Addr.add _ _).block ≠ _; rw [add_block]; exact hn188_2) | exact hn188_2) (.string t185)).trans hx188_0
                        replace hx188_1 := (cell_far (p := ⟨gb175, 2, none⟩) (by first | (rw [add_block]; exact hn188_2) | (show (Addr.add _ _).block ≠ _; rw [add_block]; exact hn188_2) | exact hn188_2) (.string t185)).trans hx188_1
                        replace hx188_0 := (cell_far (p := ⟨gb175, 3, none⟩) (by first | (rw [add_block]; exact hn188_3) | (show (Addr.add _ _).block ≠ _; rw [add_block]; exact hn188_3) | exact hn188_3) (.bool true)).trans hx188_0
                        replace hx188_1 := (cell_far (p := ⟨gb175, 3, none⟩) (by first | (rw [add_block]; exact hn188_3) | (show (Addr.add _ _).block ≠ _; rw [add_block]; exact hn188_3) | exact hn188_3) (.bool true)).trans hx188_1
                        clear hn188_0
                        clear hn188_1
                        clear hn188_2
                        clear hn188_3
                        replace p188 := eq_true p188
                        replace q188 := eq_true q188
                        go_wp2
                        go_meet
                        case rel => exact ⟨_, ((((rd_T27 t182 1).f1).toList != ([] : List UInt8))), (by first | rfl | (simp; done) | (simp [*]; done) | (congr 1; cases (_ : List UInt8) <;> rfl) | (rw [← List.isEmpty_iff]; simp) | (simp only [Value.bool.injEq]; generalize ByteArray.toList _ = l_; cases l_ <;> rfl) | (generalize ByteArray.toList _ = l_; cases l_ <;> rfl)), H', ⟨by have := HJ2.out; first | omega | exact Nat.le_refl _⟩, ⟨by (with_reducible repeat (first | apply Kd.R_alloc | apply Kd.R_drewN | apply Kd.R_drew)); exact Kd.R_mono (Kd.R_far (p := ⟨gb175, 3, none⟩) (Kd.R_far (p := ⟨gb175, 2, none⟩) (Kd.R_far (p := ⟨gb175, 1, none⟩) (Kd.R_far (p := ⟨gb175, 0, none⟩) (Kd.R_types HO184.out BK175.out (by decide)) (fun _ hk => hk.2) (.int .i64 t181)) (fun _ hk => hk.2) (.slice (some ad188) t182.length co29)) (fun _ hk => hk.2) (.string t185)) (fun _ hk => hk.2) (.bool true)) (fun _ hk => trivial)⟩, ⟨by (with_reducible repeat (first | refine blk_drewN ?_ _ | refine blk_drew ?_ | refine blk_alloc ?_ _)); refine blk_put (cs := #[.int .i64 t181, .slice (some ad188) t182.length co29, .string t185, .bool t173]) ?_ 3 _ rfl; (with_reducible repeat (first | refine blk_drewN ?_ _ | refine blk_drew ?_ | refine blk_alloc ?_ _)); refine blk_put (cs := #[.int .i64 t181, .slice (some ad188) t182.length co29, .string t172, .bool t173]) ?_ 2 _ rfl; (with_reducible repeat (first | refine blk_drewN ?_ _ | refine blk_drew ?_ | refine blk_alloc ?_ _)); refine blk_put (cs := #[.int .i64 t181, .slice Ao7 t169.length co7, .string t172, .bool t173]) ?_ 1 _ rfl; (with_reducible repeat (first | refine blk_drewN ?_ _ | refine blk_drew ?_ | refine blk_alloc ?_ _)); refine blk_put (cs := #[.int .i64 t168, .slice Ao7 t169.length co7, .string t172, .bool t173]) ?_ 0 _ rfl; (with_reducible repeat (first | refine blk_drewN ?_ _ | refine blk_drew ?_ | refine blk_alloc ?_ _)); exact BK175.out⟩, ⟨by repeat (first | (with_reducible first | exact HB.out | apply below_alloc | apply pw_below_drewN | apply below_drew1 | refine below_set ?_ GE175.out) | exact HB.out)⟩⟩
                      · rw [if_neg c35] at H
                        exact absurd H (by simp)
                    · rw [if_neg c34] at H
                      have c34b0 : ((t182.length : Int) == 2) = false := beq_eq_false_iff_ne.mpr c34
                      have c34b1 : ((t182.length : Int) != 2) = true := bne_iff_ne.mpr c34
                      have H' := Aside0.mk H
                      clear H
                      have hcz37_0 : w27.cell? ⟨gb175, 0, none⟩ = some (.int .i64 t168) := (blk_cell BK175.out 0).trans rfl
                      have hcz37_1 : w27.cell? ⟨gb175, 1, none⟩ = some (.slice Ao7 t169.length co7) := (blk_cell BK175.out 1).trans rfl
                      have hcz37_2 : w27.cell? ⟨gb175, 2, none⟩ = some (.string t172) := (blk_cell BK175.out 2).trans rfl
                      have hcz37_3 : w27.cell? ⟨gb175, 3, none⟩ = some (.bool t173) := (blk_cell BK175.out 3).trans rfl
                      have hfz37_0 := blk_frozen BK175.out 0
                      have hfz37_1 := blk_frozen BK175.out 1
                      have hfz37_2 := blk_frozen BK175.out 2
                      have hfz37_3 := blk_frozen BK175.out 3
                      go_wp2
                      go_meet
                      case rel => exact ⟨_, (true), (by first | rfl | (simp; done) | (simp [*]; done) | (congr 1; cases (_ : List UInt8) <;> rfl) | (rw [← List.isEmpty_iff]; simp) | (simp only [Value.bool.injEq]; generalize ByteArray.toList _ = l_; cases l_ <;> rfl) | (generalize ByteArray.toList _ = l_; cases l_ <;> rfl)), H', ⟨by have := HJ2.out; first | omega | exact Nat.le_refl _⟩, ⟨by (with_reducible repeat (first | apply Kd.R_alloc | apply Kd.R_drewN | apply Kd.R_drew)); exact Kd.R_mono (Kd.R_far (p := ⟨gb175, 3, none⟩) (Kd.R_far (p := ⟨gb175, 2, none⟩) (Kd.R_far (p := ⟨gb175, 1, none⟩) (Kd.R_far (p := ⟨gb175, 0, none⟩) (Kd.R_types HO184.out BK175.out (by decide)) (fun _ hk => hk.2) (.int .i64 t181)) (fun _ hk => hk.2) (.slice Ao29 t182.length co29)) (fun _ hk => hk.2) (.string t185)) (fun _ hk => hk.2) (.bool true)) (fun _ hk => trivial)⟩, ⟨by (with_reducible repeat (first | refine blk_drewN ?_ _ | refine blk_drew ?_ | refine blk_alloc ?_ _)); refine blk_put (cs := #[.int .i64 t181, .slice Ao29 t182.length co29, .string t185, .bool t173]) ?_ 3 _ rfl; (with_reducible repeat (first | refine blk_drewN ?_ _ | refine blk_drew ?_ | refine blk_alloc ?_ _)); refine blk_put (cs := #[.int .i64 t181, .slice Ao29 t182.length co29, .string t172, .bool t173]) ?_ 2 _ rfl; (with_reducible repeat (first | refine blk_drewN ?_ _ | refine blk_drew ?_ | refine blk_alloc ?_ _)); refine blk_put (cs := #[.int .i64 t181, .slice Ao7 t169.length co7, .string t172, .bool t173]) ?_ 1 _ rfl; (with_reducible repeat (first | refine blk_drewN ?_ _ | refine blk_drew ?_ | refine blk_alloc ?_ _)); refine blk_put (cs := #[.int .i64 t168, .slice Ao7 t169.length co7, .string t172, .bool t173]) ?_ 0 _ rfl; (with_reducible repeat (first | refine blk_drewN ?_ _ | refine blk_drew ?_ | refine blk_alloc ?_ _)); exact BK175.out⟩, ⟨by repeat (first | (with_reducible first | exact HB.out | apply below_alloc | apply pw_below_drewN | apply below_drew1 | refine below_set ?_ GE175.out) | exact HB.out)⟩⟩
                  · rw [if_neg c33] at H
                    have c33b0 : (t185.toList == ([97, 98] : List UInt8)) = false := beq_eq_false_iff_ne.mpr c33
                    have c33b1 : (t185.toList != ([97, 98] : List UInt8)) = true := bne_iff_ne.mpr c33
                    have H' := Aside0.mk H
                    clear H
                    have hcz38_0 : w27.cell? ⟨gb175, 0, none⟩ = some (.int .i64 t168) := (blk_cell BK175.out 0).trans rfl
                    have hcz38_1 : w27.cell? ⟨gb175, 1, none⟩ = some (.slice Ao7 t169.length co7) := (blk_cell BK175.out 1).trans rfl
                    have hcz38_2 : w27.cell? ⟨gb175, 2, none⟩ = some (.string t172) := (blk_cell BK175.out 2).trans rfl
                    have hcz38_3 : w27.cell? ⟨gb175, 3, none⟩ = some (.bool t173) := (blk_cell BK175.out 3).trans rfl
                    have hfz38_0 := blk_frozen BK175.out 0
                    have hfz38_1 := blk_frozen BK175.out 1
                    have hfz38_2 := blk_frozen BK175.out 2
                    have hfz38_3 := blk_frozen BK175.out 3
                    go_wp2
                    go_meet
                    case rel => exact ⟨_, (true), (by first | rfl | (simp; done) | (simp [*]; done) | (congr 1; cases (_ : List UInt8) <;> rfl) | (rw [← List.isEmpty_iff]; simp) | (simp only [Value.bool.injEq]; generalize ByteArray.toList _ = l_; cases l_ <;> rfl) | (generalize ByteArray.toList _ = l_; cases l_ <;> rfl)), H', ⟨by have := HJ2.out; first | omega | exact Nat.le_refl _⟩, ⟨by (with_reducible repeat (first | apply Kd.R_alloc | apply Kd.R_drewN | apply Kd.R_drew)); exact Kd.R_mono (Kd.R_far (p := ⟨gb175, 3, none⟩) (Kd.R_far (p := ⟨gb175, 2, none⟩) (Kd.R_far (p := ⟨gb175, 1, none⟩) (Kd.R_far (p := ⟨gb175, 0, none⟩) (Kd.R_types HO184.out BK175.out (by decide)) (fun _ hk => hk.2) (.int .i64 t181)) (fun _ hk => hk.2) (.slice Ao29 t182.length co29)) (fun _ hk => hk.2) (.string t185)) (fun _ hk => hk.2) (.bool true)) (fun _ hk => trivial)⟩, ⟨by (with_reducible repeat (first | refine blk_drewN ?_ _ | refine blk_drew ?_ | refine blk_alloc ?_ _)); refine blk_put (cs := #[.int .i64 t181, .slice Ao29 t182.length co29, .string t185, .bool t173]) ?_ 3 _ rfl; (with_reducible repeat (first | refine blk_drewN ?_ _ | refine blk_drew ?_ | refine blk_alloc ?_ _)); refine blk_put (cs := #[.int .i64 t181, .slice Ao29 t182.length co29, .string t172, .bool t173]) ?_ 2 _ rfl; (with_reducible repeat (first | refine blk_drewN ?_ _ | refine blk_drew ?_ | refine blk_alloc ?_ _)); refine blk_put (cs := #[.int .i64 t181, .slice Ao7 t169.length co7, .string t172, .bool t173]) ?_ 1 _ rfl; (with_reducible repeat (first | refine blk_drewN ?_ _ | refine blk_drew ?_ | refine blk_alloc ?_ _)); refine blk_put (cs := #[.int .i64 t168, .slice Ao7 t169.length co7, .string t172, .bool t173]) ?_ 0 _ rfl; (with_reducible repeat (first | refine blk_drewN ?_ _ | refine blk_drew ?_ | refine blk_alloc ?_ _)); exact BK175.out⟩, ⟨by repeat (first | (with_reducible first | exact HB.out | apply below_alloc | apply pw_below_drewN | apply below_drew1 | refine below_set ?_ GE175.out) | exact HB.out)⟩⟩
                · replace c32 := Bool.eq_false_iff.mpr c32
                  subst c32
                  have H1 : (postilionlaw09_ReplyForms.j1 kj2 a0 true) = some r := by rw [if_neg (show ¬ (false = true) by decide)] at H; exact H
                  clear H
                  have H := H1
                  clear H1
                  have H' := Aside0.mk H
                  clear H
                  have hcz39_0 : w27.cell? ⟨gb175, 0, none⟩ = some (.int .i64 t168) := (blk_cell BK175.out 0).trans rfl
                  have hcz39_1 : w27.cell? ⟨gb175, 1, none⟩ = some (.slice Ao7 t169.length co7) := (blk_cell BK175.out 1).trans rfl
                  have hcz39_2 : w27.cell? ⟨gb175, 2, none⟩ = some (.string t172) := (blk_cell BK175.out 2).trans rfl
                  have hcz39_3 : w27.cell? ⟨gb175, 3, none⟩ = some (.bool t173) := (blk_cell BK175.out 3).trans rfl
                  have hfz39_0 := blk_frozen BK175.out 0
                  have hfz39_1 := blk_frozen BK175.out 1
                  have hfz39_2 := blk_frozen BK175.out 2
                  have hfz39_3 := blk_frozen BK175.out 3
                  go_wp2
                  go_meet
                  case rel => exact ⟨_, (true), (by first | rfl | (simp; done) | (simp [*]; done) | (congr 1; cases (_ : List UInt8) <;> rfl) | (rw [← List.isEmpty_iff]; simp) | (simp only [Value.bool.injEq]; generalize ByteArray.toList _ = l_; cases l_ <;> rfl) | (generalize ByteArray.toList _ = l_; cases l_ <;> rfl)), H', ⟨by have := HJ2.out; first | omega | exact Nat.le_refl _⟩, ⟨by (with_reducible repeat (first | apply Kd.R_alloc | apply Kd.R_drewN | apply Kd.R_drew)); exact Kd.R_mono (Kd.R_far (p := ⟨gb175, 3, none⟩) (Kd.R_far (p := ⟨gb175, 2, none⟩) (Kd.R_far (p := ⟨gb175, 1, none⟩) (Kd.R_far (p := ⟨gb175, 0, none⟩) (Kd.R_types HO184.out BK175.out (by decide)) (fun _ hk => hk.2) (.int .i64 t181)) (fun _ hk => hk.2) (.slice Ao29 t182.length co29)) (fun _ hk => hk.2) (.string t185)) (fun _ hk => hk.2) (.bool false)) (fun _ hk => trivial)⟩, ⟨by (with_reducible repeat (first | refine blk_drewN ?_ _ | refine blk_drew ?_ | refine blk_alloc ?_ _)); refine blk_put (cs := #[.int .i64 t181, .slice Ao29 t182.length co29, .string t185, .bool t173]) ?_ 3 _ rfl; (with_reducible repeat (first | refine blk_drewN ?_ _ | refine blk_drew ?_ | refine blk_alloc ?_ _)); refine blk_put (cs := #[.int .i64 t181, .slice Ao29 t182.length co29, .string t172, .bool t173]) ?_ 2 _ rfl; (with_reducible repeat (first | refine blk_drewN ?_ _ | refine blk_drew ?_ | refine blk_alloc ?_ _)); refine blk_put (cs := #[.int .i64 t181, .slice Ao7 t169.length co7, .string t172, .bool t173]) ?_ 1 _ rfl; (with_reducible repeat (first | refine blk_drewN ?_ _ | refine blk_drew ?_ | refine blk_alloc ?_ _)); refine blk_put (cs := #[.int .i64 t168, .slice Ao7 t169.length co7, .string t172, .bool t173]) ?_ 0 _ rfl; (with_reducible repeat (first | refine blk_drewN ?_ _ | refine blk_drew ?_ | refine blk_alloc ?_ _)); exact BK175.out⟩, ⟨by repeat (first | (with_reducible first | exact HB.out | apply below_alloc | apply pw_below_drewN | apply below_drew1 | refine below_set ?_ GE175.out) | exact HB.out)⟩⟩
              · rw [if_neg c31] at H
                have c31b0 : (t181 == 100) = false := beq_eq_false_iff_ne.mpr c31
                have c31b1 : (t181 != 100) = true := bne_iff_ne.mpr c31
                have H' := Aside0.mk H
                clear H
                have hcz40_0 : w27.cell? ⟨gb175, 0, none⟩ = some (.int .i64 t168) := (blk_cell BK175.out 0).trans rfl
                have hcz40_1 : w27.cell? ⟨gb175, 1, none⟩ = some (.slice Ao7 t169.length co7) := (blk_cell BK175.out 1).trans rfl
                have hcz40_2 : w27.cell? ⟨gb175, 2, none⟩ = some (.string t172) := (blk_cell BK175.out 2).trans rfl
                have hcz40_3 : w27.cell? ⟨gb175, 3, none⟩ = some (.bool t173) := (blk_cell BK175.out 3).trans rfl
                have hfz40_0 := blk_frozen BK175.out 0
                have hfz40_1 := blk_frozen BK175.out 1
                have hfz40_2 := blk_frozen BK175.out 2
                have hfz40_3 := blk_frozen BK175.out 3
                go_wp2
                go_meet
                case rel => exact ⟨_, (true), (by first | rfl | (simp; done) | (simp [*]; done) | (congr 1; cases (_ : List UInt8) <;> rfl) | (rw [← List.isEmpty_iff]; simp) | (simp only [Value.bool.injEq]; generalize ByteArray.toList _ = l_; cases l_ <;> rfl) | (generalize ByteArray.toList _ = l_; cases l_ <;> rfl)), H', ⟨by have := HJ2.out; first | omega | exact Nat.le_refl _⟩, ⟨by (with_reducible repeat (first | apply Kd.R_alloc | apply Kd.R_drewN | apply Kd.R_drew)); exact Kd.R_mono (Kd.R_far (p := ⟨gb175, 3, none⟩) (Kd.R_far (p := ⟨gb175, 2, none⟩) (Kd.R_far (p := ⟨gb175, 1, none⟩) (Kd.R_far (p := ⟨gb175, 0, none⟩) (Kd.R_types HO184.out BK175.out (by decide)) (fun _ hk => hk.2) (.int .i64 t181)) (fun _ hk => hk.2) (.slice Ao29 t182.length co29)) (fun _ hk => hk.2) (.string t185)) (fun _ hk => hk.2) (.bool t186)) (fun _ hk => trivial)⟩, ⟨by (with_reducible repeat (first | refine blk_drewN ?_ _ | refine blk_drew ?_ | refine blk_alloc ?_ _)); refine blk_put (cs := #[.int .i64 t181, .slice Ao29 t182.length co29, .string t185, .bool t173]) ?_ 3 _ rfl; (with_reducible repeat (first | refine blk_drewN ?_ _ | refine blk_drew ?_ | refine blk_alloc ?_ _)); refine blk_put (cs := #[.int .i64 t181, .slice Ao29 t182.length co29, .string t172, .bool t173]) ?_ 2 _ rfl; (with_reducible repeat (first | refine blk_drewN ?_ _ | refine blk_drew ?_ | refine blk_alloc ?_ _)); refine blk_put (cs := #[.int .i64 t181, .slice Ao7 t169.length co7, .string t172, .bool t173]) ?_ 1 _ rfl; (with_reducible repeat (first | refine blk_drewN ?_ _ | refine blk_drew ?_ | refine blk_alloc ?_ _)); refine blk_put (cs := #[.int .i64 t168, .slice Ao7 t169.length co7, .string t172, .bool t173]) ?_ 0 _ rfl; (with_reducible repeat (first | refine blk_drewN ?_ _ | refine blk_drew ?_ | refine blk_alloc ?_ _)); exact BK175.out⟩, ⟨by repeat (first | (with_reducible first | exact HB.out | apply below_alloc | apply pw_below_drewN | apply below_drew1 | refine below_set ?_ GE175.out) | exact HB.out)⟩⟩
            · rw [if_neg c30] at H
              have c30b0 : (t187 == 0) = false := beq_eq_false_iff_ne.mpr c30
              have c30b1 : (t187 != 0) = true := bne_iff_ne.mpr c30
              (first | rw [c30b0] | (simp only [i64_w, i32_w]; rw [c30b0]) | skip)
              have H' := Aside0.mk H
              clear H
              go_wp2
              go_meet
              case rel => exact ⟨_, (true), (by first | rfl | (simp; done) | (simp [*]; done) | (congr 1; cases (_ : List UInt8) <;> rfl) | (rw [← List.isEmpty_iff]; simp) | (simp only [Value.bool.injEq]; generalize ByteArray.toList _ = l_; cases l_ <;> rfl) | (generalize ByteArray.toList _ = l_; cases l_ <;> rfl)), H', ⟨by have := HJ2.out; first | omega | exact Nat.le_refl _⟩, ⟨by (with_reducible repeat (first | apply Kd.R_alloc | apply Kd.R_drewN | apply Kd.R_drew)); exact Kd.R_mono (Kd.R_far (p := ⟨gb175, 3, none⟩) (Kd.R_far (p := ⟨gb175, 2, none⟩) (Kd.R_far (p := ⟨gb175, 1, none⟩) (Kd.R_far (p := ⟨gb175, 0, none⟩) (Kd.R_types HO184.out BK175.out (by decide)) (fun _ hk => hk.2) (.int .i64 t181)) (fun _ hk => hk.2) (.slice Ao29 t182.length co29)) (fun _ hk => hk.2) (.string t185)) (fun _ hk => hk.2) (.bool t186)) (fun _ hk => trivial)⟩, ⟨by (with_reducible repeat (first | refine blk_drewN ?_ _ | refine blk_drew ?_ | refine blk_alloc ?_ _)); refine blk_put (cs := #[.int .i64 t181, .slice Ao29 t182.length co29, .string t185, .bool t173]) ?_ 3 _ rfl; (with_reducible repeat (first | refine blk_drewN ?_ _ | refine blk_drew ?_ | refine blk_alloc ?_ _)); refine blk_put (cs := #[.int .i64 t181, .slice Ao29 t182.length co29, .string t172, .bool t173]) ?_ 2 _ rfl; (with_reducible repeat (first | refine blk_drewN ?_ _ | refine blk_drew ?_ | refine blk_alloc ?_ _)); refine blk_put (cs := #[.int .i64 t181, .slice Ao7 t169.length co7, .string t172, .bool t173]) ?_ 1 _ rfl; (with_reducible repeat (first | refine blk_drewN ?_ _ | refine blk_drew ?_ | refine blk_alloc ?_ _)); refine blk_put (cs := #[.int .i64 t168, .slice Ao7 t169.length co7, .string t172, .bool t173]) ?_ 0 _ rfl; (with_reducible repeat (first | refine blk_drewN ?_ _ | refine blk_drew ?_ | refine blk_alloc ?_ _)); exact BK175.out⟩, ⟨by repeat (first | (with_reducible first | exact HB.out | apply below_alloc | apply pw_below_drewN | apply below_drew1 | refine below_set ?_ GE175.out) | exact HB.out)⟩⟩
          case rest =>
            clear HC24
            try clear c1
            try clear p1
            try clear q1
            try clear hx1
            try clear qi1
            try clear c2
            try clear p2
            try clear c3
            try clear c8
            try clear c8b0
            try clear c8b1
            try clear c9
            try clear c9b0
            try clear c9b1
            try clear c10
            try clear c10b0
            try clear c10b1
            try clear c11
            try clear c13
            try clear p18
            try clear q18
            try clear hx18
            try clear qi18
            try clear c20
            try clear c22
            try clear c22b0
            try clear c22b1
            try clear c29
            try clear c30
            try clear c30b0
            try clear c30b1
            try clear c31
            try clear c31b0
            try clear c31b1
            try clear c32
            try clear c33
            try clear c33b0
            try clear c33b1
            try clear c34
            try clear c34b0
            try clear c34b1
            try clear c35
            try clear c35b0
            try clear c35b1
            try clear hcz12_0
            try clear hcz12_1
            try clear hcz12_2
            try clear hcz12_3
            try clear hcz14_0
            try clear hcz14_1
            try clear hcz14_2
            try clear hcz14_3
            try clear hcz18_0
            try clear hcz18_1
            try clear hcz18_2
            try clear hcz18_3
            try clear hcz19_0
            try clear hcz19_1
            try clear hcz19_2
            try clear hcz19_3
            try clear hcz25_0
            try clear hcz25_1
            try clear hcz25_2
            try clear hcz25_3
            try clear hcz28_0
            try clear hcz28_1
            try clear hcz28_2
            try clear hcz28_3
            try clear hcz36_0
            try clear hcz36_1
            try clear hcz36_2
            try clear hcz36_3
            try clear hcz37_0
            try clear hcz37_1
            try clear hcz37_2
            try clear hcz37_3
            try clear hcz38_0
            try clear hcz38_1
            try clear hcz38_2
            try clear hcz38_3
            try clear hcz39_0
            try clear hcz39_1
            try clear hcz39_2
            try clear hcz39_3
            try clear hcz40_0
            try clear hcz40_1
            try clear hcz40_2
            try clear hcz40_3
            try clear hcz6_0
            try clear hcz6_1
            try clear hcz6_2
            try clear hcz6_3
            try clear hfz12_0
            try clear hfz12_1
            try clear hfz12_2
            try clear hfz12_3
            try clear hfz14_0
            try clear hfz14_1
            try clear hfz14_2
            try clear hfz14_3
            try clear hfz18_0
            try clear hfz18_1
            try clear hfz18_2
            try clear hfz18_3
            try clear hfz19_0
            try clear hfz19_1
            try clear hfz19_2
            try clear hfz19_3
            try clear hfz25_0
            try clear hfz25_1
            try clear hfz25_2
            try clear hfz25_3
            try clear hfz28_0
            try clear hfz28_1
            try clear hfz28_2
            try clear hfz28_3
            try clear hfz36_0
            try clear hfz36_1
            try clear hfz36_2
            try clear hfz36_3
            try clear hfz37_0
            try clear hfz37_1
            try clear hfz37_2
            try clear hfz37_3
            try clear hfz38_0
            try clear hfz38_1
            try clear hfz38_2
            try clear hfz38_3
            try clear hfz39_0
            try clear hfz39_1
            try clear hfz39_2
            try clear hfz39_3
            try clear hfz40_0
            try clear hfz40_1
            try clear hfz40_2
            try clear hfz40_3
            try clear hfz6_0
            try clear hfz6_1
            try clear hfz6_2
            try clear hfz6_3
            try clear hx188_0
            try clear hx188_1
            try clear p188
            try clear p2
            try clear q188
            obtain ⟨kq, x80_23, rfl, HA, HJ23, HO_176001, BK175, HB⟩ := hcut
            cases kq with
            | zero => exact absurd HA.out (by simp [postilionlaw09_ReplyForms.j1])
            | succ kj23 =>
              have H := HA.out
              clear HA
              simp only [postilionlaw09_ReplyForms.j1] at H
              by_cases c41 : x80_23 = true
              · subst c41
                have H1 : (some false) = some r := by rw [if_pos rfl] at H; exact H
                clear H
                have H := H1
                clear H1
                obtain rfl := Option.some.inj H
                cases hT
              · replace c41 := Bool.eq_false_iff.mpr c41
                subst c41
                have H1 : ((some (([(⟨#[]⟩ : ByteArray), (⟨#[72, 84, 84, 80, 47, 49, 46, 49, 32, 50, 48, 48, 32, 45]⟩ : ByteArray), (⟨#[72, 84, 84, 80, 47, 49, 46, 49, 32, 50, 48, 48, 32, 45, 13, 10]⟩ : ByteArray), (⟨#[72, 84, 84, 80, 47, 49, 46, 48, 32, 50, 48, 48, 32, 45, 13, 10, 13, 10]⟩ : ByteArray), (⟨#[72, 84, 84, 80, 47, 49, 46, 49, 32, 50, 48, 32, 45, 13, 10, 13, 10]⟩ : ByteArray), (⟨#[72, 84, 84, 80, 47, 49, 46, 49, 32, 48, 57, 57, 32, 45, 13, 10, 13, 10]⟩ : ByteArray), (⟨#[72, 84, 84, 80, 47, 49, 46, 49, 32, 54, 48, 48, 32, 45, 13, 10, 13, 10]⟩ : ByteArray), (⟨#[72, 84, 84, 80, 47, 49, 46, 49, 32, 50, 120, 48, 32, 45, 13, 10, 13, 10]⟩ : ByteArray), (⟨#[72, 84, 84, 80, 47, 49, 46, 49, 32, 50, 48, 48, 32, 45, 10, 10]⟩ : ByteArray), (⟨#[72, 84, 84, 80, 47, 49, 46, 49, 32, 50, 48, 48, 32, 45, 13, 10, 120, 13, 10, 13, 10]⟩ : ByteArray), (⟨#[72, 84, 84, 80, 47, 49, 46, 49, 32, 50, 48, 48, 32, 45, 13, 10, 58, 32, 120, 13, 10, 13, 10]⟩ : ByteArray), (⟨#[72, 84, 84, 80, 47, 49, 46, 49, 32, 50, 48, 48, 32, 45, 13, 10, 97, 32, 98, 58, 32, 120, 13, 10, 13, 10]⟩ : ByteArray), (⟨#[72, 84, 84, 80, 47, 49, 46, 49, 32, 50, 48, 48, 32, 45, 13, 10, 120, 58, 32, 9, 13, 10, 13, 10]⟩ : ByteArray), (⟨#[72, 84, 84, 80, 47, 49, 46, 49, 32, 50, 48, 48, 32, 45, 13, 10, 99, 111, 110, 116, 101, 110, 116, 45, 108, 101, 110, 103, 116, 104, 58, 32, 120, 13, 10, 13, 10]⟩ : ByteArray), (⟨#[72, 84, 84, 80, 47, 49, 46, 49, 32, 50, 48, 48, 32, 45, 13, 10, 99, 111, 110, 116, 101, 110, 116, 45, 108, 101, 110, 103, 116, 104, 58, 32, 49, 50, 51, 52, 53, 54, 55, 13, 10, 13, 10]⟩ : ByteArray), (⟨#[72, 84, 84, 80, 47, 49, 46, 49, 32, 50, 48, 48, 32, 45, 13, 10, 99, 111, 110, 116, 101, 110, 116, 45, 108, 101, 110, 103, 116, 104, 58, 32, 49, 13, 10, 67, 111, 110, 116, 101, 110, 116, 45, 76, 101, 110, 103, 116, 104, 58, 32, 49, 13, 10, 13, 10, 97]⟩ : ByteArray), (⟨#[72, 84, 84, 80, 47, 49, 46, 49, 32, 50, 48, 48, 32, 45, 13, 10, 97, 58, 32, 49, 13, 10, 97, 58, 32, 49, 13, 10, 97, 58, 32, 49, 13, 10, 97, 58, 32, 49, 13, 10, 97, 58, 32, 49, 13, 10, 97, 58, 32, 49, 13, 10, 97, 58, 32, 49, 13, 10, 97, 58, 32, 49, 13, 10, 97, 58, 32, 49, 13, 10, 13, 10]⟩ : ByteArray), (⟨#[72, 84, 84, 80, 47, 49, 46, 49, 32, 50, 48, 48, 32, 45, 13, 10, 97, 98, 99, 100, 101, 102, 103, 104, 105, 106, 107, 108, 109, 110, 111, 112, 113, 114, 115, 116, 117, 58, 32, 49, 13, 10, 13, 10]⟩ : ByteArray), (⟨#[72, 84, 84, 80, 47, 49, 46, 49, 32, 50, 48, 48, 32, 45, 13, 10, 120, 58, 32, 49, 50, 51, 52, 53, 54, 55, 56, 57, 48, 49, 50, 51, 52, 53, 54, 55, 56, 57, 48, 49, 50, 51, 52, 53, 54, 55, 56, 57, 48, 49, 50, 51, 52, 53, 54, 55, 56, 57, 48, 49, 13, 10, 13, 10]⟩ : ByteArray)] : List ByteArray) : List ByteArray)).bind fun y189 => ((postilionkeep_Within.f a0 (y189.length : Int)).bind fun t192 => (if 0 ≤ t192 then (if t192 < (y189.length : Int) then ((reply_Parse.f kj23 (rdOf ByteArray.empty y189 t192)).bind fun bt194 => ((reply_Number.f kj23 (⟨#[48, 48, 48, 49, 50, 51]⟩ : ByteArray)).bind fun bt201 => ((reply_Number.f kj23 (⟨#[49, 50, 51, 52, 53, 54, 55]⟩ : ByteArray)).bind fun bt203 => ((reply_Number.f kj23 (⟨#[]⟩ : ByteArray)).bind fun bt205 => ((reply_Number.f kj23 (⟨#[45, 49]⟩ : ByteArray)).bind fun bt207 => (if bt194.2.2.2.2 = 2 then (if bt194.1 = 0 then (if (bt194.2.1.length : Int) = 0 then (if bt201.2 = true then (if bt201.1 = 123 then (if bt203.2 = true then (some false) else (if bt205.2 = true then (some false) else (if bt207.2 = true then (some false) else ((postilionlaw09_wakes.f kj23).bind fun t209 => (some t209))))) else (some false)) else (some false)) else (some false)) else (some false)) else (some false))))))) else (none)) else (none)))) = some r := by rw [if_neg (show ¬ (false = true) by decide)] at H; exact H
                clear H
                have H := H1
                clear H1
                obtain ⟨y189, hy189⟩ : ∃ y_ : List ByteArray, y_ = (([(⟨#[]⟩ : ByteArray), (⟨#[72, 84, 84, 80, 47, 49, 46, 49, 32, 50, 48, 48, 32, 45]⟩ : ByteArray), (⟨#[72, 84, 84, 80, 47, 49, 46, 49, 32, 50, 48, 48, 32, 45, 13, 10]⟩ : ByteArray), (⟨#[72, 84, 84, 80, 47, 49, 46, 48, 32, 50, 48, 48, 32, 45, 13, 10, 13, 10]⟩ : ByteArray), (⟨#[72, 84, 84, 80, 47, 49, 46, 49, 32, 50, 48, 32, 45, 13, 10, 13, 10]⟩ : ByteArray), (⟨#[72, 84, 84, 80, 47, 49, 46, 49, 32, 48, 57, 57, 32, 45, 13, 10, 13, 10]⟩ : ByteArray), (⟨#[72, 84, 84, 80, 47, 49, 46, 49, 32, 54, 48, 48, 32, 45, 13, 10, 13, 10]⟩ : ByteArray), (⟨#[72, 84, 84, 80, 47, 49, 46, 49, 32, 50, 120, 48, 32, 45, 13, 10, 13, 10]⟩ : ByteArray), (⟨#[72, 84, 84, 80, 47, 49, 46, 49, 32, 50, 48, 48, 32, 45, 10, 10]⟩ : ByteArray), (⟨#[72, 84, 84, 80, 47, 49, 46, 49, 32, 50, 48, 48, 32, 45, 13, 10, 120, 13, 10, 13, 10]⟩ : ByteArray), (⟨#[72, 84, 84, 80, 47, 49, 46, 49, 32, 50, 48, 48, 32, 45, 13, 10, 58, 32, 120, 13, 10, 13, 10]⟩ : ByteArray), (⟨#[72, 84, 84, 80, 47, 49, 46, 49, 32, 50, 48, 48, 32, 45, 13, 10, 97, 32, 98, 58, 32, 120, 13, 10, 13, 10]⟩ : ByteArray), (⟨#[72, 84, 84, 80, 47, 49, 46, 49, 32, 50, 48, 48, 32, 45, 13, 10, 120, 58, 32, 9, 13, 10, 13, 10]⟩ : ByteArray), (⟨#[72, 84, 84, 80, 47, 49, 46, 49, 32, 50, 48, 48, 32, 45, 13, 10, 99, 111, 110, 116, 101, 110, 116, 45, 108, 101, 110, 103, 116, 104, 58, 32, 120, 13, 10, 13, 10]⟩ : ByteArray), (⟨#[72, 84, 84, 80, 47, 49, 46, 49, 32, 50, 48, 48, 32, 45, 13, 10, 99, 111, 110, 116, 101, 110, 116, 45, 108, 101, 110, 103, 116, 104, 58, 32, 49, 50, 51, 52, 53, 54, 55, 13, 10, 13, 10]⟩ : ByteArray), (⟨#[72, 84, 84, 80, 47, 49, 46, 49, 32, 50, 48, 48, 32, 45, 13, 10, 99, 111, 110, 116, 101, 110, 116, 45, 108, 101, 110, 103, 116, 104, 58, 32, 49, 13, 10, 67, 111, 110, 116, 101, 110, 116, 45, 76, 101, 110, 103, 116, 104, 58, 32, 49, 13, 10, 13, 10, 97]⟩ : ByteArray), (⟨#[72, 84, 84, 80, 47, 49, 46, 49, 32, 50, 48, 48, 32, 45, 13, 10, 97, 58, 32, 49, 13, 10, 97, 58, 32, 49, 13, 10, 97, 58, 32, 49, 13, 10, 97, 58, 32, 49, 13, 10, 97, 58, 32, 49, 13, 10, 97, 58, 32, 49, 13, 10, 97, 58, 32, 49, 13, 10, 97, 58, 32, 49, 13, 10, 97, 58, 32, 49, 13, 10, 13, 10]⟩ : ByteArray), (⟨#[72, 84, 84, 80, 47, 49, 46, 49, 32, 50, 48, 48, 32, 45, 13, 10, 97, 98, 99, 100, 101, 102, 103, 104, 105, 106, 107, 108, 109, 110, 111, 112, 113, 114, 115, 116, 117, 58, 32, 49, 13, 10, 13, 10]⟩ : ByteArray), (⟨#[72, 84, 84, 80, 47, 49, 46, 49, 32, 50, 48, 48, 32, 45, 13, 10, 120, 58, 32, 49, 50, 51, 52, 53, 54, 55, 56, 57, 48, 49, 50, 51, 52, 53, 54, 55, 56, 57, 48, 49, 50, 51, 52, 53, 54, 55, 56, 57, 48, 49, 50, 51, 52, 53, 54, 55, 56, 57, 48, 49, 13, 10, 13, 10]⟩ : ByteArray)] : List ByteArray)) := ⟨_, rfl⟩
                replace H : ((postilionkeep_Within.f a0 (y189.length : Int)).bind fun t192 => (if 0 ≤ t192 then (if t192 < (y189.length : Int) then ((reply_Parse.f kj23 (rdOf ByteArray.empty y189 t192)).bind fun bt194 => ((reply_Number.f kj23 (⟨#[48, 48, 48, 49, 50, 51]⟩ : ByteArray)).bind fun bt201 => ((reply_Number.f kj23 (⟨#[49, 50, 51, 52, 53, 54, 55]⟩ : ByteArray)).bind fun bt203 => ((reply_Number.f kj23 (⟨#[]⟩ : ByteArray)).bind fun bt205 => ((reply_Number.f kj23 (⟨#[45, 49]⟩ : ByteArray)).bind fun bt207 => (if bt194.2.2.2.2 = 2 then (if bt194.1 = 0 then (if (bt194.2.1.length : Int) = 0 then (if bt201.2 = true then (if bt201.1 = 123 then (if bt203.2 = true then (some false) else (if bt205.2 = true then (some false) else (if bt207.2 = true then (some false) else ((postilionlaw09_wakes.f kj23).bind fun t209 => (some t209))))) else (some false)) else (some false)) else (some false)) else (some false)) else (some false))))))) else (none)) else (none))) = some r := by first | (rw [hy189]; with_reducible exact H) | (have H2_ := (Option.bind_some _ _).symm.trans H; rw [hy189]; with_reducible exact H2_) | (have H2_ := (Option.bind_some _ _).symm.trans H; with_reducible exact H2_) | with_reducible exact H | (rw [hy189]; exact H) | exact H
                have Ny189 := Aside0.mk hy189
                clear hy189
                replace H := Option.bind_eq_some_iff.mp H
                obtain ⟨t192, A420, H⟩ := H
                replace H : (if 0 ≤ t192 then (if t192 < (y189.length : Int) then ((reply_Parse.f kj23 (rdOf ByteArray.empty y189 t192)).bind fun bt194 => ((reply_Number.f kj23 (⟨#[48, 48, 48, 49, 50, 51]⟩ : ByteArray)).bind fun bt201 => ((reply_Number.f kj23 (⟨#[49, 50, 51, 52, 53, 54, 55]⟩ : ByteArray)).bind fun bt203 => ((reply_Number.f kj23 (⟨#[]⟩ : ByteArray)).bind fun bt205 => ((reply_Number.f kj23 (⟨#[45, 49]⟩ : ByteArray)).bind fun bt207 => (if bt194.2.2.2.2 = 2 then (if bt194.1 = 0 then (if (bt194.2.1.length : Int) = 0 then (if bt201.2 = true then (if bt201.1 = 123 then (if bt203.2 = true then (some false) else (if bt205.2 = true then (some false) else (if bt207.2 = true then (some false) else ((postilionlaw09_wakes.f kj23).bind fun t209 => (some t209))))) else (some false)) else (some false)) else (some false)) else (some false)) else (some false))))))) else (none)) else (none)) = some r := H
                have A42 := Aside0.mk A420
                clear A420
                by_cases c43 : 0 ≤ t192
                · rw [if_pos c43] at H
                  have c43b0 : decide (0 ≤ t192) = true := decide_eq_true c43
                  clear c43
                  by_cases c44 : t192 < (y189.length : Int)
                  · rw [if_pos c44] at H
                    have c44b0 : decide (t192 < (y189.length : Int)) = true := decide_eq_true c44
                    clear c44
                    replace H := Option.bind_eq_some_iff.mp H
                    obtain ⟨⟨t194, t195, t198, t199, t200⟩, A450, H⟩ := H
                    replace H : ((reply_Number.f kj23 (⟨#[48, 48, 48, 49, 50, 51]⟩ : ByteArray)).bind fun bt201 => ((reply_Number.f kj23 (⟨#[49, 50, 51, 52, 53, 54, 55]⟩ : ByteArray)).bind fun bt203 => ((reply_Number.f kj23 (⟨#[]⟩ : ByteArray)).bind fun bt205 => ((reply_Number.f kj23 (⟨#[45, 49]⟩ : ByteArray)).bind fun bt207 => (if t200 = 2 then (if t194 = 0 then (if (t195.length : Int) = 0 then (if bt201.2 = true then (if bt201.1 = 123 then (if bt203.2 = true then (some false) else (if bt205.2 = true then (some false) else (if bt207.2 = true then (some false) else ((postilionlaw09_wakes.f kj23).bind fun t209 => (some t209))))) else (some false)) else (some false)) else (some false)) else (some false)) else (some false)))))) = some r := H
                    have A45 := Aside0.mk A450
                    clear A450
                    replace H := Option.bind_eq_some_iff.mp H
                    obtain ⟨⟨t201, t202⟩, A460, H⟩ := H
                    replace H : ((reply_Number.f kj23 (⟨#[49, 50, 51, 52, 53, 54, 55]⟩ : ByteArray)).bind fun bt203 => ((reply_Number.f kj23 (⟨#[]⟩ : ByteArray)).bind fun bt205 => ((reply_Number.f kj23 (⟨#[45, 49]⟩ : ByteArray)).bind fun bt207 => (if t200 = 2 then (if t194 = 0 then (if (t195.length : Int) = 0 then (if t202 = true then (if t201 = 123 then (if bt203.2 = true then (some false) else (if bt205.2 = true then (some false) else (if bt207.2 = true then (some false) else ((postilionlaw09_wakes.f kj23).bind fun t209 => (some t209))))) else (some false)) else (some false)) else (some false)) else (some false)) else (some false))))) = some r := H
                    have A46 := Aside0.mk A460
                    clear A460
                    replace H := Option.bind_eq_some_iff.mp H
                    obtain ⟨⟨t203, t204⟩, A470, H⟩ := H
                    replace H : ((reply_Number.f kj23 (⟨#[]⟩ : ByteArray)).bind fun bt205 => ((reply_Number.f kj23 (⟨#[45, 49]⟩ : ByteArray)).bind fun bt207 => (if t200 = 2 then (if t194 = 0 then (if (t195.length : Int) = 0 then (if t202 = true then (if t201 = 123 then (if t204 = true then (some false) else (if bt205.2 = true then (some false) else (if bt207.2 = true then (some false) else ((postilionlaw09_wakes.f kj23).bind fun t209 => (some t209))))) else (some false)) else (some false)) else (some false)) else (some false)) else (some false)))) = some r := H
                    have A47 := Aside0.mk A470
                    clear A470
                    replace H := Option.bind_eq_some_iff.mp H
                    obtain ⟨⟨t205, t206⟩, A480, H⟩ := H
                    replace H : ((reply_Number.f kj23 (⟨#[45, 49]⟩ : ByteArray)).bind fun bt207 => (if t200 = 2 then (if t194 = 0 then (if (t195.length : Int) = 0 then (if t202 = true then (if t201 = 123 then (if t204 = true then (some false) else (if t206 = true then (some false) else (if bt207.2 = true then (some false) else ((postilionlaw09_wakes.f kj23).bind fun t209 => (some t209))))) else (some false)) else (some false)) else (some false)) else (some false)) else (some false))) = some r := H
                    have A48 := Aside0.mk A480
                    clear A480
                    replace H := Option.bind_eq_some_iff.mp H
                    obtain ⟨⟨t207, t208⟩, A490, H⟩ := H
                    replace H : (if t200 = 2 then (if t194 = 0 then (if (t195.length : Int) = 0 then (if t202 = true then (if t201 = 123 then (if t204 = true then (some false) else (if t206 = true then (some false) else (if t208 = true then (some false) else ((postilionlaw09_wakes.f kj23).bind fun t209 => (some t209))))) else (some false)) else (some false)) else (some false)) else (some false)) else (some false)) = some r := H
                    have A49 := Aside0.mk A490
                    clear A490
                    by_cases c50 : t200 = 2
                    · rw [if_pos c50] at H
                      have c50b0 : (t200 == 2) = true := beq_iff_eq.mpr c50
                      have c50b1 : (t200 != 2) = false := bne_eq_false_iff_eq.mpr c50
                      clear c50
                      by_cases c51 : t194 = 0
                      · rw [if_pos c51] at H
                        have c51b0 : (t194 == 0) = true := beq_iff_eq.mpr c51
                        have c51b1 : (t194 != 0) = false := bne_eq_false_iff_eq.mpr c51
                        clear c51
                        by_cases c52 : (t195.length : Int) = 0
                        · rw [if_pos c52] at H
                          have c52b0 : ((t195.length : Int) == 0) = true := beq_iff_eq.mpr c52
                          have c52b1 : ((t195.length : Int) != 0) = false := bne_eq_false_iff_eq.mpr c52
                          clear c52
                          by_cases c53 : t202 = true
                          · subst c53
                            have H1 : (if t201 = 123 then (if t204 = true then (some false) else (if t206 = true then (some false) else (if t208 = true then (some false) else ((postilionlaw09_wakes.f kj23).bind fun t209 => (some t209))))) else (some false)) = some r := by rw [if_pos rfl] at H; exact H
                            clear H
                            have H := H1
                            clear H1
                            by_cases c54 : t201 = 123
                            · rw [if_pos c54] at H
                              have c54b0 : (t201 == 123) = true := beq_iff_eq.mpr c54
                              have c54b1 : (t201 != 123) = false := bne_eq_false_iff_eq.mpr c54
                              clear c54
                              by_cases c55 : t204 = true
                              · subst c55
                                have H1 : (some false) = some r := by rw [if_pos rfl] at H; exact H
                                clear H
                                have H := H1
                                clear H1
                                obtain rfl := Option.some.inj H
                                cases hT
                              · replace c55 := Bool.eq_false_iff.mpr c55
                                subst c55
                                have H1 : (if t206 = true then (some false) else (if t208 = true then (some false) else ((postilionlaw09_wakes.f kj23).bind fun t209 => (some t209)))) = some r := by rw [if_neg (show ¬ (false = true) by decide)] at H; exact H
                                clear H
                                have H := H1
                                clear H1
                                by_cases c56 : t206 = true
                                · subst c56
                                  have H1 : (some false) = some r := by rw [if_pos rfl] at H; exact H
                                  clear H
                                  have H := H1
                                  clear H1
                                  obtain rfl := Option.some.inj H
                                  cases hT
                                · replace c56 := Bool.eq_false_iff.mpr c56
                                  subst c56
                                  have H1 : (if t208 = true then (some false) else ((postilionlaw09_wakes.f kj23).bind fun t209 => (some t209))) = some r := by rw [if_neg (show ¬ (false = true) by decide)] at H; exact H
                                  clear H
                                  have H := H1
                                  clear H1
                                  by_cases c57 : t208 = true
                                  · subst c57
                                    have H1 : (some false) = some r := by rw [if_pos rfl] at H; exact H
                                    clear H
                                    have H := H1
                                    clear H1
                                    obtain rfl := Option.some.inj H
                                    cases hT
                                  · replace c57 := Bool.eq_false_iff.mpr c57
                                    subst c57
                                    have H1 : ((postilionlaw09_wakes.f kj23).bind fun t209 => (some t209)) = some r := by rw [if_neg (show ¬ (false = true) by decide)] at H; exact H
                                    clear H
                                    have H := H1
                                    clear H1
                                    replace H := Option.bind_eq_some_iff.mp H
                                    obtain ⟨t209, A580, H⟩ := H
                                    replace H : (some t209) = some r := H
                                    have A58 := Aside0.mk A580
                                    clear A580
                                    obtain rfl := Option.some.inj H
                                    go_wp2_with (first | ((with_reducible refine gate_dst (N := 81) rfl ?_); (try (refine gate_guard (by rfl) ?_; dsimp only)); refine Kd.R_lit Kd.string _ 9 ?hg (N := 81) ?hd (xs := ([(⟨#[]⟩ : ByteArray), (⟨#[72, 84, 84, 80, 47, 49, 46, 49, 32, 50, 48, 48, 32, 45]⟩ : ByteArray), (⟨#[72, 84, 84, 80, 47, 49, 46, 49, 32, 50, 48, 48, 32, 45, 13, 10]⟩ : ByteArray), (⟨#[72, 84, 84, 80, 47, 49, 46, 48, 32, 50, 48, 48, 32, 45, 13, 10, 13, 10]⟩ : ByteArray), (⟨#[72, 84, 84, 80, 47, 49, 46, 49, 32, 50, 48, 32, 45, 13, 10, 13, 10]⟩ : ByteArray), (⟨#[72, 84, 84, 80, 47, 49, 46, 49, 32, 48, 57, 57, 32, 45, 13, 10, 13, 10]⟩ : ByteArray), (⟨#[72, 84, 84, 80, 47, 49, 46, 49, 32, 54, 48, 48, 32, 45, 13, 10, 13, 10]⟩ : ByteArray), (⟨#[72, 84, 84, 80, 47, 49, 46, 49, 32, 50, 120, 48, 32, 45, 13, 10, 13, 10]⟩ : ByteArray), (⟨#[72, 84, 84, 80, 47, 49, 46, 49, 32, 50, 48, 48, 32, 45, 10, 10]⟩ : ByteArray), (⟨#[72, 84, 84, 80, 47, 49, 46, 49, 32, 50, 48, 48, 32, 45, 13, 10, 120, 13, 10, 13, 10]⟩ : ByteArray), (⟨#[72, 84, 84, 80, 47, 49, 46, 49, 32, 50, 48, 48, 32, 45, 13, 10, 58, 32, 120, 13, 10, 13, 10]⟩ : ByteArray), (⟨#[72, 84, 84, 80, 47, 49, 46, 49, 32, 50, 48, 48, 32, 45, 13, 10, 97, 32, 98, 58, 32, 120, 13, 10, 13, 10]⟩ : ByteArray), (⟨#[72, 84, 84, 80, 47, 49, 46, 49, 32, 50, 48, 48, 32, 45, 13, 10, 120, 58, 32, 9, 13, 10, 13, 10]⟩ : ByteArray), (⟨#[72, 84, 84, 80, 47, 49, 46, 49, 32, 50, 48, 48, 32, 45, 13, 10, 99, 111, 110, 116, 101, 110, 116, 45, 108, 101, 110, 103, 116, 104, 58, 32, 120, 13, 10, 13, 10]⟩ : ByteArray), (⟨#[72, 84, 84, 80, 47, 49, 46, 49, 32, 50, 48, 48, 32, 45, 13, 10, 99, 111, 110, 116, 101, 110, 116, 45, 108, 101, 110, 103, 116, 104, 58, 32, 49, 50, 51, 52, 53, 54, 55, 13, 10, 13, 10]⟩ : ByteArray), (⟨#[72, 84, 84, 80, 47, 49, 46, 49, 32, 50, 48, 48, 32, 45, 13, 10, 99, 111, 110, 116, 101, 110, 116, 45, 108, 101, 110, 103, 116, 104, 58, 32, 49, 13, 10, 67, 111, 110, 116, 101, 110, 116, 45, 76, 101, 110, 103, 116, 104, 58, 32, 49, 13, 10, 13, 10, 97]⟩ : ByteArray), (⟨#[72, 84, 84, 80, 47, 49, 46, 49, 32, 50, 48, 48, 32, 45, 13, 10, 97, 58, 32, 49, 13, 10, 97, 58, 32, 49, 13, 10, 97, 58, 32, 49, 13, 10, 97, 58, 32, 49, 13, 10, 97, 58, 32, 49, 13, 10, 97, 58, 32, 49, 13, 10, 97, 58, 32, 49, 13, 10, 97, 58, 32, 49, 13, 10, 97, 58, 32, 49, 13, 10, 13, 10]⟩ : ByteArray), (⟨#[72, 84, 84, 80, 47, 49, 46, 49, 32, 50, 48, 48, 32, 45, 13, 10, 97, 98, 99, 100, 101, 102, 103, 104, 105, 106, 107, 108, 109, 110, 111, 112, 113, 114, 115, 116, 117, 58, 32, 49, 13, 10, 13, 10]⟩ : ByteArray), (⟨#[72, 84, 84, 80, 47, 49, 46, 49, 32, 50, 48, 48, 32, 45, 13, 10, 120, 58, 32, 49, 50, 51, 52, 53, 54, 55, 56, 57, 48, 49, 50, 51, 52, 53, 54, 55, 56, 57, 48, 49, 50, 51, 52, 53, 54, 55, 56, 57, 48, 49, 50, 51, 52, 53, 54, 55, 56, 57, 48, 49, 13, 10, 13, 10]⟩ : ByteArray)] : List ByteArray)) (inner := [.string (⟨#[]⟩ : ByteArray), .string (⟨#[72, 84, 84, 80, 47, 49, 46, 49, 32, 50, 48, 48, 32, 45]⟩ : ByteArray), .string (⟨#[72, 84, 84, 80, 47, 49, 46, 49, 32, 50, 48, 48, 32, 45, 13, 10]⟩ : ByteArray), .string (⟨#[72, 84, 84, 80, 47, 49, 46, 48, 32, 50, 48, 48, 32, 45, 13, 10, 13, 10]⟩ : ByteArray), .string (⟨#[72, 84, 84, 80, 47, 49, 46, 49, 32, 50, 48, 32, 45, 13, 10, 13, 10]⟩ : ByteArray), .string (⟨#[72, 84, 84, 80, 47, 49, 46, 49, 32, 48, 57, 57, 32, 45, 13, 10, 13, 10]⟩ : ByteArray), .string (⟨#[72, 84, 84, 80, 47, 49, 46, 49, 32, 54, 48, 48, 32, 45, 13, 10, 13, 10]⟩ : ByteArray), .string (⟨#[72, 84, 84, 80, 47, 49, 46, 49, 32, 50, 120, 48, 32, 45, 13, 10, 13, 10]⟩ : ByteArray), .string (⟨#[72, 84, 84, 80, 47, 49, 46, 49, 32, 50, 48, 48, 32, 45, 10, 10]⟩ : ByteArray), .string (⟨#[72, 84, 84, 80, 47, 49, 46, 49, 32, 50, 48, 48, 32, 45, 13, 10, 120, 13, 10, 13, 10]⟩ : ByteArray), .string (⟨#[72, 84, 84, 80, 47, 49, 46, 49, 32, 50, 48, 48, 32, 45, 13, 10, 58, 32, 120, 13, 10, 13, 10]⟩ : ByteArray), .string (⟨#[72, 84, 84, 80, 47, 49, 46, 49, 32, 50, 48, 48, 32, 45, 13, 10, 97, 32, 98, 58, 32, 120, 13, 10, 13, 10]⟩ : ByteArray), .string (⟨#[72, 84, 84, 80, 47, 49, 46, 49, 32, 50, 48, 48, 32, 45, 13, 10, 120, 58, 32, 9, 13, 10, 13, 10]⟩ : ByteArray), .string (⟨#[72, 84, 84, 80, 47, 49, 46, 49, 32, 50, 48, 48, 32, 45, 13, 10, 99, 111, 110, 116, 101, 110, 116, 45, 108, 101, 110, 103, 116, 104, 58, 32, 120, 13, 10, 13, 10]⟩ : ByteArray), .string (⟨#[72, 84, 84, 80, 47, 49, 46, 49, 32, 50, 48, 48, 32, 45, 13, 10, 99, 111, 110, 116, 101, 110, 116, 45, 108, 101, 110, 103, 116, 104, 58, 32, 49, 50, 51, 52, 53, 54, 55, 13, 10, 13, 10]⟩ : ByteArray), .string (⟨#[72, 84, 84, 80, 47, 49, 46, 49, 32, 50, 48, 48, 32, 45, 13, 10, 99, 111, 110, 116, 101, 110, 116, 45, 108, 101, 110, 103, 116, 104, 58, 32, 49, 13, 10, 67, 111, 110, 116, 101, 110, 116, 45, 76, 101, 110, 103, 116, 104, 58, 32, 49, 13, 10, 13, 10, 97]⟩ : ByteArray), .string (⟨#[72, 84, 84, 80, 47, 49, 46, 49, 32, 50, 48, 48, 32, 45, 13, 10, 97, 58, 32, 49, 13, 10, 97, 58, 32, 49, 13, 10, 97, 58, 32, 49, 13, 10, 97, 58, 32, 49, 13, 10, 97, 58, 32, 49, 13, 10, 97, 58, 32, 49, 13, 10, 97, 58, 32, 49, 13, 10, 97, 58, 32, 49, 13, 10, 97, 58, 32, 49, 13, 10, 13, 10]⟩ : ByteArray), .string (⟨#[72, 84, 84, 80, 47, 49, 46, 49, 32, 50, 48, 48, 32, 45, 13, 10, 97, 98, 99, 100, 101, 102, 103, 104, 105, 106, 107, 108, 109, 110, 111, 112, 113, 114, 115, 116, 117, 58, 32, 49, 13, 10, 13, 10]⟩ : ByteArray), .string (⟨#[72, 84, 84, 80, 47, 49, 46, 49, 32, 50, 48, 48, 32, 45, 13, 10, 120, 58, 32, 49, 50, 51, 52, 53, 54, 55, 56, 57, 48, 49, 50, 51, 52, 53, 54, 55, 56, 57, 48, 49, 50, 51, 52, 53, 54, 55, 56, 57, 48, 49, 50, 51, 52, 53, 54, 55, 56, 57, 48, 49, 13, 10, 13, 10]⟩ : ByteArray)]) (ok := fun _ => True) (okp := fun _ => True) ?hr ?hp (fun _ hk => hk) trivial (Below.refl _ _) (Nat.le_refl _) (by simp) ?_; (case hd => rfl); (case hg => rfl); (case hr => first | (go_simp; done) | (go_simp; rfl)); (case hp => exact (Reps.one (show Kd.M Kd.string _ _ _ (⟨#[]⟩ : ByteArray) [.string (⟨#[]⟩ : ByteArray)] from rfl) (Reps.one (show Kd.M Kd.string _ _ _ (⟨#[72, 84, 84, 80, 47, 49, 46, 49, 32, 50, 48, 48, 32, 45]⟩ : ByteArray) [.string (⟨#[72, 84, 84, 80, 47, 49, 46, 49, 32, 50, 48, 48, 32, 45]⟩ : ByteArray)] from rfl) (Reps.one (show Kd.M Kd.string _ _ _ (⟨#[72, 84, 84, 80, 47, 49, 46, 49, 32, 50, 48, 48, 32, 45, 13, 10]⟩ : ByteArray) [.string (⟨#[72, 84, 84, 80, 47, 49, 46, 49, 32, 50, 48, 48, 32, 45, 13, 10]⟩ : ByteArray)] from rfl) (Reps.one (show Kd.M Kd.string _ _ _ (⟨#[72, 84, 84, 80, 47, 49, 46, 48, 32, 50, 48, 48, 32, 45, 13, 10, 13, 10]⟩ : ByteArray) [.string (⟨#[72, 84, 84, 80, 47, 49, 46, 48, 32, 50, 48, 48, 32, 45, 13, 10, 13, 10]⟩ : ByteArray)] from rfl) (Reps.one (show Kd.M Kd.string _ _ _ (⟨#[72, 84, 84, 80, 47, 49, 46, 49, 32, 50, 48, 32, 45, 13, 10, 13, 10]⟩ : ByteArray) [.string (⟨#[72, 84, 84, 80, 47, 49, 46, 49, 32, 50, 48, 32, 45, 13, 10, 13, 10]⟩ : ByteArray)] from rfl) (Reps.one (show Kd.M Kd.string _ _ _ (⟨#[72, 84, 84, 80, 47, 49, 46, 49, 32, 48, 57, 57, 32, 45, 13, 10, 13, 10]⟩ : ByteArray) [.string (⟨#[72, 84, 84, 80, 47, 49, 46, 49, 32, 48, 57, 57, 32, 45, 13, 10, 13, 10]⟩ : ByteArray)] from rfl) (Reps.one (show Kd.M Kd.string _ _ _ (⟨#[72, 84, 84, 80, 47, 49, 46, 49, 32, 54, 48, 48, 32, 45, 13, 10, 13, 10]⟩ : ByteArray) [.string (⟨#[72, 84, 84, 80, 47, 49, 46, 49, 32, 54, 48, 48, 32, 45, 13, 10, 13, 10]⟩ : ByteArray)] from rfl) (Reps.one (show Kd.M Kd.string _ _ _ (⟨#[72, 84, 84, 80, 47, 49, 46, 49, 32, 50, 120, 48, 32, 45, 13, 10, 13, 10]⟩ : ByteArray) [.string (⟨#[72, 84, 84, 80, 47, 49, 46, 49, 32, 50, 120, 48, 32, 45, 13, 10, 13, 10]⟩ : ByteArray)] from rfl) (Reps.one (show Kd.M Kd.string _ _ _ (⟨#[72, 84, 84, 80, 47, 49, 46, 49, 32, 50, 48, 48, 32, 45, 10, 10]⟩ : ByteArray) [.string (⟨#[72, 84, 84, 80, 47, 49, 46, 49, 32, 50, 48, 48, 32, 45, 10, 10]⟩ : ByteArray)] from rfl) (Reps.one (show Kd.M Kd.string _ _ _ (⟨#[72, 84, 84, 80, 47, 49, 46, 49, 32, 50, 48, 48, 32, 45, 13, 10, 120, 13, 10, 13, 10]⟩ : ByteArray) [.string (⟨#[72, 84, 84, 80, 47, 49, 46, 49, 32, 50, 48, 48, 32, 45, 13, 10, 120, 13, 10, 13, 10]⟩ : ByteArray)] from rfl) (Reps.one (show Kd.M Kd.string _ _ _ (⟨#[72, 84, 84, 80, 47, 49, 46, 49, 32, 50, 48, 48, 32, 45, 13, 10, 58, 32, 120, 13, 10, 13, 10]⟩ : ByteArray) [.string (⟨#[72, 84, 84, 80, 47, 49, 46, 49, 32, 50, 48, 48, 32, 45, 13, 10, 58, 32, 120, 13, 10, 13, 10]⟩ : ByteArray)] from rfl) (Reps.one (show Kd.M Kd.string _ _ _ (⟨#[72, 84, 84, 80, 47, 49, 46, 49, 32, 50, 48, 48, 32, 45, 13, 10, 97, 32, 98, 58, 32, 120, 13, 10, 13, 10]⟩ : ByteArray) [.string (⟨#[72, 84, 84, 80, 47, 49, 46, 49, 32, 50, 48, 48, 32, 45, 13, 10, 97, 32, 98, 58, 32, 120, 13, 10, 13, 10]⟩ : ByteArray)] from rfl) (Reps.one (show Kd.M Kd.string _ _ _ (⟨#[72, 84, 84, 80, 47, 49, 46, 49, 32, 50, 48, 48, 32, 45, 13, 10, 120, 58, 32, 9, 13, 10, 13, 10]⟩ : ByteArray) [.string (⟨#[72, 84, 84, 80, 47, 49, 46, 49, 32, 50, 48, 48, 32, 45, 13, 10, 120, 58, 32, 9, 13, 10, 13, 10]⟩ : ByteArray)] from rfl) (Reps.one (show Kd.M Kd.string _ _ _ (⟨#[72, 84, 84, 80, 47, 49, 46, 49, 32, 50, 48, 48, 32, 45, 13, 10, 99, 111, 110, 116, 101, 110, 116, 45, 108, 101, 110, 103, 116, 104, 58, 32, 120, 13, 10, 13, 10]⟩ : ByteArray) [.string (⟨#[72, 84, 84, 80, 47, 49, 46, 49, 32, 50, 48, 48, 32, 45, 13, 10, 99, 111, 110, 116, 101, 110, 116, 45, 108, 101, 110, 103, 116, 104, 58, 32, 120, 13, 10, 13, 10]⟩ : ByteArray)] from rfl) (Reps.one (show Kd.M Kd.string _ _ _ (⟨#[72, 84, 84, 80, 47, 49, 46, 49, 32, 50, 48, 48, 32, 45, 13, 10, 99, 111, 110, 116, 101, 110, 116, 45, 108, 101, 110, 103, 116, 104, 58, 32, 49, 50, 51, 52, 53, 54, 55, 13, 10, 13, 10]⟩ : ByteArray) [.string (⟨#[72, 84, 84, 80, 47, 49, 46, 49, 32, 50, 48, 48, 32, 45, 13, 10, 99, 111, 110, 116, 101, 110, 116, 45, 108, 101, 110, 103, 116, 104, 58, 32, 49, 50, 51, 52, 53, 54, 55, 13, 10, 13, 10]⟩ : ByteArray)] from rfl) (Reps.one (show Kd.M Kd.string _ _ _ (⟨#[72, 84, 84, 80, 47, 49, 46, 49, 32, 50, 48, 48, 32, 45, 13, 10, 99, 111, 110, 116, 101, 110, 116, 45, 108, 101, 110, 103, 116, 104, 58, 32, 49, 13, 10, 67, 111, 110, 116, 101, 110, 116, 45, 76, 101, 110, 103, 116, 104, 58, 32, 49, 13, 10, 13, 10, 97]⟩ : ByteArray) [.string (⟨#[72, 84, 84, 80, 47, 49, 46, 49, 32, 50, 48, 48, 32, 45, 13, 10, 99, 111, 110, 116, 101, 110, 116, 45, 108, 101, 110, 103, 116, 104, 58, 32, 49, 13, 10, 67, 111, 110, 116, 101, 110, 116, 45, 76, 101, 110, 103, 116, 104, 58, 32, 49, 13, 10, 13, 10, 97]⟩ : ByteArray)] from rfl) (Reps.one (show Kd.M Kd.string _ _ _ (⟨#[72, 84, 84, 80, 47, 49, 46, 49, 32, 50, 48, 48, 32, 45, 13, 10, 97, 58, 32, 49, 13, 10, 97, 58, 32, 49, 13, 10, 97, 58, 32, 49, 13, 10, 97, 58, 32, 49, 13, 10, 97, 58, 32, 49, 13, 10, 97, 58, 32, 49, 13, 10, 97, 58, 32, 49, 13, 10, 97, 58, 32, 49, 13, 10, 97, 58, 32, 49, 13, 10, 13, 10]⟩ : ByteArray) [.string (⟨#[72, 84, 84, 80, 47, 49, 46, 49, 32, 50, 48, 48, 32, 45, 13, 10, 97, 58, 32, 49, 13, 10, 97, 58, 32, 49, 13, 10, 97, 58, 32, 49, 13, 10, 97, 58, 32, 49, 13, 10, 97, 58, 32, 49, 13, 10, 97, 58, 32, 49, 13, 10, 97, 58, 32, 49, 13, 10, 97, 58, 32, 49, 13, 10, 97, 58, 32, 49, 13, 10, 13, 10]⟩ : ByteArray)] from rfl) (Reps.one (show Kd.M Kd.string _ _ _ (⟨#[72, 84, 84, 80, 47, 49, 46, 49, 32, 50, 48, 48, 32, 45, 13, 10, 97, 98, 99, 100, 101, 102, 103, 104, 105, 106, 107, 108, 109, 110, 111, 112, 113, 114, 115, 116, 117, 58, 32, 49, 13, 10, 13, 10]⟩ : ByteArray) [.string (⟨#[72, 84, 84, 80, 47, 49, 46, 49, 32, 50, 48, 48, 32, 45, 13, 10, 97, 98, 99, 100, 101, 102, 103, 104, 105, 106, 107, 108, 109, 110, 111, 112, 113, 114, 115, 116, 117, 58, 32, 49, 13, 10, 13, 10]⟩ : ByteArray)] from rfl) (Reps.one (show Kd.M Kd.string _ _ _ (⟨#[72, 84, 84, 80, 47, 49, 46, 49, 32, 50, 48, 48, 32, 45, 13, 10, 120, 58, 32, 49, 50, 51, 52, 53, 54, 55, 56, 57, 48, 49, 50, 51, 52, 53, 54, 55, 56, 57, 48, 49, 50, 51, 52, 53, 54, 55, 56, 57, 48, 49, 50, 51, 52, 53, 54, 55, 56, 57, 48, 49, 13, 10, 13, 10]⟩ : ByteArray) [.string (⟨#[72, 84, 84, 80, 47, 49, 46, 49, 32, 50, 48, 48, 32, 45, 13, 10, 120, 58, 32, 49, 50, 51, 52, 53, 54, 55, 56, 57, 48, 49, 50, 51, 52, 53, 54, 55, 56, 57, 48, 49, 50, 51, 52, 53, 54, 55, 56, 57, 48, 49, 50, 51, 52, 53, 54, 55, 56, 57, 48, 49, 13, 10, 13, 10]⟩ : ByteArray)] from rfl) (Reps.none _ _))))))))))))))))))))); intro v190 w59 ho60 hb hg_ hnew_; clear hg_ hnew_; (first | rw [← Ny189.out] at ho60 | (simp only [Int.reduceToNat] at ho60; rw [← Ny189.out] at ho60)); have n0_ := Aside0.mk (Kd.R_below (by (with_reducible repeat (first | apply Kd.R_alloc | apply Kd.R_drewN | apply Kd.R_drew)); exact HO_176001.out) hb); have n1_ := Aside0.mk (Kd.R_lower ho60 (below_size (by repeat (first | (with_reducible first | exact HB.out | apply below_alloc | apply pw_below_drewN | apply below_drew1 | refine below_set ?_ GE175.out) | exact HB.out)))); have n2_ := Aside0.mk (blk_below (g := gb175) (o := .cells #[.int .i64 t181, .slice Ao29 t182.length co29, .string t185, .bool t186] 29 (0, 0)) (by (with_reducible repeat (first | refine blk_drewN ?_ _ | refine blk_drew ?_ | refine blk_alloc ?_ _)); exact BK175.out) hb); have n3_ := Aside0.mk (below_step (by repeat (first | (with_reducible first | exact HB.out | apply below_alloc | apply pw_below_drewN | apply below_drew1 | refine below_set ?_ GE175.out) | exact HB.out)) hb); clear HO_176001; clear BK175; clear HB; have HO_176001 := n0_; have HO191 := n1_; have BK175 := n2_; have HB := n3_; clear n0_ n1_ n2_ n3_; clear hb ho60; obtain ⟨Ao61, co61, eo61⟩ := Kd.R_slice HO191.out; subst eo61) | ((with_reducible refine gate_callee (f := 12) rfl ?_); refine goesL_ (some 87) rfl rfl Tryd.func12 (by kernel_rfl) rfl #[.int .i64 a0, .int .i64 (y189.length : Int)] rfl (by (try simp only [List.map_toArray, List.map_cons, List.map_nil]); first | done | rfl | (simp only [List.length_drop, List.length_take]; rfl)) ?_; (with_reducible refine (postilionkeep_Within.calls a0 (y189.length : Int) t192 _ A42.out).mono ?_); rintro e w' ⟨rfl, ⟨nd, rfl⟩⟩; refine ⟨_, rfl, ?_⟩; (try (rw [drewN_self w59]; generalize hq_ : World.drewN w59 _ = w59; have n0_ : Aside0 (Kd.R Kd.string 9 w59 w.heap.size (fun _ => True) (.slice Ao61 y189.length co61) y189) := ⟨by rw [← hq_]; exact (by (with_reducible repeat (first | apply Kd.R_alloc | apply Kd.R_drewN | apply Kd.R_drew)); exact HO191.out)⟩; have n1_ : Aside0 (Kd.R k27 27 w59 w.heap.size (fun _ => True) (.slice Ao29 t182.length co29) t182) := ⟨by rw [← hq_]; exact (by (with_reducible repeat (first | apply Kd.R_alloc | apply Kd.R_drewN | apply Kd.R_drew)); exact HO_176001.out)⟩; have n2_ : Aside0 (w59.heap[gb175]? = some (.cells #[.int .i64 t181, .slice Ao29 t182.length co29, .string t185, .bool t186] 29 (0, 0))) := ⟨by rw [← hq_]; exact (by (with_reducible repeat (first | refine blk_drewN ?_ _ | refine blk_drew ?_ | refine blk_alloc ?_ _)); exact BK175.out)⟩; have n3_ : Aside0 (Below w.heap.size w w59) := ⟨by rw [← hq_]; exact (by repeat (first | (with_reducible first | exact HB.out | apply below_alloc | apply pw_below_drewN | apply below_drew1 | refine below_set ?_ GE175.out) | exact HB.out))⟩; clear HO191 HO_176001 BK175 HB hq_; have HO191 := n0_; have HO_176001 := n1_; have BK175 := n2_; have HB := n3_; clear n0_ n1_ n2_ n3_)); have p193 : 0 ≤ (t192 : Int) := of_decide_eq_true (by first | (with_reducible assumption) | assumption); have q193 : t192 < (y189.length : Int) := of_decide_eq_true (by first | (with_reducible assumption) | assumption); obtain ⟨ad193, e193, hx193_0⟩ := Kd.at_string (Kd.R_reads' HO191.out).2.2 t192 p193 q193; cases e193; replace p193 := eq_true p193; replace q193 := eq_true q193) | ((with_reducible refine gate_callee (f := 13) rfl ?_); refine goesL_ (some 90) rfl rfl Tryd.func13 (by kernel_rfl) rfl #[.string (rdOf ByteArray.empty y189 t192)] rfl (by (try simp only [List.map_toArray, List.map_cons, List.map_nil]); first | done | rfl | (simp only [List.length_drop, List.length_take]; rfl)) ?_; (with_reducible refine (reply_Parse.calls kj23 (rdOf ByteArray.empty y189 t192) t194 t195 t198 t199 t200 _ ?side1 A45.out).mono ?_); (case side1 => exact Gl.below hG (by repeat (first | (with_reducible first | exact HB.out | apply below_alloc | apply pw_below_drewN | apply below_drew1 | refine below_set ?_ GE175.out) | exact HB.out))); rintro e w62 ⟨v196, rfl, ho0, hb⟩; refine ⟨_, rfl, ?_⟩; have n0_ := Aside0.mk (Kd.R_elder' (by (with_reducible repeat (first | apply Kd.R_alloc | apply Kd.R_drewN | apply Kd.R_drew)); exact HO_176001.out) (Kd.R_base ho0) hb); have n1_ := Aside0.mk (Kd.R_below (by (with_reducible repeat (first | apply Kd.R_alloc | apply Kd.R_drewN | apply Kd.R_drew)); exact HO191.out) hb); have n2_ := Aside0.mk (Kd.R_lower (Kd.R_new' ho0 (Kd.R_lt (by (with_reducible repeat (first | apply Kd.R_alloc | apply Kd.R_drewN | apply Kd.R_drew)); exact HO_176001.out))) (below_size (by repeat (first | (with_reducible first | exact HB.out | apply below_alloc | apply pw_below_drewN | apply below_drew1 | refine below_set ?_ GE175.out) | exact HB.out)))); have n3_ := Aside0.mk (blk_below (g := gb175) (o := .cells #[.int .i64 t181, .slice Ao29 t182.length co29, .string t185, .bool t186] 29 (0, 0)) (by (with_reducible repeat (first | refine blk_drewN ?_ _ | refine blk_drew ?_ | refine blk_alloc ?_ _)); exact BK175.out) hb); have n4_ := Aside0.mk (below_step (by repeat (first | (with_reducible first | exact HB.out | apply below_alloc | apply pw_below_drewN | apply below_drew1 | refine below_set ?_ GE175.out) | exact HB.out)) hb); clear HO_176001; clear HO191; clear BK175; clear HB; have HO_176001 := n0_; have HO191 := n1_; have HO197 := n2_; have BK175 := n3_; have HB := n4_; clear n0_ n1_ n2_ n3_ n4_; (try clear hb); (try clear hb2); (try clear hk); (try clear hi); (try clear ho0); have hcz63_0 : w62.cell? ⟨gb175, 0, none⟩ = some (.int .i64 t181) := (blk_cell BK175.out 0).trans rfl; have hcz63_1 : w62.cell? ⟨gb175, 1, none⟩ = some (.slice Ao29 t182.length co29) := (blk_cell BK175.out 1).trans rfl; have hcz63_2 : w62.cell? ⟨gb175, 2, none⟩ = some (.string t185) := (blk_cell BK175.out 2).trans rfl; have hcz63_3 : w62.cell? ⟨gb175, 3, none⟩ = some (.bool t186) := (blk_cell BK175.out 3).trans rfl; have hfz63_0 := blk_frozen BK175.out 0; have hfz63_1 := blk_frozen BK175.out 1; have hfz63_2 := blk_frozen BK175.out 2; have hfz63_3 := blk_frozen BK175.out 3; obtain ⟨Ao64, co64, eo64⟩ := Kd.R_slice HO197.out; subst eo64) | ((with_reducible refine gate_callee (f := 30) rfl ?_); refine goesL_ (some 94) rfl rfl Tryd.func30 (by kernel_rfl) rfl #[.string (⟨#[48, 48, 48, 49, 50, 51]⟩ : ByteArray)] rfl (by (try simp only [List.map_toArray, List.map_cons, List.map_nil]); first | done | rfl | (simp only [List.length_drop, List.length_take]; rfl)) ?_; (with_reducible refine (reply_Number.calls kj23 (⟨#[48, 48, 48, 49, 50, 51]⟩ : ByteArray) t201 true _ A46.out).mono ?_); rintro e w' ⟨rfl, ⟨nd, rfl⟩⟩; refine ⟨_, rfl, ?_⟩) | ((with_reducible refine gate_callee (f := 30) rfl ?_); refine goesL_ (some 98) rfl rfl Tryd.func30 (by kernel_rfl) rfl #[.string (⟨#[49, 50, 51, 52, 53, 54, 55]⟩ : ByteArray)] rfl (by (try simp only [List.map_toArray, List.map_cons, List.map_nil]); first | done | rfl | (simp only [List.length_drop, List.length_take]; rfl)) ?_; (with_reducible refine (reply_Number.calls kj23 (⟨#[49, 50, 51, 52, 53, 54, 55]⟩ : ByteArray) t203 false _ A47.out).mono ?_); rintro e w' ⟨rfl, ⟨nd, rfl⟩⟩; refine ⟨_, rfl, ?_⟩) | ((with_reducible refine gate_callee (f := 30) rfl ?_); refine goesL_ (some 102) rfl rfl Tryd.func30 (by kernel_rfl) rfl #[.string (⟨#[]⟩ : ByteArray)] rfl (by (try simp only [List.map_toArray, List.map_cons, List.map_nil]); first | done | rfl | (simp only [List.length_drop, List.length_take]; rfl)) ?_; (with_reducible refine (reply_Number.calls kj23 (⟨#[]⟩ : ByteArray) t205 false _ A48.out).mono ?_); rintro e w' ⟨rfl, ⟨nd, rfl⟩⟩; refine ⟨_, rfl, ?_⟩) | ((with_reducible refine gate_callee (f := 30) rfl ?_); refine goesL_ (some 106) rfl rfl Tryd.func30 (by kernel_rfl) rfl #[.string (⟨#[45, 49]⟩ : ByteArray)] rfl (by (try simp only [List.map_toArray, List.map_cons, List.map_nil]); first | done | rfl | (simp only [List.length_drop, List.length_take]; rfl)) ?_; (with_reducible refine (reply_Number.calls kj23 (⟨#[45, 49]⟩ : ByteArray) t207 false _ A49.out).mono ?_); rintro e w' ⟨rfl, ⟨nd, rfl⟩⟩; refine ⟨_, rfl, ?_⟩) | (go_at_call 14; (with_reducible refine (postilionlaw09_wakes.calls kj23  t209 _ ?side1 A58.out).mono ?_); (case side1 => exact Gl.below hG (by repeat (first | (with_reducible first | exact HB.out | apply below_alloc | apply pw_below_drewN | apply below_drew1 | refine below_set ?_ GE175.out) | exact HB.out))); rintro e w65 ⟨rfl, hb⟩; have n0_ := Aside0.mk (Kd.R_below (by (with_reducible repeat (first | apply Kd.R_alloc | apply Kd.R_drewN | apply Kd.R_drew)); exact (Kd.R_mono (Kd.R_far (p := ⟨gb175, 3, none⟩) (Kd.R_far (p := ⟨gb175, 2, none⟩) (Kd.R_far (p := ⟨gb175, 1, none⟩) (Kd.R_far (p := ⟨gb175, 0, none⟩) (Kd.R_types HO_176001.out BK175.out (by decide)) (fun _ hk => hk.2) (.int .i64 t194)) (fun _ hk => hk.2) (.slice Ao64 t195.length co64)) (fun _ hk => hk.2) (.string t198)) (fun _ hk => hk.2) (.bool t199)) (fun _ h_ => h_.1))) hb); have n1_ := Aside0.mk (Kd.R_below (by (with_reducible repeat (first | apply Kd.R_alloc | apply Kd.R_drewN | apply Kd.R_drew)); exact (Kd.R_mono (Kd.R_far (p := ⟨gb175, 3, none⟩) (Kd.R_far (p := ⟨gb175, 2, none⟩) (Kd.R_far (p := ⟨gb175, 1, none⟩) (Kd.R_far (p := ⟨gb175, 0, none⟩) (Kd.R_types HO191.out BK175.out (by decide)) (fun _ hk => hk.2) (.int .i64 t194)) (fun _ hk => hk.2) (.slice Ao64 t195.length co64)) (fun _ hk => hk.2) (.string t198)) (fun _ hk => hk.2) (.bool t199)) (fun _ h_ => h_.1))) hb); have n2_ := Aside0.mk (Kd.R_below (by (with_reducible repeat (first | apply Kd.R_alloc | apply Kd.R_drewN | apply Kd.R_drew)); exact (Kd.R_mono (Kd.R_far (p := ⟨gb175, 3, none⟩) (Kd.R_far (p := ⟨gb175, 2, none⟩) (Kd.R_far (p := ⟨gb175, 1, none⟩) (Kd.R_far (p := ⟨gb175, 0, none⟩) (Kd.R_types HO197.out BK175.out (by decide)) (fun _ hk => hk.2) (.int .i64 t194)) (fun _ hk => hk.2) (.slice Ao64 t195.length co64)) (fun _ hk => hk.2) (.string t198)) (fun _ hk => hk.2) (.bool t199)) (fun _ h_ => h_.1))) hb); have n3_ := Aside0.mk (blk_below (g := gb175) (o := .cells #[.int .i64 t194, .slice Ao64 t195.length co64, .string t198, .bool t199] 29 (0, 0)) (by (with_reducible repeat (first | refine blk_drewN ?_ _ | refine blk_drew ?_ | refine blk_alloc ?_ _)); refine blk_put (cs := #[.int .i64 t194, .slice Ao64 t195.length co64, .string t198, .bool t186]) ?_ 3 _ rfl; (with_reducible repeat (first | refine blk_drewN ?_ _ | refine blk_drew ?_ | refine blk_alloc ?_ _)); refine blk_put (cs := #[.int .i64 t194, .slice Ao64 t195.length co64, .string t185, .bool t186]) ?_ 2 _ rfl; (with_reducible repeat (first | refine blk_drewN ?_ _ | refine blk_drew ?_ | refine blk_alloc ?_ _)); refine blk_put (cs := #[.int .i64 t194, .slice Ao29 t182.length co29, .string t185, .bool t186]) ?_ 1 _ rfl; (with_reducible repeat (first | refine blk_drewN ?_ _ | refine blk_drew ?_ | refine blk_alloc ?_ _)); refine blk_put (cs := #[.int .i64 t181, .slice Ao29 t182.length co29, .string t185, .bool t186]) ?_ 0 _ rfl; (with_reducible repeat (first | refine blk_drewN ?_ _ | refine blk_drew ?_ | refine blk_alloc ?_ _)); exact BK175.out) hb); have n4_ := Aside0.mk (below_step (by repeat (first | (with_reducible first | exact HB.out | apply below_alloc | apply pw_below_drewN | apply below_drew1 | refine below_set ?_ GE175.out) | exact HB.out)) hb); clear HO_176001; clear HO191; clear HO197; clear BK175; clear HB; have HO_176001 := n0_; have HO191 := n1_; have HO197 := n2_; have BK175 := n3_; have HB := n4_; clear n0_ n1_ n2_ n3_ n4_; (try clear hb); (try clear hb2); (try clear hk); (try clear hi)))
                                    go_ret
                                    exact ⟨by first | rfl | (simp [errW_none, errW_some] <;> rfl) | (simp [*, errW_none, errW_some] <;> rfl), by repeat (first | (with_reducible first | exact HB.out | apply below_alloc | apply pw_below_drewN | apply below_drew1 | refine below_set ?_ GE175.out) | exact HB.out)⟩
                            · rw [if_neg c54] at H
                              have c54b0 : (t201 == 123) = false := beq_eq_false_iff_ne.mpr c54
                              have c54b1 : (t201 != 123) = true := bne_iff_ne.mpr c54
                              obtain rfl := Option.some.inj H
                              cases hT
                          · replace c53 := Bool.eq_false_iff.mpr c53
                            subst c53
                            have H1 : (some false) = some r := by rw [if_neg (show ¬ (false = true) by decide)] at H; exact H
                            clear H
                            have H := H1
                            clear H1
                            obtain rfl := Option.some.inj H
                            cases hT
                        · rw [if_neg c52] at H
                          have c52b0 : ((t195.length : Int) == 0) = false := beq_eq_false_iff_ne.mpr c52
                          have c52b1 : ((t195.length : Int) != 0) = true := bne_iff_ne.mpr c52
                          have c52b2 : ¬ (t195 = []) := fun h_ => c52 (by rw [h_]; rfl)
                          obtain rfl := Option.some.inj H
                          cases hT
                      · rw [if_neg c51] at H
                        have c51b0 : (t194 == 0) = false := beq_eq_false_iff_ne.mpr c51
                        have c51b1 : (t194 != 0) = true := bne_iff_ne.mpr c51
                        obtain rfl := Option.some.inj H
                        cases hT
                    · rw [if_neg c50] at H
                      have c50b0 : (t200 == 2) = false := beq_eq_false_iff_ne.mpr c50
                      have c50b1 : (t200 != 2) = true := bne_iff_ne.mpr c50
                      obtain rfl := Option.some.inj H
                      cases hT
                  · rw [if_neg c44] at H
                    exact absurd H (by simp)
                · rw [if_neg c43] at H
                  exact absurd H (by simp)
        · rw [if_neg c22] at H
          have c22b0 : (t180.toList == ([72, 84, 84, 80, 47, 49, 46, 49, 32, 52, 48, 52, 32, 45, 13, 10, 65, 45, 98, 58, 32, 120, 32, 121, 13, 10, 67, 111, 110, 116, 101, 110, 116, 45, 76, 69, 78, 71, 84, 72, 58, 32, 51, 13, 10, 13, 10, 104, 101, 108] : List UInt8)) = false := beq_eq_false_iff_ne.mpr c22
          have c22b1 : (t180.toList != ([72, 84, 84, 80, 47, 49, 46, 49, 32, 52, 48, 52, 32, 45, 13, 10, 65, 45, 98, 58, 32, 120, 32, 121, 13, 10, 67, 111, 110, 116, 101, 110, 116, 45, 76, 69, 78, 71, 84, 72, 58, 32, 51, 13, 10, 13, 10, 104, 101, 108] : List UInt8)) = true := bne_iff_ne.mpr c22
          obtain rfl := Option.some.inj H
          cases hT

/-- THE ONE PURE STATEMENT of postilionlaw09_ReplyForms: yours. -/
def postilionlaw09_ReplyForms.Pure : Prop := ∀ (a0 : Int), (Lit.int .i64 a0).wf = true → ∃ k, postilionlaw09_ReplyForms.f k a0 = some true
theorem postilionlaw09_ReplyForms.walk (P : postilionlaw09_ReplyForms.Pure) (a0 : Int) (w : World) (w0 : (Lit.int .i64 a0).wf = true) (hG : Gl w) :
    Calls Tryd.prog 9 #[.int .i64 a0] w fun e w' => e = .returned (.bool true) ∧ Below w.heap.size w w' := by
  obtain ⟨k, h⟩ := P a0 w0
  refine (postilionlaw09_ReplyForms.calls k a0 true w hG rfl h).mono ?_
  rintro e w' ⟨rfl, hd⟩
  exact ⟨rfl, hd⟩

end Go.Proofs.YtllblgjhoeopjaaDoor.GReplyForms
