-- Made by this session's changed copy of the kit's printer (wip/myprint). Not trusted: Lean checks it.
import Derived.Test.YtllblgjhoeopjaaDoorVGReplyTellsx0
import Derived.Test.YtllblgjhoeopjaaDoorVGReplyTellsx7
import Derived.Test.YtllblgjhoeopjaaDoorVGReplyTellsx8
import Derived.Test.YtllblgjhoeopjaaDoorVGReplyTellsx9
import Derived.Test.YtllblgjhoeopjaaDoorVGivP
namespace Go.Proofs.YtllblgjhoeopjaaDoor.GReplyTells
open Go.RowKit Go.Proofs.YtllblgjhoeopjaaDoor.GivP Go.Proofs.YtllblgjhoeopjaaDoor.Mw Go.Proofs.YtllblgjhoeopjaaDoorW.PrintWords Go.Proofs.YtllblgjhoeopjaaDoorW.PrintLast Go.Proofs.YtllblgjhoeopjaaDoorW.PrintMore
attribute [local go_sem] max2_int min2_int max_two min_two max_three min_three max_four min_four   -- for this text's walks alone
set_option linter.unusedVariables false
set_option linter.unusedSimpArgs false

/-! ### postilionref01_ParseReply: function 32 -/
mutual
def postilionref01_ParseReply.j0 : Nat → ByteArray → ByteArray → Bool → Option (Int × (List (S27)) × ByteArray × Bool × Bool)
  | 0, _, _, _ => none
  | k + 1, x0, x4, x34 => if x34 = true then (some (0, ([] : List (S27)), (⟨#[]⟩ : ByteArray), false, false)) else (if 9 ≤ 12 then (if 12 ≤ (x4.size : Int) then ((postilionref01_Figures.f k (x4.extract 9 12) 3 3).bind fun bt222 => (if bt222.2 = true then (if bt222.1 < 100 then (postilionref01_ParseReply.j1 k x0 bt222.1 true) else (postilionref01_ParseReply.j1 k x0 bt222.1 (decide (bt222.1 > 599)))) else (postilionref01_ParseReply.j1 k x0 bt222.1 true))) else (none)) else (none))
def postilionref01_ParseReply.j1 : Nat → ByteArray → Int → Bool → Option (Int × (List (S27)) × ByteArray × Bool × Bool)
  | 0, _, _, _ => none
  | k + 1, x0, x6, x51 => if x51 = true then (some (0, ([] : List (S27)), (⟨#[]⟩ : ByteArray), false, false)) else (postilionref01_ParseReply.l0 k x0 0 false x6 ([] : List (S27)) (⟨#[]⟩ : ByteArray) false)
def postilionref01_ParseReply.l0 : Nat → ByteArray → Int → Bool → Int → List (S27) → ByteArray → Bool → Option (Int × (List (S27)) × ByteArray × Bool × Bool)
  | 0, _, _, _, _, _, _, _ => none
  | k + 1, x0, x8, x9, x225000, x225001, x225002, x225003 => (postilionref01_line.f k x0).bind fun bt225 => (if bt225.2.2 = true then (if bt225.1.toList = ([] : List UInt8) then (if x9 = true then (if 0 ≤ (mn x8 (bt225.2.1.size : Int)) then (if (mn x8 (bt225.2.1.size : Int)) ≤ (bt225.2.1.size : Int) then (some (x225000, x225001, bt225.2.1.extract 0 ((mn x8 (bt225.2.1.size : Int)) : Int).toNat, decide ((bt225.2.1.size : Int) < x8), true)) else (none)) else (none)) else (some (x225000, x225001, bt225.2.1, x225003, true))) else ((postilionref01_until.f k bt225.1 (⟨#[58]⟩ : ByteArray)).bind fun bt228 => (if bt228.2.toList = ([] : List UInt8) then (some (0, ([] : List (S27)), (⟨#[]⟩ : ByteArray), false, false)) else (if 1 ≤ (bt228.2.size : Int) then ((postilionref01_blanks.f k (bt228.2.extract 1 bt228.2.size)).bind fun t230 => ((postilionref01_Named.f k bt228.1 20).bind fun t231 => (if t231 = true then ((postilionref01_Valued.f k t230 40).bind fun t232 => (if t232 = true then (postilionref01_ParseReply.j3 k bt225.2.1 x8 x9 bt228.1 t230 ((x225001.length : Int) == 8) x225000 x225001 x225002 x225003) else (postilionref01_ParseReply.j3 k bt225.2.1 x8 x9 bt228.1 t230 true x225000 x225001 x225002 x225003))) else (postilionref01_ParseReply.j3 k bt225.2.1 x8 x9 bt228.1 t230 true x225000 x225001 x225002 x225003)))) else (none))))) else (some (0, ([] : List (S27)), (⟨#[]⟩ : ByteArray), false, false)))
def postilionref01_ParseReply.j3 : Nat → ByteArray → Int → Bool → ByteArray → ByteArray → Bool → Int → List (S27) → ByteArray → Bool → Option (Int × (List (S27)) × ByteArray × Bool × Bool)
  | 0, _, _, _, _, _, _, _, _, _, _ => none
  | k + 1, x0, x8, x9, x13, x14, x91, x225000, x225001, x225002, x225003 => if x91 = true then (some (0, ([] : List (S27)), (⟨#[]⟩ : ByteArray), false, false)) else (if x225001.length < 4398046511104 then ((some (x225001 ++ [(⟨x13, x14⟩ : S27)] : List (S27))).bind fun y233 => ((postilionref01_Lower.f x13).bind fun t236 => (if t236.toList = ([99, 111, 110, 116, 101, 110, 116, 45, 108, 101, 110, 103, 116, 104] : List UInt8) then ((postilionref01_Figures.f k x14 1 6).bind fun bt237 => (if bt237.2 = true then (if x9 = true then (some (0, ([] : List (S27)), (⟨#[]⟩ : ByteArray), false, false)) else (postilionref01_ParseReply.l0 k x0 bt237.1 true x225000 y233 x225002 x225003)) else (some (0, ([] : List (S27)), (⟨#[]⟩ : ByteArray), false, false)))) else (postilionref01_ParseReply.l0 k x0 x8 x9 x225000 y233 x225002 x225003)))) else (none))
end
def postilionref01_ParseReply.f (k : Nat) (a0 : ByteArray) : Option (Int × (List (S27)) × ByteArray × Bool × Bool) := (postilionref01_line.f k a0).bind fun bt218 => (if bt218.2.2 = true then ((postilionref01_begins.f bt218.1 (⟨#[72, 84, 84, 80, 47, 49, 46, 49, 32]⟩ : ByteArray)).bind fun t221 => (if t221 = true then (postilionref01_ParseReply.j0 k bt218.2.1 bt218.1 (decide ((bt218.1.size : Int) < 12))) else (postilionref01_ParseReply.j0 k bt218.2.1 bt218.1 true))) else (postilionref01_ParseReply.j0 k bt218.2.1 bt218.1 true))
theorem postilionref01_ParseReply.mono_l : ∀ k, (∀ y0 y1 y2, LeO (postilionref01_ParseReply.j0 k y0 y1 y2) (postilionref01_ParseReply.j0 (k + 1) y0 y1 y2)) ∧ (∀ y0 y1 y2, LeO (postilionref01_ParseReply.j1 k y0 y1 y2) (postilionref01_ParseReply.j1 (k + 1) y0 y1 y2)) ∧ (∀ y0 y1 y2 y3 y4 y5 y6, LeO (postilionref01_ParseReply.l0 k y0 y1 y2 y3 y4 y5 y6) (postilionref01_ParseReply.l0 (k + 1) y0 y1 y2 y3 y4 y5 y6)) ∧ (∀ y0 y1 y2 y3 y4 y5 y6 y7 y8 y9, LeO (postilionref01_ParseReply.j3 k y0 y1 y2 y3 y4 y5 y6 y7 y8 y9) (postilionref01_ParseReply.j3 (k + 1) y0 y1 y2 y3 y4 y5 y6 y7 y8 y9))
  | 0 => ⟨fun _ _ _ r h => by simp [postilionref01_ParseReply.j0] at h, fun _ _ _ r h => by simp [postilionref01_ParseReply.j1] at h, fun _ _ _ _ _ _ _ r h => by simp [postilionref01_ParseReply.l0] at h, fun _ _ _ _ _ _ _ _ _ _ r h => by simp [postilionref01_ParseReply.j3] at h⟩
  | k + 1 => by
    obtain ⟨ih0, ih1, ih2, ih3⟩ := postilionref01_ParseReply.mono_l k
    refine ⟨?_, ?_, ?_, ?_⟩
    · intro y0 y1 y2
      unfold postilionref01_ParseReply.j0
      repeat' first
      | (with_reducible exact ih0 _ _ _)
      | (with_reducible exact ih1 _ _ _)
      | (with_reducible exact ih2 _ _ _ _ _ _ _)
      | (with_reducible exact ih3 _ _ _ _ _ _ _ _ _ _)
      | (with_reducible exact postilionref01_Figures.mono _ _ _ _)
      | (with_reducible exact postilionref01_Named.mono _ _ _)
      | (with_reducible exact postilionref01_Valued.mono _ _ _)
      | (with_reducible exact postilionref01_blanks.mono _ _)
      | (with_reducible exact postilionref01_line.mono _ _)
      | (with_reducible exact postilionref01_until.mono _ _ _)
      | (with_reducible exact LeO.refl _)
      | (with_reducible exact LeO.none _)
      | (with_reducible refine LeO.ite ?_ ?_)
      | (with_reducible refine LeO.bind ?_ (fun _ => ?_))
      | exact ih0 _ _ _
      | exact ih1 _ _ _
      | exact ih2 _ _ _ _ _ _ _
      | exact ih3 _ _ _ _ _ _ _ _ _ _
      | exact postilionref01_Figures.mono _ _ _ _
      | exact postilionref01_Named.mono _ _ _
      | exact postilionref01_Valued.mono _ _ _
      | exact postilionref01_blanks.mono _ _
      | exact postilionref01_line.mono _ _
      | exact postilionref01_until.mono _ _ _
      | exact LeO.none _
      | refine LeO.ite ?_ ?_
      | refine LeO.bind ?_ (fun _ => ?_)
    · intro y0 y1 y2
      unfold postilionref01_ParseReply.j1
      repeat' first
      | (with_reducible exact ih0 _ _ _)
      | (with_reducible exact ih1 _ _ _)
      | (with_reducible exact ih2 _ _ _ _ _ _ _)
      | (with_reducible exact ih3 _ _ _ _ _ _ _ _ _ _)
      | (with_reducible exact postilionref01_Figures.mono _ _ _ _)
      | (with_reducible exact postilionref01_Named.mono _ _ _)
      | (with_reducible exact postilionref01_Valued.mono _ _ _)
      | (with_reducible exact postilionref01_blanks.mono _ _)
      | (with_reducible exact postilionref01_line.mono _ _)
      | (with_reducible exact postilionref01_until.mono _ _ _)
      | (with_reducible exact LeO.refl _)
      | (with_reducible exact LeO.none _)
      | (with_reducible refine LeO.ite ?_ ?_)
      | (with_reducible refine LeO.bind ?_ (fun _ => ?_))
      | exact ih0 _ _ _
      | exact ih1 _ _ _
      | exact ih2 _ _ _ _ _ _ _
      | exact ih3 _ _ _ _ _ _ _ _ _ _
      | exact postilionref01_Figures.mono _ _ _ _
      | exact postilionref01_Named.mono _ _ _
      | exact postilionref01_Valued.mono _ _ _
      | exact postilionref01_blanks.mono _ _
      | exact postilionref01_line.mono _ _
      | exact postilionref01_until.mono _ _ _
      | exact LeO.none _
      | refine LeO.ite ?_ ?_
      | refine LeO.bind ?_ (fun _ => ?_)
    · intro y0 y1 y2 y3 y4 y5 y6
      unfold postilionref01_ParseReply.l0
      repeat' first
      | (with_reducible exact ih0 _ _ _)
      | (with_reducible exact ih1 _ _ _)
      | (with_reducible exact ih2 _ _ _ _ _ _ _)
      | (with_reducible exact ih3 _ _ _ _ _ _ _ _ _ _)
      | (with_reducible exact postilionref01_Figures.mono _ _ _ _)
      | (with_reducible exact postilionref01_Named.mono _ _ _)
      | (with_reducible exact postilionref01_Valued.mono _ _ _)
      | (with_reducible exact postilionref01_blanks.mono _ _)
      | (with_reducible exact postilionref01_line.mono _ _)
      | (with_reducible exact postilionref01_until.mono _ _ _)
      | (with_reducible exact LeO.refl _)
      | (with_reducible exact LeO.none _)
      | (with_reducible refine LeO.ite ?_ ?_)
      | (with_reducible refine LeO.bind ?_ (fun _ => ?_))
      | exact ih0 _ _ _
      | exact ih1 _ _ _
      | exact ih2 _ _ _ _ _ _ _
      | exact ih3 _ _ _ _ _ _ _ _ _ _
      | exact postilionref01_Figures.mono _ _ _ _
      | exact postilionref01_Named.mono _ _ _
      | exact postilionref01_Valued.mono _ _ _
      | exact postilionref01_blanks.mono _ _
      | exact postilionref01_line.mono _ _
      | exact postilionref01_until.mono _ _ _
      | exact LeO.none _
      | refine LeO.ite ?_ ?_
      | refine LeO.bind ?_ (fun _ => ?_)
    · intro y0 y1 y2 y3 y4 y5 y6 y7 y8 y9
      unfold postilionref01_ParseReply.j3
      repeat' first
      | (with_reducible exact ih0 _ _ _)
      | (with_reducible exact ih1 _ _ _)
      | (with_reducible exact ih2 _ _ _ _ _ _ _)
      | (with_reducible exact ih3 _ _ _ _ _ _ _ _ _ _)
      | (with_reducible exact postilionref01_Figures.mono _ _ _ _)
      | (with_reducible exact postilionref01_Named.mono _ _ _)
      | (with_reducible exact postilionref01_Valued.mono _ _ _)
      | (with_reducible exact postilionref01_blanks.mono _ _)
      | (with_reducible exact postilionref01_line.mono _ _)
      | (with_reducible exact postilionref01_until.mono _ _ _)
      | (with_reducible exact LeO.refl _)
      | (with_reducible exact LeO.none _)
      | (with_reducible refine LeO.ite ?_ ?_)
      | (with_reducible refine LeO.bind ?_ (fun _ => ?_))
      | exact ih0 _ _ _
      | exact ih1 _ _ _
      | exact ih2 _ _ _ _ _ _ _
      | exact ih3 _ _ _ _ _ _ _ _ _ _
      | exact postilionref01_Figures.mono _ _ _ _
      | exact postilionref01_Named.mono _ _ _
      | exact postilionref01_Valued.mono _ _ _
      | exact postilionref01_blanks.mono _ _
      | exact postilionref01_line.mono _ _
      | exact postilionref01_until.mono _ _ _
      | exact LeO.none _
      | refine LeO.ite ?_ ?_
      | refine LeO.bind ?_ (fun _ => ?_)
theorem postilionref01_ParseReply.mono : ∀ a0 k, LeO (postilionref01_ParseReply.f k a0) (postilionref01_ParseReply.f (k + 1) a0) := by
  intro a0 k
  obtain ⟨ih0, ih1, ih2, ih3⟩ := postilionref01_ParseReply.mono_l k
  unfold postilionref01_ParseReply.f
  repeat' first
      | (with_reducible exact ih0 _ _ _)
      | (with_reducible exact ih1 _ _ _)
      | (with_reducible exact ih2 _ _ _ _ _ _ _)
      | (with_reducible exact ih3 _ _ _ _ _ _ _ _ _ _)
      | (with_reducible exact postilionref01_Figures.mono _ _ _ _)
      | (with_reducible exact postilionref01_Named.mono _ _ _)
      | (with_reducible exact postilionref01_Valued.mono _ _ _)
      | (with_reducible exact postilionref01_blanks.mono _ _)
      | (with_reducible exact postilionref01_line.mono _ _)
      | (with_reducible exact postilionref01_until.mono _ _ _)
      | (with_reducible exact LeO.refl _)
      | (with_reducible exact LeO.none _)
      | (with_reducible refine LeO.ite ?_ ?_)
      | (with_reducible refine LeO.bind ?_ (fun _ => ?_))
      | exact ih0 _ _ _
      | exact ih1 _ _ _
      | exact ih2 _ _ _ _ _ _ _
      | exact ih3 _ _ _ _ _ _ _ _ _ _
      | exact postilionref01_Figures.mono _ _ _ _
      | exact postilionref01_Named.mono _ _ _
      | exact postilionref01_Valued.mono _ _ _
      | exact postilionref01_blanks.mono _ _
      | exact postilionref01_line.mono _ _
      | exact postilionref01_until.mono _ _ _
      | exact LeO.none _
      | refine LeO.ite ?_ ?_
      | refine LeO.bind ?_ (fun _ => ?_)
set_option maxHeartbeats 8000000 in
set_option maxRecDepth 100000 in
theorem postilionref01_ParseReply.calls (k : Nat) (a0 : ByteArray) (r1 : Int) (r2 : List (S27)) (r3 : ByteArray) (r4 : Bool) (r5 : Bool) (w : World) (h : postilionref01_ParseReply.f k a0 = some (r1, r2, r3, r4, r5)) :
    Calls Tryd.prog 32 #[.string a0] w fun e w' => ∃ v1_ : Value, e = .returned (.tuple #[.agg #[.int .i64 r1, v1_, .string r3, .bool r4], .bool r5]) ∧ Kd.R k27 27 w' w.heap.size (fun _ => True) v1_ r2 ∧ Below w.heap.size w w' := by
  have hu45 := Tryd.underlying45
  have hu27 := Tryd.underlying27
  have HB := Aside0.mk (Below.refl w.heap.size w)
  have H : ((postilionref01_line.f k a0).bind fun bt218 => (if bt218.2.2 = true then ((postilionref01_begins.f bt218.1 (⟨#[72, 84, 84, 80, 47, 49, 46, 49, 32]⟩ : ByteArray)).bind fun t221 => (if t221 = true then (postilionref01_ParseReply.j0 k bt218.2.1 bt218.1 (decide ((bt218.1.size : Int) < 12))) else (postilionref01_ParseReply.j0 k bt218.2.1 bt218.1 true))) else (postilionref01_ParseReply.j0 k bt218.2.1 bt218.1 true))) = some (r1, r2, r3, r4, r5) := h
  clear h
  replace H := Option.bind_eq_some_iff.mp H
  obtain ⟨⟨t218, t219, t220⟩, A20, H⟩ := H
  replace H : (if t220 = true then ((postilionref01_begins.f t218 (⟨#[72, 84, 84, 80, 47, 49, 46, 49, 32]⟩ : ByteArray)).bind fun t221 => (if t221 = true then (postilionref01_ParseReply.j0 k t219 t218 (decide ((t218.size : Int) < 12))) else (postilionref01_ParseReply.j0 k t219 t218 true))) else (postilionref01_ParseReply.j0 k t219 t218 true)) = some (r1, r2, r3, r4, r5) := H
  have A2 := Aside0.mk A20
  clear A20
  have HC3 := Aside0.mk H
  clear H
  go_enter Tryd.func32, Tryd.ntmps32
  go_upto_region 2 with (first | ((with_reducible refine gate_dst (N := 2) rfl ?_); (try (refine gate_guard (by rfl) ?_; dsimp only)); refine box_event ?hg (N := 2) ?hd (cs := #[.int .i64 0, .slice none 0 0, .string (⟨#[]⟩ : ByteArray), .bool false]) (t := 45) ?hr ?_; (case hd => rfl); (case hg => rfl); (case hr => first | (go_simp; done) | (go_simp; rfl)); intro gb217 hg w4 hbox hb; have n0_ := Aside0.mk (below_step (by repeat (first | (with_reducible first | exact HB.out | apply below_alloc | apply pw_below_drewN | apply below_drew1) | exact HB.out)) hb); have n1_ := Aside0.mk (hbox); have n2_ := Aside0.mk ((by rw [hg]; exact (below_size (by repeat (first | (with_reducible first | exact HB.out | apply below_alloc | apply pw_below_drewN | apply below_drew1) | exact HB.out))) : w.heap.size ≤ gb217)); have n3_ := Aside0.mk ((by rw [hg]; exact (below_size (by repeat (first | (with_reducible first | exact HB.out | apply below_alloc | apply pw_below_drewN | apply below_drew1) | exact HB.out))) : w.heap.size ≤ gb217)); clear HB; have HB := n0_; have BK217 := n1_; have GW217 := n2_; have GE217 := n3_; clear n0_ n1_ n2_ n3_; clear hb hbox hg) | ((with_reducible refine gate_callee (f := 58) rfl ?_); refine goesL_ (some 19) rfl rfl Tryd.func58 (by kernel_rfl) rfl #[.string a0] rfl (by (try simp only [List.map_toArray, List.map_cons, List.map_nil]); first | done | rfl | (simp only [List.length_drop, List.length_take]; rfl)) ?_; (with_reducible refine (postilionref01_line.calls k a0 t218 t219 t220 _ A2.out).mono ?_); rintro e w' ⟨rfl, ⟨nd, rfl⟩⟩; refine ⟨_, rfl, ?_⟩))
  (try simp only [Act.put, List.setIfInBounds_toArray, List.set_cons_zero, List.set_cons_succ])
  go_cut [34] (fun v34 wc => ∃ (kq : Nat) (x34_2 : Bool), v34 = .bool x34_2 ∧ Aside0 (postilionref01_ParseReply.j0 kq t219 t218 x34_2 = some (r1, r2, r3, r4, r5)) ∧ Aside0 (kq ≤ k) ∧ Aside0 (wc.heap[gb217]? = some (.cells #[.int .i64 0, (.slice none 0 0), .string (⟨#[]⟩ : ByteArray), .bool false] 45 (0, 0))) ∧ Aside0 (Below w.heap.size w wc))
  case first =>
    have H := HC3.out
    clear HC3
    by_cases c5 : t220 = true
    · subst c5
      have H1 : ((postilionref01_begins.f t218 (⟨#[72, 84, 84, 80, 47, 49, 46, 49, 32]⟩ : ByteArray)).bind fun t221 => (if t221 = true then (postilionref01_ParseReply.j0 k t219 t218 (decide ((t218.size : Int) < 12))) else (postilionref01_ParseReply.j0 k t219 t218 true))) = some (r1, r2, r3, r4, r5) := by rw [if_pos rfl] at H; exact H
      clear H
      have H := H1
      clear H1
      replace H := Option.bind_eq_some_iff.mp H
      obtain ⟨t221, A60, H⟩ := H
      replace H : (if t221 = true then (postilionref01_ParseReply.j0 k t219 t218 (decide ((t218.size : Int) < 12))) else (postilionref01_ParseReply.j0 k t219 t218 true)) = some (r1, r2, r3, r4, r5) := H
      have A6 := Aside0.mk A60
      clear A60
      by_cases c7 : t221 = true
      · subst c7
        have H1 : (postilionref01_ParseReply.j0 k t219 t218 (decide ((t218.size : Int) < 12))) = some (r1, r2, r3, r4, r5) := by rw [if_pos rfl] at H; exact H
        clear H
        have H := H1
        clear H1
        have H' := Aside0.mk H
        clear H
        go_wp2_with (first | (go_at_call 59; (with_reducible refine (postilionref01_begins.calls t218 (⟨#[72, 84, 84, 80, 47, 49, 46, 49, 32]⟩ : ByteArray) true _ A6.out).mono ?_); rintro e w' ⟨rfl, ⟨nd, rfl⟩⟩))
        go_meet
        case rel => exact ⟨_, (decide ((t218.size : Int) < 12)), (by first | rfl | (simp; done) | (simp [*]; done)), H', ⟨by first | omega | exact Nat.le_refl _⟩, ⟨by (with_reducible repeat (first | refine blk_drewN ?_ _ | refine blk_drew ?_ | refine blk_alloc ?_ _)); exact BK217.out⟩, ⟨by repeat (first | (with_reducible first | exact HB.out | apply below_alloc | apply pw_below_drewN | apply below_drew1 | refine below_set ?_ GE217.out) | exact HB.out)⟩⟩
      · replace c7 := Bool.eq_false_iff.mpr c7
        subst c7
        have H1 : (postilionref01_ParseReply.j0 k t219 t218 true) = some (r1, r2, r3, r4, r5) := by rw [if_neg (show ¬ (false = true) by decide)] at H; exact H
        clear H
        have H := H1
        clear H1
        have H' := Aside0.mk H
        clear H
        go_wp2_with (first | (go_at_call 59; (with_reducible refine (postilionref01_begins.calls t218 (⟨#[72, 84, 84, 80, 47, 49, 46, 49, 32]⟩ : ByteArray) false _ A6.out).mono ?_); rintro e w' ⟨rfl, ⟨nd, rfl⟩⟩))
        go_meet
        case rel => exact ⟨_, (true), (by first | rfl | (simp; done) | (simp [*]; done)), H', ⟨by first | omega | exact Nat.le_refl _⟩, ⟨by (with_reducible repeat (first | refine blk_drewN ?_ _ | refine blk_drew ?_ | refine blk_alloc ?_ _)); exact BK217.out⟩, ⟨by repeat (first | (with_reducible first | exact HB.out | apply below_alloc | apply pw_below_drewN | apply below_drew1 | refine below_set ?_ GE217.out) | exact HB.out)⟩⟩
    · replace c5 := Bool.eq_false_iff.mpr c5
      subst c5
      have H1 : (postilionref01_ParseReply.j0 k t219 t218 true) = some (r1, r2, r3, r4, r5) := by rw [if_neg (show ¬ (false = true) by decide)] at H; exact H
      clear H
      have H := H1
      clear H1
      have H' := Aside0.mk H
      clear H
      go_wp2
      go_meet
      case rel => exact ⟨_, (true), (by first | rfl | (simp; done) | (simp [*]; done)), H', ⟨by first | omega | exact Nat.le_refl _⟩, ⟨by (with_reducible repeat (first | refine blk_drewN ?_ _ | refine blk_drew ?_ | refine blk_alloc ?_ _)); exact BK217.out⟩, ⟨by repeat (first | (with_reducible first | exact HB.out | apply below_alloc | apply pw_below_drewN | apply below_drew1 | refine below_set ?_ GE217.out) | exact HB.out)⟩⟩
  case rest =>
    clear HC3
    try clear p2
    try clear c3
    try clear c5
    try clear c7
    obtain ⟨kq, x34_2, rfl, HA, HJ2, BK217, HB⟩ := hcut
    cases kq with
    | zero => exact absurd HA.out (by simp [postilionref01_ParseReply.j0])
    | succ kj2 =>
      have H := HA.out
      clear HA
      simp only [postilionref01_ParseReply.j0] at H
      by_cases c8 : x34_2 = true
      · subst c8
        have H1 : (some (0, ([] : List (S27)), (⟨#[]⟩ : ByteArray), false, false)) = some (r1, r2, r3, r4, r5) := by rw [if_pos rfl] at H; exact H
        clear H
        have H := H1
        clear H1
        simp only [Option.some.injEq, Prod.mk.injEq] at H
        obtain ⟨rfl, rfl, rfl, rfl, rfl⟩ := H
        have hcz9_0 : wc.cell? ⟨gb217, 0, none⟩ = some (.int .i64 0) := (blk_cell BK217.out 0).trans rfl
        have hcz9_1 : wc.cell? ⟨gb217, 1, none⟩ = some (.slice none 0 0) := (blk_cell BK217.out 1).trans rfl
        have hcz9_2 : wc.cell? ⟨gb217, 2, none⟩ = some (.string (⟨#[]⟩ : ByteArray)) := (blk_cell BK217.out 2).trans rfl
        have hcz9_3 : wc.cell? ⟨gb217, 3, none⟩ = some (.bool false) := (blk_cell BK217.out 3).trans rfl
        have hfz9_0 := blk_frozen BK217.out 0
        have hfz9_1 := blk_frozen BK217.out 1
        have hfz9_2 := blk_frozen BK217.out 2
        have hfz9_3 := blk_frozen BK217.out 3
        go_wp2
        refine bodyPost_ret (results_ct rfl _ _ gb217 45 #[.int .i64 0, .slice none 0 0, .string (⟨#[]⟩ : ByteArray), .bool false] (0, 0) _ rfl (by (with_reducible repeat (first | refine blk_drewN ?_ _ | refine blk_drew ?_ | refine blk_alloc ?_ _)); refine blk_put (cs := #[.int .i64 0, .slice none 0 0, .string (⟨#[]⟩ : ByteArray), .bool false]) ?_ 3 _ rfl; (with_reducible repeat (first | refine blk_drewN ?_ _ | refine blk_drew ?_ | refine blk_alloc ?_ _)); refine blk_put (cs := #[.int .i64 0, .slice none 0 0, .string (⟨#[]⟩ : ByteArray), .bool false]) ?_ 2 _ rfl; (with_reducible repeat (first | refine blk_drewN ?_ _ | refine blk_drew ?_ | refine blk_alloc ?_ _)); refine blk_put (cs := #[.int .i64 0, .slice none 0 0, .string (⟨#[]⟩ : ByteArray), .bool false]) ?_ 1 _ rfl; (with_reducible repeat (first | refine blk_drewN ?_ _ | refine blk_drew ?_ | refine blk_alloc ?_ _)); refine blk_put (cs := #[.int .i64 0, .slice none 0 0, .string (⟨#[]⟩ : ByteArray), .bool false]) ?_ 0 _ rfl; (with_reducible repeat (first | refine blk_drewN ?_ _ | refine blk_drew ?_ | refine blk_alloc ?_ _)); exact BK217.out) Tryd.underlying45 rfl (by kernel_rfl)) rfl ?_
        exact ⟨_, by first | rfl | (simp [errW_none, errW_some] <;> rfl) | (simp [*, errW_none, errW_some] <;> rfl), by first | exact Kd.R_nil _ _ _ _ _ | exact Kd.N_nil _ _ _ _ _ | exact Kd.V_nil _ _ _ _ _ | exact Kd.Q_nil _ _ _ _ _ | exact Kd.S_nil _ _ _ _ _, by repeat (first | (with_reducible first | exact HB.out | apply below_alloc | apply pw_below_drewN | apply below_drew1 | refine below_set ?_ GE217.out) | exact HB.out)⟩
      · replace c8 := Bool.eq_false_iff.mpr c8
        subst c8
        have H1 : (if 9 ≤ 12 then (if 12 ≤ (t218.size : Int) then ((postilionref01_Figures.f kj2 (t218.extract 9 12) 3 3).bind fun bt222 => (if bt222.2 = true then (if bt222.1 < 100 then (postilionref01_ParseReply.j1 kj2 t219 bt222.1 true) else (postilionref01_ParseReply.j1 kj2 t219 bt222.1 (decide (bt222.1 > 599)))) else (postilionref01_ParseReply.j1 kj2 t219 bt222.1 true))) else (none)) else (none)) = some (r1, r2, r3, r4, r5) := by rw [if_neg (show ¬ (false = true) by decide)] at H; exact H
        clear H
        have H := H1
        clear H1
        by_cases c10 : 9 ≤ 12
        · rw [if_pos c10] at H
          have c10b0 := eq_true c10
          have c10b1 : decide (9 ≤ 12) = true := decide_eq_true c10
          clear c10
          by_cases c11 : 12 ≤ (t218.size : Int)
          · rw [if_pos c11] at H
            have c11b0 := eq_true c11
            have c11b1 : decide (12 ≤ (t218.size : Int)) = true := decide_eq_true c11
            clear c11
            replace H := Option.bind_eq_some_iff.mp H
            obtain ⟨⟨t222, t223⟩, A120, H⟩ := H
            replace H : (if t223 = true then (if t222 < 100 then (postilionref01_ParseReply.j1 kj2 t219 t222 true) else (postilionref01_ParseReply.j1 kj2 t219 t222 (decide (t222 > 599)))) else (postilionref01_ParseReply.j1 kj2 t219 t222 true)) = some (r1, r2, r3, r4, r5) := H
            have A12 := Aside0.mk A120
            clear A120
            have HC13 := Aside0.mk H
            clear H
            go_upto_region 5 with (first | ((with_reducible refine gate_callee (f := 34) rfl ?_); refine goesL_ (some 39) rfl rfl Tryd.func34 (by kernel_rfl) rfl #[.string (t218.extract 9 12), .int .i64 3, .int .i64 3] rfl (by (try simp only [List.map_toArray, List.map_cons, List.map_nil]); first | done | rfl | (simp only [List.length_drop, List.length_take]; rfl)) ?_; (with_reducible refine (postilionref01_Figures.calls kj2 (t218.extract 9 12) 3 3 t222 t223 _ A12.out).mono ?_); rintro e w' ⟨rfl, ⟨nd, rfl⟩⟩; refine ⟨_, rfl, ?_⟩))
            (try simp only [Act.put, List.setIfInBounds_toArray, List.set_cons_zero, List.set_cons_succ])
            go_cut [51] (fun v51 wc => ∃ (kq : Nat) (x51_12 : Bool), v51 = .bool x51_12 ∧ Aside0 (postilionref01_ParseReply.j1 kq t219 t222 x51_12 = some (r1, r2, r3, r4, r5)) ∧ Aside0 (kq ≤ kj2) ∧ Aside0 (wc.heap[gb217]? = some (.cells #[.int .i64 0, (.slice none 0 0), .string (⟨#[]⟩ : ByteArray), .bool false] 45 (0, 0))) ∧ Aside0 (Below w.heap.size w wc))
            case first =>
              have H := HC13.out
              clear HC13
              by_cases c14 : t223 = true
              · subst c14
                have H1 : (if t222 < 100 then (postilionref01_ParseReply.j1 kj2 t219 t222 true) else (postilionref01_ParseReply.j1 kj2 t219 t222 (decide (t222 > 599)))) = some (r1, r2, r3, r4, r5) := by rw [if_pos rfl] at H; exact H
                clear H
                have H := H1
                clear H1
                by_cases c15 : t222 < 100
                · rw [if_pos c15] at H
                  have c15b0 : decide (t222 < 100) = true := decide_eq_true c15
                  clear c15
                  (first | rw [c15b0] | (simp only [i64_w, i32_w]; rw [c15b0]) | skip)
                  have H' := Aside0.mk H
                  clear H
                  go_wp2
                  go_meet
                  case rel => exact ⟨_, (true), (by first | rfl | (simp; done) | (simp [*]; done)), H', ⟨by have := HJ2.out; first | omega | exact Nat.le_refl _⟩, ⟨by (with_reducible repeat (first | refine blk_drewN ?_ _ | refine blk_drew ?_ | refine blk_alloc ?_ _)); exact BK217.out⟩, ⟨by repeat (first | (with_reducible first | exact HB.out | apply below_alloc | apply pw_below_drewN | apply below_drew1 | refine below_set ?_ GE217.out) | exact HB.out)⟩⟩
                · rw [if_neg c15] at H
                  have c15b0 : decide (t222 < 100) = false := decide_eq_false c15
                  clear c15
                  (first | rw [c15b0] | (simp only [i64_w, i32_w]; rw [c15b0]) | skip)
                  have H' := Aside0.mk H
                  clear H
                  go_wp2
                  go_meet
                  case rel => exact ⟨_, (decide (t222 > 599)), (by first | rfl | (simp; done) | (simp [*]; done)), H', ⟨by have := HJ2.out; first | omega | exact Nat.le_refl _⟩, ⟨by (with_reducible repeat (first | refine blk_drewN ?_ _ | refine blk_drew ?_ | refine blk_alloc ?_ _)); exact BK217.out⟩, ⟨by repeat (first | (with_reducible first | exact HB.out | apply below_alloc | apply pw_below_drewN | apply below_drew1 | refine below_set ?_ GE217.out) | exact HB.out)⟩⟩
              · replace c14 := Bool.eq_false_iff.mpr c14
                subst c14
                have H1 : (postilionref01_ParseReply.j1 kj2 t219 t222 true) = some (r1, r2, r3, r4, r5) := by rw [if_neg (show ¬ (false = true) by decide)] at H; exact H
                clear H
                have H := H1
                clear H1
                have H' := Aside0.mk H
                clear H
                go_wp2
                go_meet
                case rel => exact ⟨_, (true), (by first | rfl | (simp; done) | (simp [*]; done)), H', ⟨by have := HJ2.out; first | omega | exact Nat.le_refl _⟩, ⟨by (with_reducible repeat (first | refine blk_drewN ?_ _ | refine blk_drew ?_ | refine blk_alloc ?_ _)); exact BK217.out⟩, ⟨by repeat (first | (with_reducible first | exact HB.out | apply below_alloc | apply pw_below_drewN | apply below_drew1 | refine below_set ?_ GE217.out) | exact HB.out)⟩⟩
            case rest =>
              clear HC13
              try clear c1
              try clear p2
              try clear c3
              try clear c5
              try clear c7
              try clear c8
              try clear c10
              try clear c10b0
              try clear c10b1
              try clear c11
              try clear c11b0
              try clear c11b1
              try clear c14
              try clear c15
              try clear c15b0
              try clear hcz9_0
              try clear hcz9_1
              try clear hcz9_2
              try clear hcz9_3
              try clear hfz9_0
              try clear hfz9_1
              try clear hfz9_2
              try clear hfz9_3
              try clear p2
              obtain ⟨kq, x51_12, rfl, HA, HJ12, BK217, HB⟩ := hcut
              cases kq with
              | zero => exact absurd HA.out (by simp [postilionref01_ParseReply.j1])
              | succ kj12 =>
                have H := HA.out
                clear HA
                simp only [postilionref01_ParseReply.j1] at H
                by_cases c16 : x51_12 = true
                · subst c16
                  have H1 : (some (0, ([] : List (S27)), (⟨#[]⟩ : ByteArray), false, false)) = some (r1, r2, r3, r4, r5) := by rw [if_pos rfl] at H; exact H
                  clear H
                  have H := H1
                  clear H1
                  simp only [Option.some.injEq, Prod.mk.injEq] at H
                  obtain ⟨rfl, rfl, rfl, rfl, rfl⟩ := H
                  have hcz17_0 : wc.cell? ⟨gb217, 0, none⟩ = some (.int .i64 0) := (blk_cell BK217.out 0).trans rfl
                  have hcz17_1 : wc.cell? ⟨gb217, 1, none⟩ = some (.slice none 0 0) := (blk_cell BK217.out 1).trans rfl
                  have hcz17_2 : wc.cell? ⟨gb217, 2, none⟩ = some (.string (⟨#[]⟩ : ByteArray)) := (blk_cell BK217.out 2).trans rfl
                  have hcz17_3 : wc.cell? ⟨gb217, 3, none⟩ = some (.bool false) := (blk_cell BK217.out 3).trans rfl
                  have hfz17_0 := blk_frozen BK217.out 0
                  have hfz17_1 := blk_frozen BK217.out 1
                  have hfz17_2 := blk_frozen BK217.out 2
                  have hfz17_3 := blk_frozen BK217.out 3
                  go_wp2
                  refine bodyPost_ret (results_ct rfl _ _ gb217 45 #[.int .i64 0, .slice none 0 0, .string (⟨#[]⟩ : ByteArray), .bool false] (0, 0) _ rfl (by (with_reducible repeat (first | refine blk_drewN ?_ _ | refine blk_drew ?_ | refine blk_alloc ?_ _)); refine blk_put (cs := #[.int .i64 0, .slice none 0 0, .string (⟨#[]⟩ : ByteArray), .bool false]) ?_ 3 _ rfl; (with_reducible repeat (first | refine blk_drewN ?_ _ | refine blk_drew ?_ | refine blk_alloc ?_ _)); refine blk_put (cs := #[.int .i64 0, .slice none 0 0, .string (⟨#[]⟩ : ByteArray), .bool false]) ?_ 2 _ rfl; (with_reducible repeat (first | refine blk_drewN ?_ _ | refine blk_drew ?_ | refine blk_alloc ?_ _)); refine blk_put (cs := #[.int .i64 0, .slice none 0 0, .string (⟨#[]⟩ : ByteArray), .bool false]) ?_ 1 _ rfl; (with_reducible repeat (first | refine blk_drewN ?_ _ | refine blk_drew ?_ | refine blk_alloc ?_ _)); refine blk_put (cs := #[.int .i64 0, .slice none 0 0, .string (⟨#[]⟩ : ByteArray), .bool false]) ?_ 0 _ rfl; (with_reducible repeat (first | refine blk_drewN ?_ _ | refine blk_drew ?_ | refine blk_alloc ?_ _)); exact BK217.out) Tryd.underlying45 rfl (by kernel_rfl)) rfl ?_
                  exact ⟨_, by first | rfl | (simp [errW_none, errW_some] <;> rfl) | (simp [*, errW_none, errW_some] <;> rfl), by first | exact Kd.R_nil _ _ _ _ _ | exact Kd.N_nil _ _ _ _ _ | exact Kd.V_nil _ _ _ _ _ | exact Kd.Q_nil _ _ _ _ _ | exact Kd.S_nil _ _ _ _ _, by repeat (first | (with_reducible first | exact HB.out | apply below_alloc | apply pw_below_drewN | apply below_drew1 | refine below_set ?_ GE217.out) | exact HB.out)⟩
                · replace c16 := Bool.eq_false_iff.mpr c16
                  subst c16
                  have H1 : (postilionref01_ParseReply.l0 kj12 t219 0 false t222 ([] : List (S27)) (⟨#[]⟩ : ByteArray) false) = some (r1, r2, r3, r4, r5) := by rw [if_neg (show ¬ (false = true) by decide)] at H; exact H
                  clear H
                  have H := H1
                  clear H1
                  have H' := Aside0.mk H
                  clear H
                  go_wp2_with (first | ((with_reducible refine gate_dst (N := 7) rfl ?_); (try (refine gate_guard (by rfl) ?_; dsimp only)); refine box_event ?hg (N := 7) ?hd (cs := #[.int .i64 0, .slice none 0 0, .string (⟨#[]⟩ : ByteArray), .bool false]) (t := 45) ?hr ?_; (case hd => rfl); (case hg => rfl); (case hr => first | (go_simp; done) | (go_simp; rfl)); intro gb224 hg w18 hbox hb; have n0_ := Aside0.mk (blk_below (g := gb217) (o := .cells #[.int .i64 0, .slice none 0 0, .string (⟨#[]⟩ : ByteArray), .bool false] 45 (0, 0)) (by (with_reducible repeat (first | refine blk_drewN ?_ _ | refine blk_drew ?_ | refine blk_alloc ?_ _)); exact BK217.out) hb); have n1_ := Aside0.mk (below_step (by repeat (first | (with_reducible first | exact HB.out | apply below_alloc | apply pw_below_drewN | apply below_drew1 | refine below_set ?_ GE217.out) | exact HB.out)) hb); have n2_ := Aside0.mk (hbox); have n3_ := Aside0.mk ((by rw [hg]; exact (below_size (by repeat (first | (with_reducible first | exact HB.out | apply below_alloc | apply pw_below_drewN | apply below_drew1 | refine below_set ?_ GE217.out) | exact HB.out))) : w.heap.size ≤ gb224)); have n4_ := Aside0.mk ((by rw [hg]; exact (below_size (by repeat (first | (with_reducible first | exact HB.out | apply below_alloc | apply pw_below_drewN | apply below_drew1 | refine below_set ?_ GE217.out) | exact HB.out))) : w.heap.size ≤ gb224)); have n5_ := Aside0.mk ((by rw [hg]; exact Nat.ne_of_lt (blk_lt (g := gb217) (o := .cells #[.int .i64 0, .slice none 0 0, .string (⟨#[]⟩ : ByteArray), .bool false] 45 (0, 0)) (by (with_reducible repeat (first | refine blk_drewN ?_ _ | refine blk_drew ?_ | refine blk_alloc ?_ _)); exact BK217.out)) : gb217 ≠ gb224)); have n6_ := Aside0.mk ((by rw [hg]; exact Nat.ne_of_gt (blk_lt (g := gb217) (o := .cells #[.int .i64 0, .slice none 0 0, .string (⟨#[]⟩ : ByteArray), .bool false] 45 (0, 0)) (by (with_reducible repeat (first | refine blk_drewN ?_ _ | refine blk_drew ?_ | refine blk_alloc ?_ _)); exact BK217.out)) : gb224 ≠ gb217)); clear BK217; clear HB; have BK217 := n0_; have HB := n1_; have BK224 := n2_; have GW224 := n3_; have GE224 := n4_; have NB217_224 := n5_; have NB224_217 := n6_; clear n0_ n1_ n2_ n3_ n4_ n5_ n6_; clear hb hbox hg; have hnb19 := NB224_217.out; have hnc19 := NB217_224.out; have hcz20_0 : w18.cell? ⟨gb224, 0, none⟩ = some (.int .i64 0) := (blk_cell BK224.out 0).trans rfl; have hcz20_1 : w18.cell? ⟨gb224, 1, none⟩ = some (.slice none 0 0) := (blk_cell BK224.out 1).trans rfl; have hcz20_2 : w18.cell? ⟨gb224, 2, none⟩ = some (.string (⟨#[]⟩ : ByteArray)) := (blk_cell BK224.out 2).trans rfl; have hcz20_3 : w18.cell? ⟨gb224, 3, none⟩ = some (.bool false) := (blk_cell BK224.out 3).trans rfl; have hfz20_0 := blk_frozen BK224.out 0; have hfz20_1 := blk_frozen BK224.out 1; have hfz20_2 := blk_frozen BK224.out 2; have hfz20_3 := blk_frozen BK224.out 3))
                  go_loopg [0, 8, 9] kj12 (fun kq v0 v8 v9 w' => ∃ (x0_3 : ByteArray) (x8_3 : Int) (x9_3 : Bool) (x218000_3 : Int) (x218002_3 : ByteArray) (x218003_3 : Bool) (x225001_3 : List (S27)) (u225001 : Value), v0 = .string x0_3 ∧ v8 = .int .i64 x8_3 ∧ v9 = .bool x9_3 ∧ Aside0 (postilionref01_ParseReply.l0 kq x0_3 x8_3 x9_3 t222 x225001_3 (⟨#[]⟩ : ByteArray) false = some (r1, r2, r3, r4, r5)) ∧ Aside0 (kq ≤ kj12) ∧ Aside0 (Kd.R k27 27 w' w.heap.size (fun _ => True) u225001 x225001_3) ∧ Aside0 (w'.heap[gb217]? = some (.cells #[.int .i64 x218000_3, (.slice none 0 0), .string x218002_3, .bool x218003_3] 45 (0, 0))) ∧ Aside0 (w'.heap[gb224]? = some (.cells #[.int .i64 t222, u225001, .string (⟨#[]⟩ : ByteArray), .bool false] 45 (0, 0))) ∧ Aside0 (Below w.heap.size w w'))
                  case atStart => exact ⟨(t219), (0), (false), (0), ((⟨#[]⟩ : ByteArray)), (false), (([] : List (S27))), (.slice none 0 0), (by first | rfl | (simp; done) | (simp [*]; done)), (by first | rfl | (simp; done) | (simp [*]; done)), (by first | rfl | (simp; done) | (simp [*]; done)), H', ⟨Nat.le_refl _⟩, ⟨by first | exact Kd.R_nil _ _ _ _ _ | exact Kd.N_nil _ _ _ _ _ | exact Kd.V_nil _ _ _ _ _ | exact Kd.Q_nil _ _ _ _ _ | exact Kd.S_nil _ _ _ _ _⟩, ⟨by (with_reducible repeat (first | refine blk_drewN ?_ _ | refine blk_drew ?_ | refine blk_alloc ?_ _)); refine blk_far ?_ NB217_224.out _; (with_reducible repeat (first | refine blk_drewN ?_ _ | refine blk_drew ?_ | refine blk_alloc ?_ _)); refine blk_far ?_ NB217_224.out _; (with_reducible repeat (first | refine blk_drewN ?_ _ | refine blk_drew ?_ | refine blk_alloc ?_ _)); refine blk_far ?_ NB217_224.out _; (with_reducible repeat (first | refine blk_drewN ?_ _ | refine blk_drew ?_ | refine blk_alloc ?_ _)); refine blk_far ?_ NB217_224.out _; (with_reducible repeat (first | refine blk_drewN ?_ _ | refine blk_drew ?_ | refine blk_alloc ?_ _)); exact BK217.out⟩, ⟨by (with_reducible repeat (first | refine blk_drewN ?_ _ | refine blk_drew ?_ | refine blk_alloc ?_ _)); refine blk_put (cs := #[.int .i64 t222, .slice none 0 0, .string (⟨#[]⟩ : ByteArray), .bool false]) ?_ 3 _ rfl; (with_reducible repeat (first | refine blk_drewN ?_ _ | refine blk_drew ?_ | refine blk_alloc ?_ _)); refine blk_put (cs := #[.int .i64 t222, .slice none 0 0, .string (⟨#[]⟩ : ByteArray), .bool false]) ?_ 2 _ rfl; (with_reducible repeat (first | refine blk_drewN ?_ _ | refine blk_drew ?_ | refine blk_alloc ?_ _)); refine blk_put (cs := #[.int .i64 t222, .slice none 0 0, .string (⟨#[]⟩ : ByteArray), .bool false]) ?_ 1 _ rfl; (with_reducible repeat (first | refine blk_drewN ?_ _ | refine blk_drew ?_ | refine blk_alloc ?_ _)); refine blk_put (cs := #[.int .i64 0, .slice none 0 0, .string (⟨#[]⟩ : ByteArray), .bool false]) ?_ 0 _ rfl; (with_reducible repeat (first | refine blk_drewN ?_ _ | refine blk_drew ?_ | refine blk_alloc ?_ _)); exact BK224.out⟩, ⟨by repeat (first | (with_reducible first | exact HB.out | apply below_alloc | apply pw_below_drewN | apply below_drew1 | refine below_set ?_ GE217.out | refine below_set ?_ GE224.out) | exact HB.out)⟩⟩
                  case round =>
                    clear H'
                    try clear c1
                    try clear p2
                    try clear c3
                    try clear c5
                    try clear c7
                    try clear c8
                    try clear c10
                    try clear c10b0
                    try clear c10b1
                    try clear c11
                    try clear c11b0
                    try clear c11b1
                    try clear c14
                    try clear c15
                    try clear c15b0
                    try clear c16
                    try clear c19
                    try clear hcz17_0
                    try clear hcz17_1
                    try clear hcz17_2
                    try clear hcz17_3
                    try clear hcz20_0
                    try clear hcz20_1
                    try clear hcz20_2
                    try clear hcz20_3
                    try clear hcz9_0
                    try clear hcz9_1
                    try clear hcz9_2
                    try clear hcz9_3
                    try clear hfz17_0
                    try clear hfz17_1
                    try clear hfz17_2
                    try clear hfz17_3
                    try clear hfz20_0
                    try clear hfz20_1
                    try clear hfz20_2
                    try clear hfz20_3
                    try clear hfz9_0
                    try clear hfz9_1
                    try clear hfz9_2
                    try clear hfz9_3
                    try clear p2
                    obtain ⟨x0_3, x8_3, x9_3, x218000_3, x218002_3, x218003_3, x225001_3, u225001, rfl, rfl, rfl, HA, HK3, HO_225001, BK217, BK224, HB⟩ := hrel
                    cases gk with
                    | zero => exact absurd HA.out (by simp [postilionref01_ParseReply.l0])
                    | succ k3 =>
                      have H := HA.out
                      clear HA
                      simp only [postilionref01_ParseReply.l0] at H
                      replace H := Option.bind_eq_some_iff.mp H
                      obtain ⟨⟨t225, t226, t227⟩, A210, H⟩ := H
                      replace H : (if t227 = true then (if t225.toList = ([] : List UInt8) then (if x9_3 = true then (if 0 ≤ (mn x8_3 (t226.size : Int)) then (if (mn x8_3 (t226.size : Int)) ≤ (t226.size : Int) then (some (t222, x225001_3, t226.extract 0 ((mn x8_3 (t226.size : Int)) : Int).toNat, decide ((t226.size : Int) < x8_3), true)) else (none)) else (none)) else (some (t222, x225001_3, t226, false, true))) else ((postilionref01_until.f k3 t225 (⟨#[58]⟩ : ByteArray)).bind fun bt228 => (if bt228.2.toList = ([] : List UInt8) then (some (0, ([] : List (S27)), (⟨#[]⟩ : ByteArray), false, false)) else (if 1 ≤ (bt228.2.size : Int) then ((postilionref01_blanks.f k3 (bt228.2.extract 1 bt228.2.size)).bind fun t230 => ((postilionref01_Named.f k3 bt228.1 20).bind fun t231 => (if t231 = true then ((postilionref01_Valued.f k3 t230 40).bind fun t232 => (if t232 = true then (postilionref01_ParseReply.j3 k3 t226 x8_3 x9_3 bt228.1 t230 ((x225001_3.length : Int) == 8) t222 x225001_3 (⟨#[]⟩ : ByteArray) false) else (postilionref01_ParseReply.j3 k3 t226 x8_3 x9_3 bt228.1 t230 true t222 x225001_3 (⟨#[]⟩ : ByteArray) false))) else (postilionref01_ParseReply.j3 k3 t226 x8_3 x9_3 bt228.1 t230 true t222 x225001_3 (⟨#[]⟩ : ByteArray) false)))) else (none))))) else (some (0, ([] : List (S27)), (⟨#[]⟩ : ByteArray), false, false))) = some (r1, r2, r3, r4, r5) := H
                      have A21 := Aside0.mk A210
                      clear A210
                      by_cases c22 : t227 = true
                      · subst c22
                        have H1 : (if t225.toList = ([] : List UInt8) then (if x9_3 = true then (if 0 ≤ (mn x8_3 (t226.size : Int)) then (if (mn x8_3 (t226.size : Int)) ≤ (t226.size : Int) then (some (t222, x225001_3, t226.extract 0 ((mn x8_3 (t226.size : Int)) : Int).toNat, decide ((t226.size : Int) < x8_3), true)) else (none)) else (none)) else (some (t222, x225001_3, t226, false, true))) else ((postilionref01_until.f k3 t225 (⟨#[58]⟩ : ByteArray)).bind fun bt228 => (if bt228.2.toList = ([] : List UInt8) then (some (0, ([] : List (S27)), (⟨#[]⟩ : ByteArray), false, false)) else (if 1 ≤ (bt228.2.size : Int) then ((postilionref01_blanks.f k3 (bt228.2.extract 1 bt228.2.size)).bind fun t230 => ((postilionref01_Named.f k3 bt228.1 20).bind fun t231 => (if t231 = true then ((postilionref01_Valued.f k3 t230 40).bind fun t232 => (if t232 = true then (postilionref01_ParseReply.j3 k3 t226 x8_3 x9_3 bt228.1 t230 ((x225001_3.length : Int) == 8) t222 x225001_3 (⟨#[]⟩ : ByteArray) false) else (postilionref01_ParseReply.j3 k3 t226 x8_3 x9_3 bt228.1 t230 true t222 x225001_3 (⟨#[]⟩ : ByteArray) false))) else (postilionref01_ParseReply.j3 k3 t226 x8_3 x9_3 bt228.1 t230 true t222 x225001_3 (⟨#[]⟩ : ByteArray) false)))) else (none))))) = some (r1, r2, r3, r4, r5) := by rw [if_pos rfl] at H; exact H
                        clear H
                        have H := H1
                        clear H1
                        by_cases c23 : t225.toList = ([] : List UInt8)
                        · rw [if_pos c23] at H
                          have c23b0 : (t225.toList == ([] : List UInt8)) = true := beq_iff_eq.mpr c23
                          have c23b1 : (t225.toList != ([] : List UInt8)) = false := bne_eq_false_iff_eq.mpr c23
                          clear c23
                          by_cases c24 : x9_3 = true
                          · subst c24
                            have H1 : (if 0 ≤ (mn x8_3 (t226.size : Int)) then (if (mn x8_3 (t226.size : Int)) ≤ (t226.size : Int) then (some (t222, x225001_3, t226.extract 0 ((mn x8_3 (t226.size : Int)) : Int).toNat, decide ((t226.size : Int) < x8_3), true)) else (none)) else (none)) = some (r1, r2, r3, r4, r5) := by rw [if_pos rfl] at H; exact H
                            clear H
                            have H := H1
                            clear H1
                            obtain ⟨ji25, hji25⟩ : ∃ j_ : Int, (mn x8_3 (t226.size : Int)) = j_ := ⟨_, rfl⟩
                            replace H : (if 0 ≤ (ji25) then (if (ji25) ≤ (t226.size : Int) then (some (t222, x225001_3, t226.extract 0 ((ji25) : Int).toNat, decide ((t226.size : Int) < x8_3), true)) else (none)) else (none)) = some (r1, r2, r3, r4, r5) := by first | (rw [hji25] at H; exact H) | (simp only [hji25] at H ⊢; exact H)
                            (try rw [hji25] at A21)
                            have hji25_ : (if (t226.size : Int) < x8_3 then (t226.size : Int) else x8_3) = ji25 := hji25
                            by_cases c26 : 0 ≤ (ji25)
                            · rw [if_pos c26] at H
                              have c26b0 := eq_true c26
                              have c26b1 : decide (0 ≤ (ji25)) = true := decide_eq_true c26
                              clear c26
                              by_cases c27 : (ji25) ≤ (t226.size : Int)
                              · rw [if_pos c27] at H
                                have c27b0 := eq_true c27
                                have c27b1 : decide ((ji25) ≤ (t226.size : Int)) = true := decide_eq_true c27
                                clear c27
                                simp only [Option.some.injEq, Prod.mk.injEq] at H
                                obtain ⟨rfl, rfl, rfl, rfl, rfl⟩ := H
                                go_wp2_with (first | ((with_reducible refine gate_callee (f := 58) rfl ?_); refine goesL_ (some 57) rfl rfl Tryd.func58 (by kernel_rfl) rfl #[.string x0_3] rfl (by (try simp only [List.map_toArray, List.map_cons, List.map_nil]); first | done | rfl | (simp only [List.length_drop, List.length_take]; rfl)) ?_; (with_reducible refine (postilionref01_line.calls k3 x0_3 t225 t226 true _ A21.out).mono ?_); rintro e w' ⟨rfl, ⟨nd, rfl⟩⟩; refine ⟨_, rfl, ?_⟩; (try (rw [drewN_self wr]; generalize hq_ : World.drewN wr _ = wr; have n0_ : Aside0 (Kd.R k27 27 wr w.heap.size (fun _ => True) u225001 x225001_3) := ⟨by rw [← hq_]; exact (by (with_reducible repeat (first | apply Kd.R_alloc | apply Kd.R_drewN | apply Kd.R_drew)); exact HO_225001.out)⟩; have n1_ : Aside0 (wr.heap[gb217]? = some (.cells #[.int .i64 x218000_3, .slice none 0 0, .string x218002_3, .bool x218003_3] 45 (0, 0))) := ⟨by rw [← hq_]; exact (by (with_reducible repeat (first | refine blk_drewN ?_ _ | refine blk_drew ?_ | refine blk_alloc ?_ _)); exact BK217.out)⟩; have n2_ : Aside0 (wr.heap[gb224]? = some (.cells #[.int .i64 t222, u225001, .string (⟨#[]⟩ : ByteArray), .bool false] 45 (0, 0))) := ⟨by rw [← hq_]; exact (by (with_reducible repeat (first | refine blk_drewN ?_ _ | refine blk_drew ?_ | refine blk_alloc ?_ _)); exact BK224.out)⟩; have n3_ : Aside0 (Below w.heap.size w wr) := ⟨by rw [← hq_]; exact (by repeat (first | (with_reducible first | exact HB.out | apply below_alloc | apply pw_below_drewN | apply below_drew1 | refine below_set ?_ GE217.out | refine below_set ?_ GE224.out) | exact HB.out))⟩; clear HO_225001 BK217 BK224 HB hq_; have HO_225001 := n0_; have BK217 := n1_; have BK224 := n2_; have HB := n3_; clear n0_ n1_ n2_ n3_)); have hnb28 := NB224_217.out; have hnc28 := NB217_224.out; have hcz29_0 : wr.cell? ⟨gb224, 0, none⟩ = some (.int .i64 t222) := (blk_cell BK224.out 0).trans rfl; have hcz29_1 : wr.cell? ⟨gb224, 1, none⟩ = some (u225001) := (blk_cell BK224.out 1).trans rfl; have hcz29_2 : wr.cell? ⟨gb224, 2, none⟩ = some (.string (⟨#[]⟩ : ByteArray)) := (blk_cell BK224.out 2).trans rfl; have hcz29_3 : wr.cell? ⟨gb224, 3, none⟩ = some (.bool false) := (blk_cell BK224.out 3).trans rfl; have hfz29_0 := blk_frozen BK224.out 0; have hfz29_1 := blk_frozen BK224.out 1; have hfz29_2 := blk_frozen BK224.out 2; have hfz29_3 := blk_frozen BK224.out 3; have hcz30_0 : wr.cell? ⟨gb217, 0, none⟩ = some (.int .i64 x218000_3) := (blk_cell BK217.out 0).trans rfl; have hcz30_1 : wr.cell? ⟨gb217, 1, none⟩ = some (.slice none 0 0) := (blk_cell BK217.out 1).trans rfl; have hcz30_2 : wr.cell? ⟨gb217, 2, none⟩ = some (.string x218002_3) := (blk_cell BK217.out 2).trans rfl; have hcz30_3 : wr.cell? ⟨gb217, 3, none⟩ = some (.bool x218003_3) := (blk_cell BK217.out 3).trans rfl; have hfz30_0 := blk_frozen BK217.out 0; have hfz30_1 := blk_frozen BK217.out 1; have hfz30_2 := blk_frozen BK217.out 2; have hfz30_3 := blk_frozen BK217.out 3; obtain ⟨Ao31, co31, eo31⟩ := Kd.R_slice HO_225001.out; subst eo31))
                                refine bodyPost_ret (results_ct rfl _ _ gb217 45 #[.int .i64 t222, .slice Ao31 x225001_3.length co31, .string (t226.extract 0 ((ji25) : Int).toNat), .bool (decide ((t226.size : Int) < x8_3))] (0, 0) _ rfl (by (with_reducible repeat (first | refine blk_drewN ?_ _ | refine blk_drew ?_ | refine blk_alloc ?_ _)); refine blk_put (cs := #[.int .i64 t222, .slice Ao31 x225001_3.length co31, .string (t226.extract 0 ((ji25) : Int).toNat), .bool x218003_3]) ?_ 3 _ rfl; (with_reducible repeat (first | refine blk_drewN ?_ _ | refine blk_drew ?_ | refine blk_alloc ?_ _)); refine blk_put (cs := #[.int .i64 t222, .slice Ao31 x225001_3.length co31, .string x218002_3, .bool x218003_3]) ?_ 2 _ rfl; (with_reducible repeat (first | refine blk_drewN ?_ _ | refine blk_drew ?_ | refine blk_alloc ?_ _)); refine blk_put (cs := #[.int .i64 t222, .slice none 0 0, .string x218002_3, .bool x218003_3]) ?_ 1 _ rfl; (with_reducible repeat (first | refine blk_drewN ?_ _ | refine blk_drew ?_ | refine blk_alloc ?_ _)); refine blk_put (cs := #[.int .i64 x218000_3, .slice none 0 0, .string x218002_3, .bool x218003_3]) ?_ 0 _ rfl; (with_reducible repeat (first | refine blk_drewN ?_ _ | refine blk_drew ?_ | refine blk_alloc ?_ _)); refine blk_far ?_ NB217_224.out _; (with_reducible repeat (first | refine blk_drewN ?_ _ | refine blk_drew ?_ | refine blk_alloc ?_ _)); refine blk_far ?_ NB217_224.out _; (with_reducible repeat (first | refine blk_drewN ?_ _ | refine blk_drew ?_ | refine blk_alloc ?_ _)); refine blk_far ?_ NB217_224.out _; (with_reducible repeat (first | refine blk_drewN ?_ _ | refine blk_drew ?_ | refine blk_alloc ?_ _)); exact BK217.out) Tryd.underlying45 rfl (by kernel_rfl)) rfl ?_
                                exact ⟨_, by first | rfl | (simp [errW_none, errW_some] <;> rfl) | (simp only [← hji25]; first | rfl | (simp [errW_none, errW_some] <;> rfl)) | (simp [*, errW_none, errW_some] <;> rfl), by (with_reducible repeat (first | apply Kd.R_alloc | apply Kd.R_drewN | apply Kd.R_drew)); exact Kd.R_mono (Kd.R_far (p := ⟨gb217, 3, none⟩) (Kd.R_far (p := ⟨gb217, 2, none⟩) (Kd.R_far (p := ⟨gb217, 1, none⟩) (Kd.R_far (p := ⟨gb217, 0, none⟩) (Kd.R_far (p := ⟨gb224, 2, none⟩) (Kd.R_far (p := ⟨gb224, 3, none⟩) (Kd.R_far (p := ⟨gb224, 2, none⟩) (Kd.R_types (Kd.R_types HO_225001.out BK224.out (by decide)) BK217.out (by decide)) (fun _ hk => hk.1.2) (.string t226)) (fun _ hk => hk.1.2) (.bool (decide ((t226.size : Int) < x8_3)))) (fun _ hk => hk.1.2) (.string (t226.extract 0 ((ji25) : Int).toNat))) (fun _ hk => hk.2) (.int .i64 t222)) (fun _ hk => hk.2) (.slice Ao31 x225001_3.length co31)) (fun _ hk => hk.2) (.string (t226.extract 0 ((ji25) : Int).toNat))) (fun _ hk => hk.2) (.bool (decide ((t226.size : Int) < x8_3)))) (fun _ hk => trivial), by repeat (first | (with_reducible first | exact HB.out | apply below_alloc | apply pw_below_drewN | apply below_drew1 | refine below_set ?_ GE217.out | refine below_set ?_ GE224.out) | exact HB.out)⟩
                              · rw [if_neg c27] at H
                                exact absurd H (by simp)
                            · rw [if_neg c26] at H
                              exact absurd H (by simp)
                          · replace c24 := Bool.eq_false_iff.mpr c24
                            subst c24
                            have H1 : (some (t222, x225001_3, t226, false, true)) = some (r1, r2, r3, r4, r5) := by rw [if_neg (show ¬ (false = true) by decide)] at H; exact H
                            clear H
                            have H := H1
                            clear H1
                            simp only [Option.some.injEq, Prod.mk.injEq] at H
                            obtain ⟨rfl, rfl, rfl, rfl, rfl⟩ := H
                            go_wp2_with (first | ((with_reducible refine gate_callee (f := 58) rfl ?_); refine goesL_ (some 57) rfl rfl Tryd.func58 (by kernel_rfl) rfl #[.string x0_3] rfl (by (try simp only [List.map_toArray, List.map_cons, List.map_nil]); first | done | rfl | (simp only [List.length_drop, List.length_take]; rfl)) ?_; (with_reducible refine (postilionref01_line.calls k3 x0_3 t225 t226 true _ A21.out).mono ?_); rintro e w' ⟨rfl, ⟨nd, rfl⟩⟩; refine ⟨_, rfl, ?_⟩; (try (rw [drewN_self wr]; generalize hq_ : World.drewN wr _ = wr; have n0_ : Aside0 (Kd.R k27 27 wr w.heap.size (fun _ => True) u225001 x225001_3) := ⟨by rw [← hq_]; exact (by (with_reducible repeat (first | apply Kd.R_alloc | apply Kd.R_drewN | apply Kd.R_drew)); exact HO_225001.out)⟩; have n1_ : Aside0 (wr.heap[gb217]? = some (.cells #[.int .i64 x218000_3, .slice none 0 0, .string x218002_3, .bool x218003_3] 45 (0, 0))) := ⟨by rw [← hq_]; exact (by (with_reducible repeat (first | refine blk_drewN ?_ _ | refine blk_drew ?_ | refine blk_alloc ?_ _)); exact BK217.out)⟩; have n2_ : Aside0 (wr.heap[gb224]? = some (.cells #[.int .i64 t222, u225001, .string (⟨#[]⟩ : ByteArray), .bool false] 45 (0, 0))) := ⟨by rw [← hq_]; exact (by (with_reducible repeat (first | refine blk_drewN ?_ _ | refine blk_drew ?_ | refine blk_alloc ?_ _)); exact BK224.out)⟩; have n3_ : Aside0 (Below w.heap.size w wr) := ⟨by rw [← hq_]; exact (by repeat (first | (with_reducible first | exact HB.out | apply below_alloc | apply pw_below_drewN | apply below_drew1 | refine below_set ?_ GE217.out | refine below_set ?_ GE224.out) | exact HB.out))⟩; clear HO_225001 BK217 BK224 HB hq_; have HO_225001 := n0_; have BK217 := n1_; have BK224 := n2_; have HB := n3_; clear n0_ n1_ n2_ n3_)); have hnb32 := NB224_217.out; have hnc32 := NB217_224.out; have hcz33_0 : wr.cell? ⟨gb224, 0, none⟩ = some (.int .i64 t222) := (blk_cell BK224.out 0).trans rfl; have hcz33_1 : wr.cell? ⟨gb224, 1, none⟩ = some (u225001) := (blk_cell BK224.out 1).trans rfl; have hcz33_2 : wr.cell? ⟨gb224, 2, none⟩ = some (.string (⟨#[]⟩ : ByteArray)) := (blk_cell BK224.out 2).trans rfl; have hcz33_3 : wr.cell? ⟨gb224, 3, none⟩ = some (.bool false) := (blk_cell BK224.out 3).trans rfl; have hfz33_0 := blk_frozen BK224.out 0; have hfz33_1 := blk_frozen BK224.out 1; have hfz33_2 := blk_frozen BK224.out 2; have hfz33_3 := blk_frozen BK224.out 3; have hcz34_0 : wr.cell? ⟨gb217, 0, none⟩ = some (.int .i64 x218000_3) := (blk_cell BK217.out 0).trans rfl; have hcz34_1 : wr.cell? ⟨gb217, 1, none⟩ = some (.slice none 0 0) := (blk_cell BK217.out 1).trans rfl; have hcz34_2 : wr.cell? ⟨gb217, 2, none⟩ = some (.string x218002_3) := (blk_cell BK217.out 2).trans rfl; have hcz34_3 : wr.cell? ⟨gb217, 3, none⟩ = some (.bool x218003_3) := (blk_cell BK217.out 3).trans rfl; have hfz34_0 := blk_frozen BK217.out 0; have hfz34_1 := blk_frozen BK217.out 1; have hfz34_2 := blk_frozen BK217.out 2; have hfz34_3 := blk_frozen BK217.out 3; obtain ⟨Ao35, co35, eo35⟩ := Kd.R_slice HO_225001.out; subst eo35))
                            refine bodyPost_ret (results_ct rfl _ _ gb217 45 #[.int .i64 t222, .slice Ao35 x225001_3.length co35, .string t226, .bool false] (0, 0) _ rfl (by (with_reducible repeat (first | refine blk_drewN ?_ _ | refine blk_drew ?_ | refine blk_alloc ?_ _)); refine blk_put (cs := #[.int .i64 t222, .slice Ao35 x225001_3.length co35, .string t226, .bool x218003_3]) ?_ 3 _ rfl; (with_reducible repeat (first | refine blk_drewN ?_ _ | refine blk_drew ?_ | refine blk_alloc ?_ _)); refine blk_put (cs := #[.int .i64 t222, .slice Ao35 x225001_3.length co35, .string x218002_3, .bool x218003_3]) ?_ 2 _ rfl; (with_reducible repeat (first | refine blk_drewN ?_ _ | refine blk_drew ?_ | refine blk_alloc ?_ _)); refine blk_put (cs := #[.int .i64 t222, .slice none 0 0, .string x218002_3, .bool x218003_3]) ?_ 1 _ rfl; (with_reducible repeat (first | refine blk_drewN ?_ _ | refine blk_drew ?_ | refine blk_alloc ?_ _)); refine blk_put (cs := #[.int .i64 x218000_3, .slice none 0 0, .string x218002_3, .bool x218003_3]) ?_ 0 _ rfl; (with_reducible repeat (first | refine blk_drewN ?_ _ | refine blk_drew ?_ | refine blk_alloc ?_ _)); refine blk_far ?_ NB217_224.out _; (with_reducible repeat (first | refine blk_drewN ?_ _ | refine blk_drew ?_ | refine blk_alloc ?_ _)); exact BK217.out) Tryd.underlying45 rfl (by kernel_rfl)) rfl ?_
                            exact ⟨_, by first | rfl | (simp [errW_none, errW_some] <;> rfl) | (simp [*, errW_none, errW_some] <;> rfl), by (with_reducible repeat (first | apply Kd.R_alloc | apply Kd.R_drewN | apply Kd.R_drew)); exact Kd.R_mono (Kd.R_far (p := ⟨gb217, 3, none⟩) (Kd.R_far (p := ⟨gb217, 2, none⟩) (Kd.R_far (p := ⟨gb217, 1, none⟩) (Kd.R_far (p := ⟨gb217, 0, none⟩) (Kd.R_far (p := ⟨gb224, 2, none⟩) (Kd.R_types (Kd.R_types HO_225001.out BK224.out (by decide)) BK217.out (by decide)) (fun _ hk => hk.1.2) (.string t226)) (fun _ hk => hk.2) (.int .i64 t222)) (fun _ hk => hk.2) (.slice Ao35 x225001_3.length co35)) (fun _ hk => hk.2) (.string t226)) (fun _ hk => hk.2) (.bool false)) (fun _ hk => trivial), by repeat (first | (with_reducible first | exact HB.out | apply below_alloc | apply pw_below_drewN | apply below_drew1 | refine below_set ?_ GE217.out | refine below_set ?_ GE224.out) | exact HB.out)⟩
                        · rw [if_neg c23] at H
                          have c23b0 : (t225.toList == ([] : List UInt8)) = false := beq_eq_false_iff_ne.mpr c23
                          have c23b1 : (t225.toList != ([] : List UInt8)) = true := bne_iff_ne.mpr c23
                          replace H := Option.bind_eq_some_iff.mp H
                          obtain ⟨⟨t228, t229⟩, A360, H⟩ := H
                          replace H : (if t229.toList = ([] : List UInt8) then (some (0, ([] : List (S27)), (⟨#[]⟩ : ByteArray), false, false)) else (if 1 ≤ (t229.size : Int) then ((postilionref01_blanks.f k3 (t229.extract 1 t229.size)).bind fun t230 => ((postilionref01_Named.f k3 t228 20).bind fun t231 => (if t231 = true then ((postilionref01_Valued.f k3 t230 40).bind fun t232 => (if t232 = true then (postilionref01_ParseReply.j3 k3 t226 x8_3 x9_3 t228 t230 ((x225001_3.length : Int) == 8) t222 x225001_3 (⟨#[]⟩ : ByteArray) false) else (postilionref01_ParseReply.j3 k3 t226 x8_3 x9_3 t228 t230 true t222 x225001_3 (⟨#[]⟩ : ByteArray) false))) else (postilionref01_ParseReply.j3 k3 t226 x8_3 x9_3 t228 t230 true t222 x225001_3 (⟨#[]⟩ : ByteArray) false)))) else (none))) = some (r1, r2, r3, r4, r5) := H
                          have A36 := Aside0.mk A360
                          clear A360
                          by_cases c37 : t229.toList = ([] : List UInt8)
                          · rw [if_pos c37] at H
                            have c37b0 : (t229.toList == ([] : List UInt8)) = true := beq_iff_eq.mpr c37
                            have c37b1 : (t229.toList != ([] : List UInt8)) = false := bne_eq_false_iff_eq.mpr c37
                            clear c37
                            simp only [Option.some.injEq, Prod.mk.injEq] at H
                            obtain ⟨rfl, rfl, rfl, rfl, rfl⟩ := H
                            go_wp2_with (first | ((with_reducible refine gate_callee (f := 58) rfl ?_); refine goesL_ (some 57) rfl rfl Tryd.func58 (by kernel_rfl) rfl #[.string x0_3] rfl (by (try simp only [List.map_toArray, List.map_cons, List.map_nil]); first | done | rfl | (simp only [List.length_drop, List.length_take]; rfl)) ?_; (with_reducible refine (postilionref01_line.calls k3 x0_3 t225 t226 true _ A21.out).mono ?_); rintro e w' ⟨rfl, ⟨nd, rfl⟩⟩; refine ⟨_, rfl, ?_⟩; (try (rw [drewN_self wr]; generalize hq_ : World.drewN wr _ = wr; have n0_ : Aside0 (Kd.R k27 27 wr w.heap.size (fun _ => True) u225001 x225001_3) := ⟨by rw [← hq_]; exact (by (with_reducible repeat (first | apply Kd.R_alloc | apply Kd.R_drewN | apply Kd.R_drew)); exact HO_225001.out)⟩; have n1_ : Aside0 (wr.heap[gb217]? = some (.cells #[.int .i64 x218000_3, .slice none 0 0, .string x218002_3, .bool x218003_3] 45 (0, 0))) := ⟨by rw [← hq_]; exact (by (with_reducible repeat (first | refine blk_drewN ?_ _ | refine blk_drew ?_ | refine blk_alloc ?_ _)); exact BK217.out)⟩; have n2_ : Aside0 (wr.heap[gb224]? = some (.cells #[.int .i64 t222, u225001, .string (⟨#[]⟩ : ByteArray), .bool false] 45 (0, 0))) := ⟨by rw [← hq_]; exact (by (with_reducible repeat (first | refine blk_drewN ?_ _ | refine blk_drew ?_ | refine blk_alloc ?_ _)); exact BK224.out)⟩; have n3_ : Aside0 (Below w.heap.size w wr) := ⟨by rw [← hq_]; exact (by repeat (first | (with_reducible first | exact HB.out | apply below_alloc | apply pw_below_drewN | apply below_drew1 | refine below_set ?_ GE217.out | refine below_set ?_ GE224.out) | exact HB.out))⟩; clear HO_225001 BK217 BK224 HB hq_; have HO_225001 := n0_; have BK217 := n1_; have BK224 := n2_; have HB := n3_; clear n0_ n1_ n2_ n3_))) | ((with_reducible refine gate_callee (f := 60) rfl ?_); refine goesL_ (some 69) rfl rfl Tryd.func60 (by kernel_rfl) rfl #[.string t225, .string (⟨#[58]⟩ : ByteArray)] rfl (by (try simp only [List.map_toArray, List.map_cons, List.map_nil]); first | done | rfl | (simp only [List.length_drop, List.length_take]; rfl)) ?_; (with_reducible refine (postilionref01_until.calls k3 t225 (⟨#[58]⟩ : ByteArray) t228 t229 _ A36.out).mono ?_); rintro e w' ⟨rfl, ⟨nd, rfl⟩⟩; refine ⟨_, rfl, ?_⟩; (try (rw [drewN_self wr]; generalize hq_ : World.drewN wr _ = wr; have n0_ : Aside0 (Kd.R k27 27 wr w.heap.size (fun _ => True) u225001 x225001_3) := ⟨by rw [← hq_]; exact (by (with_reducible repeat (first | apply Kd.R_alloc | apply Kd.R_drewN | apply Kd.R_drew)); exact HO_225001.out)⟩; have n1_ : Aside0 (wr.heap[gb217]? = some (.cells #[.int .i64 x218000_3, .slice none 0 0, .string x218002_3, .bool x218003_3] 45 (0, 0))) := ⟨by rw [← hq_]; exact (by (with_reducible repeat (first | refine blk_drewN ?_ _ | refine blk_drew ?_ | refine blk_alloc ?_ _)); exact BK217.out)⟩; have n2_ : Aside0 (wr.heap[gb224]? = some (.cells #[.int .i64 t222, u225001, .string (⟨#[]⟩ : ByteArray), .bool false] 45 (0, 0))) := ⟨by rw [← hq_]; exact (by (with_reducible repeat (first | refine blk_drewN ?_ _ | refine blk_drew ?_ | refine blk_alloc ?_ _)); exact BK224.out)⟩; have n3_ : Aside0 (Below w.heap.size w wr) := ⟨by rw [← hq_]; exact (by repeat (first | (with_reducible first | exact HB.out | apply below_alloc | apply pw_below_drewN | apply below_drew1 | refine below_set ?_ GE217.out | refine below_set ?_ GE224.out) | exact HB.out))⟩; clear HO_225001 BK217 BK224 HB hq_; have HO_225001 := n0_; have BK217 := n1_; have BK224 := n2_; have HB := n3_; clear n0_ n1_ n2_ n3_)); have hnb38 := NB217_224.out; have hnc38 := NB224_217.out; have hcz39_0 : wr.cell? ⟨gb217, 0, none⟩ = some (.int .i64 x218000_3) := (blk_cell BK217.out 0).trans rfl; have hcz39_1 : wr.cell? ⟨gb217, 1, none⟩ = some (.slice none 0 0) := (blk_cell BK217.out 1).trans rfl; have hcz39_2 : wr.cell? ⟨gb217, 2, none⟩ = some (.string x218002_3) := (blk_cell BK217.out 2).trans rfl; have hcz39_3 : wr.cell? ⟨gb217, 3, none⟩ = some (.bool x218003_3) := (blk_cell BK217.out 3).trans rfl; have hfz39_0 := blk_frozen BK217.out 0; have hfz39_1 := blk_frozen BK217.out 1; have hfz39_2 := blk_frozen BK217.out 2; have hfz39_3 := blk_frozen BK217.out 3))
                            refine bodyPost_ret (results_ct rfl _ _ gb217 45 #[.int .i64 0, .slice none 0 0, .string (⟨#[]⟩ : ByteArray), .bool false] (0, 0) _ rfl (by (with_reducible repeat (first | refine blk_drewN ?_ _ | refine blk_drew ?_ | refine blk_alloc ?_ _)); refine blk_put (cs := #[.int .i64 0, .slice none 0 0, .string (⟨#[]⟩ : ByteArray), .bool x218003_3]) ?_ 3 _ rfl; (with_reducible repeat (first | refine blk_drewN ?_ _ | refine blk_drew ?_ | refine blk_alloc ?_ _)); refine blk_put (cs := #[.int .i64 0, .slice none 0 0, .string x218002_3, .bool x218003_3]) ?_ 2 _ rfl; (with_reducible repeat (first | refine blk_drewN ?_ _ | refine blk_drew ?_ | refine blk_alloc ?_ _)); refine blk_put (cs := #[.int .i64 0, .slice none 0 0, .string x218002_3, .bool x218003_3]) ?_ 1 _ rfl; (with_reducible repeat (first | refine blk_drewN ?_ _ | refine blk_drew ?_ | refine blk_alloc ?_ _)); refine blk_put (cs := #[.int .i64 x218000_3, .slice none 0 0, .string x218002_3, .bool x218003_3]) ?_ 0 _ rfl; (with_reducible repeat (first | refine blk_drewN ?_ _ | refine blk_drew ?_ | refine blk_alloc ?_ _)); exact BK217.out) Tryd.underlying45 rfl (by kernel_rfl)) rfl ?_
                            exact ⟨_, by first | rfl | (simp [errW_none, errW_some] <;> rfl) | (simp [*, errW_none, errW_some] <;> rfl), by first | exact Kd.R_nil _ _ _ _ _ | exact Kd.N_nil _ _ _ _ _ | exact Kd.V_nil _ _ _ _ _ | exact Kd.Q_nil _ _ _ _ _ | exact Kd.S_nil _ _ _ _ _, by repeat (first | (with_reducible first | exact HB.out | apply below_alloc | apply pw_below_drewN | apply below_drew1 | refine below_set ?_ GE217.out | refine below_set ?_ GE224.out) | exact HB.out)⟩
                          · rw [if_neg c37] at H
                            have c37b0 : (t229.toList == ([] : List UInt8)) = false := beq_eq_false_iff_ne.mpr c37
                            have c37b1 : (t229.toList != ([] : List UInt8)) = true := bne_iff_ne.mpr c37
                            by_cases c40 : 1 ≤ (t229.size : Int)
                            · rw [if_pos c40] at H
                              have c40b0 := eq_true c40
                              have c40b1 : decide (1 ≤ (t229.size : Int)) = true := decide_eq_true c40
                              clear c40
                              replace H := Option.bind_eq_some_iff.mp H
                              obtain ⟨t230, A410, H⟩ := H
                              replace H : ((postilionref01_Named.f k3 t228 20).bind fun t231 => (if t231 = true then ((postilionref01_Valued.f k3 t230 40).bind fun t232 => (if t232 = true then (postilionref01_ParseReply.j3 k3 t226 x8_3 x9_3 t228 t230 ((x225001_3.length : Int) == 8) t222 x225001_3 (⟨#[]⟩ : ByteArray) false) else (postilionref01_ParseReply.j3 k3 t226 x8_3 x9_3 t228 t230 true t222 x225001_3 (⟨#[]⟩ : ByteArray) false))) else (postilionref01_ParseReply.j3 k3 t226 x8_3 x9_3 t228 t230 true t222 x225001_3 (⟨#[]⟩ : ByteArray) false))) = some (r1, r2, r3, r4, r5) := H
                              have A41 := Aside0.mk A410
                              clear A410
                              have HC42 := Aside0.mk H
                              clear H
                              go_upto_region 18 with (first | ((with_reducible refine gate_callee (f := 58) rfl ?_); refine goesL_ (some 57) rfl rfl Tryd.func58 (by kernel_rfl) rfl #[.string x0_3] rfl (by (try simp only [List.map_toArray, List.map_cons, List.map_nil]); first | done | rfl | (simp only [List.length_drop, List.length_take]; rfl)) ?_; (with_reducible refine (postilionref01_line.calls k3 x0_3 t225 t226 true _ A21.out).mono ?_); rintro e w' ⟨rfl, ⟨nd, rfl⟩⟩; refine ⟨_, rfl, ?_⟩) | ((with_reducible refine gate_callee (f := 60) rfl ?_); refine goesL_ (some 69) rfl rfl Tryd.func60 (by kernel_rfl) rfl #[.string t225, .string (⟨#[58]⟩ : ByteArray)] rfl (by (try simp only [List.map_toArray, List.map_cons, List.map_nil]); first | done | rfl | (simp only [List.length_drop, List.length_take]; rfl)) ?_; (with_reducible refine (postilionref01_until.calls k3 t225 (⟨#[58]⟩ : ByteArray) t228 t229 _ A36.out).mono ?_); rintro e w' ⟨rfl, ⟨nd, rfl⟩⟩; refine ⟨_, rfl, ?_⟩) | ((with_reducible refine gate_callee (f := 61) rfl ?_); refine goesL_ (some 77) rfl rfl Tryd.func61 (by kernel_rfl) rfl #[.string (t229.extract 1 t229.size)] rfl (by (try simp only [List.map_toArray, List.map_cons, List.map_nil]); first | done | rfl | (simp only [List.length_drop, List.length_take]; rfl)) ?_; (with_reducible refine (postilionref01_blanks.calls k3 (t229.extract 1 t229.size) t230 _ A41.out).mono ?_); rintro e w' ⟨rfl, ⟨nd, rfl⟩⟩; refine ⟨_, rfl, ?_⟩))
                              (try simp only [Act.put, List.setIfInBounds_toArray, List.set_cons_zero, List.set_cons_succ])
                              go_cut [91] (fun v91 wc => ∃ (kq : Nat) (x91_41 : Bool), v91 = .bool x91_41 ∧ Aside0 (postilionref01_ParseReply.j3 kq t226 x8_3 x9_3 t228 t230 x91_41 t222 x225001_3 (⟨#[]⟩ : ByteArray) false = some (r1, r2, r3, r4, r5)) ∧ Aside0 (kq ≤ k3) ∧ Aside0 (Kd.R k27 27 wc w.heap.size (fun _ => True) u225001 x225001_3) ∧ Aside0 (wc.heap[gb217]? = some (.cells #[.int .i64 x218000_3, (.slice none 0 0), .string x218002_3, .bool x218003_3] 45 (0, 0))) ∧ Aside0 (wc.heap[gb224]? = some (.cells #[.int .i64 t222, u225001, .string (⟨#[]⟩ : ByteArray), .bool false] 45 (0, 0))) ∧ Aside0 (Below w.heap.size w wc))
                              case first =>
                                have H := HC42.out
                                clear HC42
                                replace H := Option.bind_eq_some_iff.mp H
                                obtain ⟨t231, A430, H⟩ := H
                                replace H : (if t231 = true then ((postilionref01_Valued.f k3 t230 40).bind fun t232 => (if t232 = true then (postilionref01_ParseReply.j3 k3 t226 x8_3 x9_3 t228 t230 ((x225001_3.length : Int) == 8) t222 x225001_3 (⟨#[]⟩ : ByteArray) false) else (postilionref01_ParseReply.j3 k3 t226 x8_3 x9_3 t228 t230 true t222 x225001_3 (⟨#[]⟩ : ByteArray) false))) else (postilionref01_ParseReply.j3 k3 t226 x8_3 x9_3 t228 t230 true t222 x225001_3 (⟨#[]⟩ : ByteArray) false)) = some (r1, r2, r3, r4, r5) := H
                                have A43 := Aside0.mk A430
                                clear A430
                                by_cases c44 : t231 = true
                                · subst c44
                                  have H1 : ((postilionref01_Valued.f k3 t230 40).bind fun t232 => (if t232 = true then (postilionref01_ParseReply.j3 k3 t226 x8_3 x9_3 t228 t230 ((x225001_3.length : Int) == 8) t222 x225001_3 (⟨#[]⟩ : ByteArray) false) else (postilionref01_ParseReply.j3 k3 t226 x8_3 x9_3 t228 t230 true t222 x225001_3 (⟨#[]⟩ : ByteArray) false))) = some (r1, r2, r3, r4, r5) := by rw [if_pos rfl] at H; exact H
                                  clear H
                                  have H := H1
                                  clear H1
                                  replace H := Option.bind_eq_some_iff.mp H
                                  obtain ⟨t232, A450, H⟩ := H
                                  replace H : (if t232 = true then (postilionref01_ParseReply.j3 k3 t226 x8_3 x9_3 t228 t230 ((x225001_3.length : Int) == 8) t222 x225001_3 (⟨#[]⟩ : ByteArray) false) else (postilionref01_ParseReply.j3 k3 t226 x8_3 x9_3 t228 t230 true t222 x225001_3 (⟨#[]⟩ : ByteArray) false)) = some (r1, r2, r3, r4, r5) := H
                                  have A45 := Aside0.mk A450
                                  clear A450
                                  by_cases c46 : t232 = true
                                  · subst c46
                                    have H1 : (postilionref01_ParseReply.j3 k3 t226 x8_3 x9_3 t228 t230 ((x225001_3.length : Int) == 8) t222 x225001_3 (⟨#[]⟩ : ByteArray) false) = some (r1, r2, r3, r4, r5) := by rw [if_pos rfl] at H; exact H
                                    clear H
                                    have H := H1
                                    clear H1
                                    have H' := Aside0.mk H
                                    clear H
                                    go_wp2_with (first | ((with_reducible refine gate_callee (f := 62) rfl ?_); refine goesL_ (some 79) rfl rfl Tryd.func62 (by kernel_rfl) rfl #[.string t228, .int .i64 20] rfl (by (try simp only [List.map_toArray, List.map_cons, List.map_nil]); first | done | rfl | (simp only [List.length_drop, List.length_take]; rfl)) ?_; (with_reducible refine (postilionref01_Named.calls k3 t228 20 true _ A43.out).mono ?_); rintro e w' ⟨rfl, ⟨nd, rfl⟩⟩; refine ⟨_, rfl, ?_⟩) | (go_at_call 63; (with_reducible refine (postilionref01_Valued.calls k3 t230 40 true _ A45.out).mono ?_); rintro e w' ⟨rfl, ⟨nd, rfl⟩⟩; have hnb47 := NB224_217.out; have hnc47 := NB217_224.out; have hcz48_0 : wr.cell? ⟨gb224, 0, none⟩ = some (.int .i64 t222) := (blk_cell BK224.out 0).trans rfl; have hcz48_1 : wr.cell? ⟨gb224, 1, none⟩ = some (u225001) := (blk_cell BK224.out 1).trans rfl; have hcz48_2 : wr.cell? ⟨gb224, 2, none⟩ = some (.string (⟨#[]⟩ : ByteArray)) := (blk_cell BK224.out 2).trans rfl; have hcz48_3 : wr.cell? ⟨gb224, 3, none⟩ = some (.bool false) := (blk_cell BK224.out 3).trans rfl; have hfz48_0 := blk_frozen BK224.out 0; have hfz48_1 := blk_frozen BK224.out 1; have hfz48_2 := blk_frozen BK224.out 2; have hfz48_3 := blk_frozen BK224.out 3; obtain ⟨Ao49, co49, eo49⟩ := Kd.R_slice HO_225001.out; subst eo49))
                                    go_meet
                                    case rel => exact ⟨_, (((x225001_3.length : Int) == 8)), (by first | rfl | (simp; done) | (simp [*]; done)), H', ⟨by have := HJ2.out; have := HJ12.out; have := HK3.out; first | omega | exact Nat.le_refl _⟩, ⟨by (with_reducible repeat (first | apply Kd.R_alloc | apply Kd.R_drewN | apply Kd.R_drew)); exact HO_225001.out⟩, ⟨by (with_reducible repeat (first | refine blk_drewN ?_ _ | refine blk_drew ?_ | refine blk_alloc ?_ _)); exact BK217.out⟩, ⟨by (with_reducible repeat (first | refine blk_drewN ?_ _ | refine blk_drew ?_ | refine blk_alloc ?_ _)); exact BK224.out⟩, ⟨by repeat (first | (with_reducible first | exact HB.out | apply below_alloc | apply pw_below_drewN | apply below_drew1 | refine below_set ?_ GE217.out | refine below_set ?_ GE224.out) | exact HB.out)⟩⟩
                                  · replace c46 := Bool.eq_false_iff.mpr c46
                                    subst c46
                                    have H1 : (postilionref01_ParseReply.j3 k3 t226 x8_3 x9_3 t228 t230 true t222 x225001_3 (⟨#[]⟩ : ByteArray) false) = some (r1, r2, r3, r4, r5) := by rw [if_neg (show ¬ (false = true) by decide)] at H; exact H
                                    clear H
                                    have H := H1
                                    clear H1
                                    have H' := Aside0.mk H
                                    clear H
                                    go_wp2_with (first | ((with_reducible refine gate_callee (f := 62) rfl ?_); refine goesL_ (some 79) rfl rfl Tryd.func62 (by kernel_rfl) rfl #[.string t228, .int .i64 20] rfl (by (try simp only [List.map_toArray, List.map_cons, List.map_nil]); first | done | rfl | (simp only [List.length_drop, List.length_take]; rfl)) ?_; (with_reducible refine (postilionref01_Named.calls k3 t228 20 true _ A43.out).mono ?_); rintro e w' ⟨rfl, ⟨nd, rfl⟩⟩; refine ⟨_, rfl, ?_⟩) | (go_at_call 63; (with_reducible refine (postilionref01_Valued.calls k3 t230 40 false _ A45.out).mono ?_); rintro e w' ⟨rfl, ⟨nd, rfl⟩⟩))
                                    go_meet
                                    case rel => exact ⟨_, (true), (by first | rfl | (simp; done) | (simp [*]; done)), H', ⟨by have := HJ2.out; have := HJ12.out; have := HK3.out; first | omega | exact Nat.le_refl _⟩, ⟨by (with_reducible repeat (first | apply Kd.R_alloc | apply Kd.R_drewN | apply Kd.R_drew)); exact HO_225001.out⟩, ⟨by (with_reducible repeat (first | refine blk_drewN ?_ _ | refine blk_drew ?_ | refine blk_alloc ?_ _)); exact BK217.out⟩, ⟨by (with_reducible repeat (first | refine blk_drewN ?_ _ | refine blk_drew ?_ | refine blk_alloc ?_ _)); exact BK224.out⟩, ⟨by repeat (first | (with_reducible first | exact HB.out | apply below_alloc | apply pw_below_drewN | apply below_drew1 | refine below_set ?_ GE217.out | refine below_set ?_ GE224.out) | exact HB.out)⟩⟩
                                · replace c44 := Bool.eq_false_iff.mpr c44
                                  subst c44
                                  have H1 : (postilionref01_ParseReply.j3 k3 t226 x8_3 x9_3 t228 t230 true t222 x225001_3 (⟨#[]⟩ : ByteArray) false) = some (r1, r2, r3, r4, r5) := by rw [if_neg (show ¬ (false = true) by decide)] at H; exact H
                                  clear H
                                  have H := H1
                                  clear H1
                                  have H' := Aside0.mk H
                                  clear H
                                  go_wp2_with (first | ((with_reducible refine gate_callee (f := 62) rfl ?_); refine goesL_ (some 79) rfl rfl Tryd.func62 (by kernel_rfl) rfl #[.string t228, .int .i64 20] rfl (by (try simp only [List.map_toArray, List.map_cons, List.map_nil]); first | done | rfl | (simp only [List.length_drop, List.length_take]; rfl)) ?_; (with_reducible refine (postilionref01_Named.calls k3 t228 20 false _ A43.out).mono ?_); rintro e w' ⟨rfl, ⟨nd, rfl⟩⟩; refine ⟨_, rfl, ?_⟩))
                                  go_meet
                                  case rel => exact ⟨_, (true), (by first | rfl | (simp; done) | (simp [*]; done)), H', ⟨by have := HJ2.out; have := HJ12.out; have := HK3.out; first | omega | exact Nat.le_refl _⟩, ⟨by (with_reducible repeat (first | apply Kd.R_alloc | apply Kd.R_drewN | apply Kd.R_drew)); exact HO_225001.out⟩, ⟨by (with_reducible repeat (first | refine blk_drewN ?_ _ | refine blk_drew ?_ | refine blk_alloc ?_ _)); exact BK217.out⟩, ⟨by (with_reducible repeat (first | refine blk_drewN ?_ _ | refine blk_drew ?_ | refine blk_alloc ?_ _)); exact BK224.out⟩, ⟨by repeat (first | (with_reducible first | exact HB.out | apply below_alloc | apply pw_below_drewN | apply below_drew1 | refine below_set ?_ GE217.out | refine below_set ?_ GE224.out) | exact HB.out)⟩⟩
                              case rest =>
                                clear HC42
                                try clear c1
                                try clear c2
                                try clear p2
                                try clear c3
                                try clear c4
                                try clear c5
                                try clear c6
                                try clear c7
                                try clear c8
                                try clear c10
                                try clear c10b0
                                try clear c10b1
                                try clear c11
                                try clear c11b0
                                try clear c11b1
                                try clear c14
                                try clear c15
                                try clear c15b0
                                try clear c16
                                try clear c19
                                try clear c22
                                try clear c23
                                try clear c23b0
                                try clear c23b1
                                try clear c24
                                try clear c26
                                try clear c26b0
                                try clear c26b1
                                try clear c27
                                try clear c27b0
                                try clear c27b1
                                try clear c28
                                try clear c32
                                try clear c34
                                try clear c37
                                try clear c37b0
                                try clear c37b1
                                try clear c38
                                try clear c40
                                try clear c40b0
                                try clear c40b1
                                try clear c44
                                try clear c46
                                try clear c47
                                try clear hcz17_0
                                try clear hcz17_1
                                try clear hcz17_2
                                try clear hcz17_3
                                try clear hcz20_0
                                try clear hcz20_1
                                try clear hcz20_2
                                try clear hcz20_3
                                try clear hcz29_0
                                try clear hcz29_1
                                try clear hcz29_2
                                try clear hcz29_3
                                try clear hcz30_0
                                try clear hcz30_1
                                try clear hcz30_2
                                try clear hcz30_3
                                try clear hcz33_0
                                try clear hcz33_1
                                try clear hcz33_2
                                try clear hcz33_3
                                try clear hcz34_0
                                try clear hcz34_1
                                try clear hcz34_2
                                try clear hcz34_3
                                try clear hcz39_0
                                try clear hcz39_1
                                try clear hcz39_2
                                try clear hcz39_3
                                try clear hcz48_0
                                try clear hcz48_1
                                try clear hcz48_2
                                try clear hcz48_3
                                try clear hcz9_0
                                try clear hcz9_1
                                try clear hcz9_2
                                try clear hcz9_3
                                try clear hfz17_0
                                try clear hfz17_1
                                try clear hfz17_2
                                try clear hfz17_3
                                try clear hfz20_0
                                try clear hfz20_1
                                try clear hfz20_2
                                try clear hfz20_3
                                try clear hfz29_0
                                try clear hfz29_1
                                try clear hfz29_2
                                try clear hfz29_3
                                try clear hfz30_0
                                try clear hfz30_1
                                try clear hfz30_2
                                try clear hfz30_3
                                try clear hfz33_0
                                try clear hfz33_1
                                try clear hfz33_2
                                try clear hfz33_3
                                try clear hfz34_0
                                try clear hfz34_1
                                try clear hfz34_2
                                try clear hfz34_3
                                try clear hfz39_0
                                try clear hfz39_1
                                try clear hfz39_2
                                try clear hfz39_3
                                try clear hfz48_0
                                try clear hfz48_1
                                try clear hfz48_2
                                try clear hfz48_3
                                try clear hfz9_0
                                try clear hfz9_1
                                try clear hfz9_2
                                try clear hfz9_3
                                try clear p2
                                obtain ⟨kq, x91_41, rfl, HA, HJ41, HO_225001, BK217, BK224, HB⟩ := hcut
                                cases kq with
                                | zero => exact absurd HA.out (by simp [postilionref01_ParseReply.j3])
                                | succ kj41 =>
                                  have H := HA.out
                                  clear HA
                                  simp only [postilionref01_ParseReply.j3] at H
                                  by_cases c50 : x91_41 = true
                                  · subst c50
                                    have H1 : (some (0, ([] : List (S27)), (⟨#[]⟩ : ByteArray), false, false)) = some (r1, r2, r3, r4, r5) := by rw [if_pos rfl] at H; exact H
                                    clear H
                                    have H := H1
                                    clear H1
                                    simp only [Option.some.injEq, Prod.mk.injEq] at H
                                    obtain ⟨rfl, rfl, rfl, rfl, rfl⟩ := H
                                    have hnb51 := NB217_224.out
                                    have hnc51 := NB224_217.out
                                    have hcz52_0 : wc.cell? ⟨gb217, 0, none⟩ = some (.int .i64 x218000_3) := (blk_cell BK217.out 0).trans rfl
                                    have hcz52_1 : wc.cell? ⟨gb217, 1, none⟩ = some (.slice none 0 0) := (blk_cell BK217.out 1).trans rfl
                                    have hcz52_2 : wc.cell? ⟨gb217, 2, none⟩ = some (.string x218002_3) := (blk_cell BK217.out 2).trans rfl
                                    have hcz52_3 : wc.cell? ⟨gb217, 3, none⟩ = some (.bool x218003_3) := (blk_cell BK217.out 3).trans rfl
                                    have hfz52_0 := blk_frozen BK217.out 0
                                    have hfz52_1 := blk_frozen BK217.out 1
                                    have hfz52_2 := blk_frozen BK217.out 2
                                    have hfz52_3 := blk_frozen BK217.out 3
                                    go_wp2
                                    refine bodyPost_ret (results_ct rfl _ _ gb217 45 #[.int .i64 0, .slice none 0 0, .string (⟨#[]⟩ : ByteArray), .bool false] (0, 0) _ rfl (by (with_reducible repeat (first | refine blk_drewN ?_ _ | refine blk_drew ?_ | refine blk_alloc ?_ _)); refine blk_put (cs := #[.int .i64 0, .slice none 0 0, .string (⟨#[]⟩ : ByteArray), .bool x218003_3]) ?_ 3 _ rfl; (with_reducible repeat (first | refine blk_drewN ?_ _ | refine blk_drew ?_ | refine blk_alloc ?_ _)); refine blk_put (cs := #[.int .i64 0, .slice none 0 0, .string x218002_3, .bool x218003_3]) ?_ 2 _ rfl; (with_reducible repeat (first | refine blk_drewN ?_ _ | refine blk_drew ?_ | refine blk_alloc ?_ _)); refine blk_put (cs := #[.int .i64 0, .slice none 0 0, .string x218002_3, .bool x218003_3]) ?_ 1 _ rfl; (with_reducible repeat (first | refine blk_drewN ?_ _ | refine blk_drew ?_ | refine blk_alloc ?_ _)); refine blk_put (cs := #[.int .i64 x218000_3, .slice none 0 0, .string x218002_3, .bool x218003_3]) ?_ 0 _ rfl; (with_reducible repeat (first | refine blk_drewN ?_ _ | refine blk_drew ?_ | refine blk_alloc ?_ _)); exact BK217.out) Tryd.underlying45 rfl (by kernel_rfl)) rfl ?_
                                    exact ⟨_, by first | rfl | (simp [errW_none, errW_some] <;> rfl) | (simp [*, errW_none, errW_some] <;> rfl), by first | exact Kd.R_nil _ _ _ _ _ | exact Kd.N_nil _ _ _ _ _ | exact Kd.V_nil _ _ _ _ _ | exact Kd.Q_nil _ _ _ _ _ | exact Kd.S_nil _ _ _ _ _, by repeat (first | (with_reducible first | exact HB.out | apply below_alloc | apply pw_below_drewN | apply below_drew1 | refine below_set ?_ GE217.out | refine below_set ?_ GE224.out) | exact HB.out)⟩
                                  · replace c50 := Bool.eq_false_iff.mpr c50
                                    subst c50
                                    have H1 : (if x225001_3.length < 4398046511104 then ((some (x225001_3 ++ [(⟨t228, t230⟩ : S27)] : List (S27))).bind fun y233 => ((postilionref01_Lower.f t228).bind fun t236 => (if t236.toList = ([99, 111, 110, 116, 101, 110, 116, 45, 108, 101, 110, 103, 116, 104] : List UInt8) then ((postilionref01_Figures.f kj41 t230 1 6).bind fun bt237 => (if bt237.2 = true then (if x9_3 = true then (some (0, ([] : List (S27)), (⟨#[]⟩ : ByteArray), false, false)) else (postilionref01_ParseReply.l0 kj41 t226 bt237.1 true t222 y233 (⟨#[]⟩ : ByteArray) false)) else (some (0, ([] : List (S27)), (⟨#[]⟩ : ByteArray), false, false)))) else (postilionref01_ParseReply.l0 kj41 t226 x8_3 x9_3 t222 y233 (⟨#[]⟩ : ByteArray) false)))) else (none)) = some (r1, r2, r3, r4, r5) := by rw [if_neg (show ¬ (false = true) by decide)] at H; exact H
                                    clear H
                                    have H := H1
                                    clear H1
                                    by_cases c53 : x225001_3.length < 4398046511104
                                    · rw [if_pos c53] at H
                                      have LMc53 := Aside0.mk c53
                                      clear c53
                                      obtain ⟨y233, hy233⟩ : ∃ y_ : List (S27), y_ = (x225001_3 ++ [(⟨t228, t230⟩ : S27)]) := ⟨_, rfl⟩
                                      replace H : ((postilionref01_Lower.f t228).bind fun t236 => (if t236.toList = ([99, 111, 110, 116, 101, 110, 116, 45, 108, 101, 110, 103, 116, 104] : List UInt8) then ((postilionref01_Figures.f kj41 t230 1 6).bind fun bt237 => (if bt237.2 = true then (if x9_3 = true then (some (0, ([] : List (S27)), (⟨#[]⟩ : ByteArray), false, false)) else (postilionref01_ParseReply.l0 kj41 t226 bt237.1 true t222 y233 (⟨#[]⟩ : ByteArray) false)) else (some (0, ([] : List (S27)), (⟨#[]⟩ : ByteArray), false, false)))) else (postilionref01_ParseReply.l0 kj41 t226 x8_3 x9_3 t222 y233 (⟨#[]⟩ : ByteArray) false))) = some (r1, r2, r3, r4, r5) := by first | (rw [hy233]; with_reducible exact H) | (have H2_ := (Option.bind_some _ _).symm.trans H; rw [hy233]; with_reducible exact H2_) | (have H2_ := (Option.bind_some _ _).symm.trans H; with_reducible exact H2_) | with_reducible exact H | (rw [hy233]; exact H) | exact H
                                      have Ny233 := Aside0.mk hy233
                                      clear hy233
                                      replace H := Option.bind_eq_some_iff.mp H
                                      obtain ⟨t236, A540, H⟩ := H
                                      replace H : (if t236.toList = ([99, 111, 110, 116, 101, 110, 116, 45, 108, 101, 110, 103, 116, 104] : List UInt8) then ((postilionref01_Figures.f kj41 t230 1 6).bind fun bt237 => (if bt237.2 = true then (if x9_3 = true then (some (0, ([] : List (S27)), (⟨#[]⟩ : ByteArray), false, false)) else (postilionref01_ParseReply.l0 kj41 t226 bt237.1 true t222 y233 (⟨#[]⟩ : ByteArray) false)) else (some (0, ([] : List (S27)), (⟨#[]⟩ : ByteArray), false, false)))) else (postilionref01_ParseReply.l0 kj41 t226 x8_3 x9_3 t222 y233 (⟨#[]⟩ : ByteArray) false)) = some (r1, r2, r3, r4, r5) := H
                                      have A54 := Aside0.mk A540
                                      clear A540
                                      by_cases c55 : t236.toList = ([99, 111, 110, 116, 101, 110, 116, 45, 108, 101, 110, 103, 116, 104] : List UInt8)
                                      · rw [if_pos c55] at H
                                        have c55b0 : (t236.toList == ([99, 111, 110, 116, 101, 110, 116, 45, 108, 101, 110, 103, 116, 104] : List UInt8)) = true := beq_iff_eq.mpr c55
                                        have c55b1 : (t236.toList != ([99, 111, 110, 116, 101, 110, 116, 45, 108, 101, 110, 103, 116, 104] : List UInt8)) = false := bne_eq_false_iff_eq.mpr c55
                                        clear c55
                                        replace H := Option.bind_eq_some_iff.mp H
                                        obtain ⟨⟨t237, t238⟩, A560, H⟩ := H
                                        replace H : (if t238 = true then (if x9_3 = true then (some (0, ([] : List (S27)), (⟨#[]⟩ : ByteArray), false, false)) else (postilionref01_ParseReply.l0 kj41 t226 t237 true t222 y233 (⟨#[]⟩ : ByteArray) false)) else (some (0, ([] : List (S27)), (⟨#[]⟩ : ByteArray), false, false))) = some (r1, r2, r3, r4, r5) := H
                                        have A56 := Aside0.mk A560
                                        clear A560
                                        by_cases c57 : t238 = true
                                        · subst c57
                                          have H1 : (if x9_3 = true then (some (0, ([] : List (S27)), (⟨#[]⟩ : ByteArray), false, false)) else (postilionref01_ParseReply.l0 kj41 t226 t237 true t222 y233 (⟨#[]⟩ : ByteArray) false)) = some (r1, r2, r3, r4, r5) := by rw [if_pos rfl] at H; exact H
                                          clear H
                                          have H := H1
                                          clear H1
                                          by_cases c58 : x9_3 = true
                                          · subst c58
                                            have H1 : (some (0, ([] : List (S27)), (⟨#[]⟩ : ByteArray), false, false)) = some (r1, r2, r3, r4, r5) := by rw [if_pos rfl] at H; exact H
                                            clear H
                                            have H := H1
                                            clear H1
                                            simp only [Option.some.injEq, Prod.mk.injEq] at H
                                            obtain ⟨rfl, rfl, rfl, rfl, rfl⟩ := H
                                            have hnb59 := NB224_217.out
                                            have hnc59 := NB217_224.out
                                            have hcz60_0 : wc.cell? ⟨gb224, 0, none⟩ = some (.int .i64 t222) := (blk_cell BK224.out 0).trans rfl
                                            have hcz60_1 : wc.cell? ⟨gb224, 1, none⟩ = some (u225001) := (blk_cell BK224.out 1).trans rfl
                                            have hcz60_2 : wc.cell? ⟨gb224, 2, none⟩ = some (.string (⟨#[]⟩ : ByteArray)) := (blk_cell BK224.out 2).trans rfl
                                            have hcz60_3 : wc.cell? ⟨gb224, 3, none⟩ = some (.bool false) := (blk_cell BK224.out 3).trans rfl
                                            have hfz60_0 := blk_frozen BK224.out 0
                                            have hfz60_1 := blk_frozen BK224.out 1
                                            have hfz60_2 := blk_frozen BK224.out 2
                                            have hfz60_3 := blk_frozen BK224.out 3
                                            go_wp2_with (first | ((with_reducible refine gate_builtin (b := .append) (xs := #[.tmp 94, .tmp 98]) rfl ?_); (try (refine gate_guard (by rfl) ?_; dsimp only)); at_builtin; refine Kd.R_append k27 (w0 := w) w.heap.size rfl (.tmp 94) (.tmp 98) 23 27 (.agg #[(.string ⟨#[]⟩), (.string ⟨#[]⟩)]) 32 rfl Tryd.underlying23 info27 rfl (by decide) (by omega) u225001 x225001_3 (⟨t228, t230⟩ : S27) [.string t228, .string t230] (fun _ => True) (fun _ => False) rfl rfl ?aP (fun _ hk => hk.elim) ?aF ?aO ?aB ?aS ?aL ?_; (case aP => exact k27_mkM _ _ _ (⟨t228, t230⟩ : S27)); (case aB => exact (by repeat (first | (with_reducible first | exact HB.out | apply below_alloc | apply pw_below_drewN | apply below_drew1 | refine below_set ?_ GE217.out | refine below_set ?_ GE224.out) | exact HB.out))); (case aF => exact (fun _ _ => trivial)); (case aO => exact (by (with_reducible repeat (first | apply Kd.R_alloc | apply Kd.R_drewN | apply Kd.R_drew)); exact HO_225001.out)); (case aS => exact (below_size (by repeat (first | (with_reducible first | exact HB.out | apply below_alloc | apply pw_below_drewN | apply below_drew1 | refine below_set ?_ GE217.out | refine below_set ?_ GE224.out) | exact HB.out)))); (case aL => have := LMc53.out; omega); intro v234 w61 ho hb hg hat; rw [← Ny233.out] at ho; have n0_ := Aside0.mk (blk_grown (g := gb217) (o := .cells #[.int .i64 x218000_3, .slice none 0 0, .string x218002_3, .bool x218003_3] 45 (0, 0)) (by (with_reducible repeat (first | refine blk_drewN ?_ _ | refine blk_drew ?_ | refine blk_alloc ?_ _)); exact BK217.out) hg (Kd.R_ne HO_225001.out BK217.out (by decide))); have n1_ := Aside0.mk (blk_grown (g := gb224) (o := .cells #[.int .i64 t222, u225001, .string (⟨#[]⟩ : ByteArray), .bool false] 45 (0, 0)) (by (with_reducible repeat (first | refine blk_drewN ?_ _ | refine blk_drew ?_ | refine blk_alloc ?_ _)); exact BK224.out) hg (Kd.R_ne HO_225001.out BK224.out (by decide))); have n2_ := Aside0.mk (hb); have n3_ := Aside0.mk (ho); clear BK217; clear BK224; clear HB; clear HO_225001; have BK217 := n0_; have BK224 := n1_; have HB := n2_; have HO235 := n3_; clear n0_ n1_ n2_ n3_; clear ho hb hg hat; obtain ⟨Ao62, co62, eo62⟩ := Kd.R_slice HO235.out; subst eo62; have hcz63_0 : w61.cell? ⟨gb224, 0, none⟩ = some (.int .i64 t222) := (blk_cell BK224.out 0).trans rfl; have hcz63_1 : w61.cell? ⟨gb224, 1, none⟩ = some (u225001) := (blk_cell BK224.out 1).trans rfl; have hcz63_2 : w61.cell? ⟨gb224, 2, none⟩ = some (.string (⟨#[]⟩ : ByteArray)) := (blk_cell BK224.out 2).trans rfl; have hcz63_3 : w61.cell? ⟨gb224, 3, none⟩ = some (.bool false) := (blk_cell BK224.out 3).trans rfl; have hfz63_0 := blk_frozen BK224.out 0; have hfz63_1 := blk_frozen BK224.out 1; have hfz63_2 := blk_frozen BK224.out 2; have hfz63_3 := blk_frozen BK224.out 3) | ((with_reducible refine gate_callee (f := 55) rfl ?_); refine goesL_ (some 102) rfl rfl Tryd.func55 (by kernel_rfl) rfl #[.string t228] rfl (by (try simp only [List.map_toArray, List.map_cons, List.map_nil]); first | done | rfl | (simp only [List.length_drop, List.length_take]; rfl)) ?_; (with_reducible refine (postilionref01_Lower.calls t228 t236 _ A54.out).mono ?_); rintro e w64 ⟨rfl, hb⟩; refine ⟨_, rfl, ?_⟩; have n0_ := Aside0.mk (Kd.R_below (by (with_reducible repeat (first | apply Kd.R_alloc | apply Kd.R_drewN | apply Kd.R_drew)); exact (Kd.R_mono (Kd.R_far (p := ⟨gb224, 1, none⟩) (Kd.R_types HO235.out BK224.out (by decide)) (fun _ hk => hk.2) (.slice Ao62 y233.length co62)) (fun _ h_ => h_.1))) hb); have n1_ := Aside0.mk (blk_below (g := gb217) (o := .cells #[.int .i64 x218000_3, .slice none 0 0, .string x218002_3, .bool x218003_3] 45 (0, 0)) (by (with_reducible repeat (first | refine blk_drewN ?_ _ | refine blk_drew ?_ | refine blk_alloc ?_ _)); refine blk_far ?_ NB217_224.out _; (with_reducible repeat (first | refine blk_drewN ?_ _ | refine blk_drew ?_ | refine blk_alloc ?_ _)); exact BK217.out) hb); have n2_ := Aside0.mk (blk_below (g := gb224) (o := .cells #[.int .i64 t222, .slice Ao62 y233.length co62, .string (⟨#[]⟩ : ByteArray), .bool false] 45 (0, 0)) (by (with_reducible repeat (first | refine blk_drewN ?_ _ | refine blk_drew ?_ | refine blk_alloc ?_ _)); refine blk_put (cs := #[.int .i64 t222, u225001, .string (⟨#[]⟩ : ByteArray), .bool false]) ?_ 1 _ rfl; (with_reducible repeat (first | refine blk_drewN ?_ _ | refine blk_drew ?_ | refine blk_alloc ?_ _)); exact BK224.out) hb); have n3_ := Aside0.mk (below_step (by repeat (first | (with_reducible first | exact HB.out | apply below_alloc | apply pw_below_drewN | apply below_drew1 | refine below_set ?_ GE217.out | refine below_set ?_ GE224.out) | exact HB.out)) hb); clear HO235; clear BK217; clear BK224; clear HB; have HO235 := n0_; have BK217 := n1_; have BK224 := n2_; have HB := n3_; clear n0_ n1_ n2_ n3_; (try clear hb); (try clear hb2); (try clear hk); (try clear hi)) | ((with_reducible refine gate_callee (f := 34) rfl ?_); refine goesL_ (some 106) rfl rfl Tryd.func34 (by kernel_rfl) rfl #[.string t230, .int .i64 1, .int .i64 6] rfl (by (try simp only [List.map_toArray, List.map_cons, List.map_nil]); first | done | rfl | (simp only [List.length_drop, List.length_take]; rfl)) ?_; (with_reducible refine (postilionref01_Figures.calls kj41 t230 1 6 t237 true _ A56.out).mono ?_); rintro e w' ⟨rfl, ⟨nd, rfl⟩⟩; refine ⟨_, rfl, ?_⟩; (try (rw [drewN_self w64]; generalize hq_ : World.drewN w64 _ = w64; have n0_ : Aside0 (Kd.R k27 27 w64 w.heap.size (fun _ => True) (.slice Ao62 y233.length co62) y233) := ⟨by rw [← hq_]; exact (by (with_reducible repeat (first | apply Kd.R_alloc | apply Kd.R_drewN | apply Kd.R_drew)); exact HO235.out)⟩; have n1_ : Aside0 (w64.heap[gb217]? = some (.cells #[.int .i64 x218000_3, .slice none 0 0, .string x218002_3, .bool x218003_3] 45 (0, 0))) := ⟨by rw [← hq_]; exact (by (with_reducible repeat (first | refine blk_drewN ?_ _ | refine blk_drew ?_ | refine blk_alloc ?_ _)); exact BK217.out)⟩; have n2_ : Aside0 (w64.heap[gb224]? = some (.cells #[.int .i64 t222, .slice Ao62 y233.length co62, .string (⟨#[]⟩ : ByteArray), .bool false] 45 (0, 0))) := ⟨by rw [← hq_]; exact (by (with_reducible repeat (first | refine blk_drewN ?_ _ | refine blk_drew ?_ | refine blk_alloc ?_ _)); exact BK224.out)⟩; have n3_ : Aside0 (Below w.heap.size w w64) := ⟨by rw [← hq_]; exact (by repeat (first | (with_reducible first | exact HB.out | apply below_alloc | apply pw_below_drewN | apply below_drew1 | refine below_set ?_ GE217.out | refine below_set ?_ GE224.out) | exact HB.out))⟩; clear HO235 BK217 BK224 HB hq_; have HO235 := n0_; have BK217 := n1_; have BK224 := n2_; have HB := n3_; clear n0_ n1_ n2_ n3_)); have hcz65_0 : w64.cell? ⟨gb217, 0, none⟩ = some (.int .i64 x218000_3) := (blk_cell BK217.out 0).trans rfl; have hcz65_1 : w64.cell? ⟨gb217, 1, none⟩ = some (.slice none 0 0) := (blk_cell BK217.out 1).trans rfl; have hcz65_2 : w64.cell? ⟨gb217, 2, none⟩ = some (.string x218002_3) := (blk_cell BK217.out 2).trans rfl; have hcz65_3 : w64.cell? ⟨gb217, 3, none⟩ = some (.bool x218003_3) := (blk_cell BK217.out 3).trans rfl; have hfz65_0 := blk_frozen BK217.out 0; have hfz65_1 := blk_frozen BK217.out 1; have hfz65_2 := blk_frozen BK217.out 2; have hfz65_3 := blk_frozen BK217.out 3))
                                            refine bodyPost_ret (results_ct rfl _ _ gb217 45 #[.int .i64 0, .slice none 0 0, .string (⟨#[]⟩ : ByteArray), .bool false] (0, 0) _ rfl (by (with_reducible repeat (first | refine blk_drewN ?_ _ | refine blk_drew ?_ | refine blk_alloc ?_ _)); refine blk_put (cs := #[.int .i64 0, .slice none 0 0, .string (⟨#[]⟩ : ByteArray), .bool x218003_3]) ?_ 3 _ rfl; (with_reducible repeat (first | refine blk_drewN ?_ _ | refine blk_drew ?_ | refine blk_alloc ?_ _)); refine blk_put (cs := #[.int .i64 0, .slice none 0 0, .string x218002_3, .bool x218003_3]) ?_ 2 _ rfl; (with_reducible repeat (first | refine blk_drewN ?_ _ | refine blk_drew ?_ | refine blk_alloc ?_ _)); refine blk_put (cs := #[.int .i64 0, .slice none 0 0, .string x218002_3, .bool x218003_3]) ?_ 1 _ rfl; (with_reducible repeat (first | refine blk_drewN ?_ _ | refine blk_drew ?_ | refine blk_alloc ?_ _)); refine blk_put (cs := #[.int .i64 x218000_3, .slice none 0 0, .string x218002_3, .bool x218003_3]) ?_ 0 _ rfl; (with_reducible repeat (first | refine blk_drewN ?_ _ | refine blk_drew ?_ | refine blk_alloc ?_ _)); exact BK217.out) Tryd.underlying45 rfl (by kernel_rfl)) rfl ?_
                                            exact ⟨_, by first | rfl | (simp [errW_none, errW_some] <;> rfl) | (simp [*, errW_none, errW_some] <;> rfl), by first | exact Kd.R_nil _ _ _ _ _ | exact Kd.N_nil _ _ _ _ _ | exact Kd.V_nil _ _ _ _ _ | exact Kd.Q_nil _ _ _ _ _ | exact Kd.S_nil _ _ _ _ _, by repeat (first | (with_reducible first | exact HB.out | apply below_alloc | apply pw_below_drewN | apply below_drew1 | refine below_set ?_ GE217.out | refine below_set ?_ GE224.out) | exact HB.out)⟩
                                          · replace c58 := Bool.eq_false_iff.mpr c58
                                            subst c58
                                            have H1 : (postilionref01_ParseReply.l0 kj41 t226 t237 true t222 y233 (⟨#[]⟩ : ByteArray) false) = some (r1, r2, r3, r4, r5) := by rw [if_neg (show ¬ (false = true) by decide)] at H; exact H
                                            clear H
                                            have H := H1
                                            clear H1
                                            have H' := Aside0.mk H
                                            clear H
                                            have hnb66 := NB224_217.out
                                            have hnc66 := NB217_224.out
                                            have hcz67_0 : wc.cell? ⟨gb224, 0, none⟩ = some (.int .i64 t222) := (blk_cell BK224.out 0).trans rfl
                                            have hcz67_1 : wc.cell? ⟨gb224, 1, none⟩ = some (u225001) := (blk_cell BK224.out 1).trans rfl
                                            have hcz67_2 : wc.cell? ⟨gb224, 2, none⟩ = some (.string (⟨#[]⟩ : ByteArray)) := (blk_cell BK224.out 2).trans rfl
                                            have hcz67_3 : wc.cell? ⟨gb224, 3, none⟩ = some (.bool false) := (blk_cell BK224.out 3).trans rfl
                                            have hfz67_0 := blk_frozen BK224.out 0
                                            have hfz67_1 := blk_frozen BK224.out 1
                                            have hfz67_2 := blk_frozen BK224.out 2
                                            have hfz67_3 := blk_frozen BK224.out 3
                                            go_wp2_with (first | ((with_reducible refine gate_builtin (b := .append) (xs := #[.tmp 94, .tmp 98]) rfl ?_); (try (refine gate_guard (by rfl) ?_; dsimp only)); at_builtin; refine Kd.R_append k27 (w0 := w) w.heap.size rfl (.tmp 94) (.tmp 98) 23 27 (.agg #[(.string ⟨#[]⟩), (.string ⟨#[]⟩)]) 32 rfl Tryd.underlying23 info27 rfl (by decide) (by omega) u225001 x225001_3 (⟨t228, t230⟩ : S27) [.string t228, .string t230] (fun _ => True) (fun _ => False) rfl rfl ?aP (fun _ hk => hk.elim) ?aF ?aO ?aB ?aS ?aL ?_; (case aP => exact k27_mkM _ _ _ (⟨t228, t230⟩ : S27)); (case aB => exact (by repeat (first | (with_reducible first | exact HB.out | apply below_alloc | apply pw_below_drewN | apply below_drew1 | refine below_set ?_ GE217.out | refine below_set ?_ GE224.out) | exact HB.out))); (case aF => exact (fun _ _ => trivial)); (case aO => exact (by (with_reducible repeat (first | apply Kd.R_alloc | apply Kd.R_drewN | apply Kd.R_drew)); exact HO_225001.out)); (case aS => exact (below_size (by repeat (first | (with_reducible first | exact HB.out | apply below_alloc | apply pw_below_drewN | apply below_drew1 | refine below_set ?_ GE217.out | refine below_set ?_ GE224.out) | exact HB.out)))); (case aL => have := LMc53.out; omega); intro v234 w68 ho hb hg hat; rw [← Ny233.out] at ho; have n0_ := Aside0.mk (blk_grown (g := gb217) (o := .cells #[.int .i64 x218000_3, .slice none 0 0, .string x218002_3, .bool x218003_3] 45 (0, 0)) (by (with_reducible repeat (first | refine blk_drewN ?_ _ | refine blk_drew ?_ | refine blk_alloc ?_ _)); exact BK217.out) hg (Kd.R_ne HO_225001.out BK217.out (by decide))); have n1_ := Aside0.mk (blk_grown (g := gb224) (o := .cells #[.int .i64 t222, u225001, .string (⟨#[]⟩ : ByteArray), .bool false] 45 (0, 0)) (by (with_reducible repeat (first | refine blk_drewN ?_ _ | refine blk_drew ?_ | refine blk_alloc ?_ _)); exact BK224.out) hg (Kd.R_ne HO_225001.out BK224.out (by decide))); have n2_ := Aside0.mk (hb); have n3_ := Aside0.mk (ho); clear BK217; clear BK224; clear HB; clear HO_225001; have BK217 := n0_; have BK224 := n1_; have HB := n2_; have HO235 := n3_; clear n0_ n1_ n2_ n3_; clear ho hb hg hat; obtain ⟨Ao69, co69, eo69⟩ := Kd.R_slice HO235.out; subst eo69; have hcz70_0 : w68.cell? ⟨gb224, 0, none⟩ = some (.int .i64 t222) := (blk_cell BK224.out 0).trans rfl; have hcz70_1 : w68.cell? ⟨gb224, 1, none⟩ = some (u225001) := (blk_cell BK224.out 1).trans rfl; have hcz70_2 : w68.cell? ⟨gb224, 2, none⟩ = some (.string (⟨#[]⟩ : ByteArray)) := (blk_cell BK224.out 2).trans rfl; have hcz70_3 : w68.cell? ⟨gb224, 3, none⟩ = some (.bool false) := (blk_cell BK224.out 3).trans rfl; have hfz70_0 := blk_frozen BK224.out 0; have hfz70_1 := blk_frozen BK224.out 1; have hfz70_2 := blk_frozen BK224.out 2; have hfz70_3 := blk_frozen BK224.out 3) | ((with_reducible refine gate_callee (f := 55) rfl ?_); refine goesL_ (some 102) rfl rfl Tryd.func55 (by kernel_rfl) rfl #[.string t228] rfl (by (try simp only [List.map_toArray, List.map_cons, List.map_nil]); first | done | rfl | (simp only [List.length_drop, List.length_take]; rfl)) ?_; (with_reducible refine (postilionref01_Lower.calls t228 t236 _ A54.out).mono ?_); rintro e w71 ⟨rfl, hb⟩; refine ⟨_, rfl, ?_⟩; have n0_ := Aside0.mk (Kd.R_below (by (with_reducible repeat (first | apply Kd.R_alloc | apply Kd.R_drewN | apply Kd.R_drew)); exact (Kd.R_mono (Kd.R_far (p := ⟨gb224, 1, none⟩) (Kd.R_types HO235.out BK224.out (by decide)) (fun _ hk => hk.2) (.slice Ao69 y233.length co69)) (fun _ h_ => h_.1))) hb); have n1_ := Aside0.mk (blk_below (g := gb217) (o := .cells #[.int .i64 x218000_3, .slice none 0 0, .string x218002_3, .bool x218003_3] 45 (0, 0)) (by (with_reducible repeat (first | refine blk_drewN ?_ _ | refine blk_drew ?_ | refine blk_alloc ?_ _)); refine blk_far ?_ NB217_224.out _; (with_reducible repeat (first | refine blk_drewN ?_ _ | refine blk_drew ?_ | refine blk_alloc ?_ _)); exact BK217.out) hb); have n2_ := Aside0.mk (blk_below (g := gb224) (o := .cells #[.int .i64 t222, .slice Ao69 y233.length co69, .string (⟨#[]⟩ : ByteArray), .bool false] 45 (0, 0)) (by (with_reducible repeat (first | refine blk_drewN ?_ _ | refine blk_drew ?_ | refine blk_alloc ?_ _)); refine blk_put (cs := #[.int .i64 t222, u225001, .string (⟨#[]⟩ : ByteArray), .bool false]) ?_ 1 _ rfl; (with_reducible repeat (first | refine blk_drewN ?_ _ | refine blk_drew ?_ | refine blk_alloc ?_ _)); exact BK224.out) hb); have n3_ := Aside0.mk (below_step (by repeat (first | (with_reducible first | exact HB.out | apply below_alloc | apply pw_below_drewN | apply below_drew1 | refine below_set ?_ GE217.out | refine below_set ?_ GE224.out) | exact HB.out)) hb); clear HO235; clear BK217; clear BK224; clear HB; have HO235 := n0_; have BK217 := n1_; have BK224 := n2_; have HB := n3_; clear n0_ n1_ n2_ n3_; (try clear hb); (try clear hb2); (try clear hk); (try clear hi)) | ((with_reducible refine gate_callee (f := 34) rfl ?_); refine goesL_ (some 106) rfl rfl Tryd.func34 (by kernel_rfl) rfl #[.string t230, .int .i64 1, .int .i64 6] rfl (by (try simp only [List.map_toArray, List.map_cons, List.map_nil]); first | done | rfl | (simp only [List.length_drop, List.length_take]; rfl)) ?_; (with_reducible refine (postilionref01_Figures.calls kj41 t230 1 6 t237 true _ A56.out).mono ?_); rintro e w' ⟨rfl, ⟨nd, rfl⟩⟩; refine ⟨_, rfl, ?_⟩))
                                            go_roundg kj41
                                            case measure => have := HJ2.out; have := HJ12.out; have := HK3.out; have := HJ41.out; omega
                                            case rel => exact ⟨(t226), (t237), (true), (x218000_3), (x218002_3), (x218003_3), (y233), (.slice Ao69 y233.length co69), (by first | rfl | (simp; done) | (simp [*]; done)), (by first | rfl | (simp; done) | (simp [*]; done)), (by first | rfl | (simp; done) | (simp [*]; done)), H', ⟨by have := HJ2.out; have := HJ12.out; have := HK3.out; have := HJ41.out; omega⟩, ⟨by (with_reducible repeat (first | apply Kd.R_alloc | apply Kd.R_drewN | apply Kd.R_drew)); exact HO235.out⟩, ⟨by (with_reducible repeat (first | refine blk_drewN ?_ _ | refine blk_drew ?_ | refine blk_alloc ?_ _)); exact BK217.out⟩, ⟨by (with_reducible repeat (first | refine blk_drewN ?_ _ | refine blk_drew ?_ | refine blk_alloc ?_ _)); exact BK224.out⟩, ⟨by repeat (first | (with_reducible first | exact HB.out | apply below_alloc | apply pw_below_drewN | apply below_drew1 | refine below_set ?_ GE217.out | refine below_set ?_ GE224.out) | exact HB.out)⟩⟩
                                        · replace c57 := Bool.eq_false_iff.mpr c57
                                          subst c57
                                          have H1 : (some (0, ([] : List (S27)), (⟨#[]⟩ : ByteArray), false, false)) = some (r1, r2, r3, r4, r5) := by rw [if_neg (show ¬ (false = true) by decide)] at H; exact H
                                          clear H
                                          have H := H1
                                          clear H1
                                          simp only [Option.some.injEq, Prod.mk.injEq] at H
                                          obtain ⟨rfl, rfl, rfl, rfl, rfl⟩ := H
                                          have hnb72 := NB224_217.out
                                          have hnc72 := NB217_224.out
                                          have hcz73_0 : wc.cell? ⟨gb224, 0, none⟩ = some (.int .i64 t222) := (blk_cell BK224.out 0).trans rfl
                                          have hcz73_1 : wc.cell? ⟨gb224, 1, none⟩ = some (u225001) := (blk_cell BK224.out 1).trans rfl
                                          have hcz73_2 : wc.cell? ⟨gb224, 2, none⟩ = some (.string (⟨#[]⟩ : ByteArray)) := (blk_cell BK224.out 2).trans rfl
                                          have hcz73_3 : wc.cell? ⟨gb224, 3, none⟩ = some (.bool false) := (blk_cell BK224.out 3).trans rfl
                                          have hfz73_0 := blk_frozen BK224.out 0
                                          have hfz73_1 := blk_frozen BK224.out 1
                                          have hfz73_2 := blk_frozen BK224.out 2
                                          have hfz73_3 := blk_frozen BK224.out 3
                                          go_wp2_with (first | ((with_reducible refine gate_builtin (b := .append) (xs := #[.tmp 94, .tmp 98]) rfl ?_); (try (refine gate_guard (by rfl) ?_; dsimp only)); at_builtin; refine Kd.R_append k27 (w0 := w) w.heap.size rfl (.tmp 94) (.tmp 98) 23 27 (.agg #[(.string ⟨#[]⟩), (.string ⟨#[]⟩)]) 32 rfl Tryd.underlying23 info27 rfl (by decide) (by omega) u225001 x225001_3 (⟨t228, t230⟩ : S27) [.string t228, .string t230] (fun _ => True) (fun _ => False) rfl rfl ?aP (fun _ hk => hk.elim) ?aF ?aO ?aB ?aS ?aL ?_; (case aP => exact k27_mkM _ _ _ (⟨t228, t230⟩ : S27)); (case aB => exact (by repeat (first | (with_reducible first | exact HB.out | apply below_alloc | apply pw_below_drewN | apply below_drew1 | refine below_set ?_ GE217.out | refine below_set ?_ GE224.out) | exact HB.out))); (case aF => exact (fun _ _ => trivial)); (case aO => exact (by (with_reducible repeat (first | apply Kd.R_alloc | apply Kd.R_drewN | apply Kd.R_drew)); exact HO_225001.out)); (case aS => exact (below_size (by repeat (first | (with_reducible first | exact HB.out | apply below_alloc | apply pw_below_drewN | apply below_drew1 | refine below_set ?_ GE217.out | refine below_set ?_ GE224.out) | exact HB.out)))); (case aL => have := LMc53.out; omega); intro v234 w74 ho hb hg hat; rw [← Ny233.out] at ho; have n0_ := Aside0.mk (blk_grown (g := gb217) (o := .cells #[.int .i64 x218000_3, .slice none 0 0, .string x218002_3, .bool x218003_3] 45 (0, 0)) (by (with_reducible repeat (first | refine blk_drewN ?_ _ | refine blk_drew ?_ | refine blk_alloc ?_ _)); exact BK217.out) hg (Kd.R_ne HO_225001.out BK217.out (by decide))); have n1_ := Aside0.mk (blk_grown (g := gb224) (o := .cells #[.int .i64 t222, u225001, .string (⟨#[]⟩ : ByteArray), .bool false] 45 (0, 0)) (by (with_reducible repeat (first | refine blk_drewN ?_ _ | refine blk_drew ?_ | refine blk_alloc ?_ _)); exact BK224.out) hg (Kd.R_ne HO_225001.out BK224.out (by decide))); have n2_ := Aside0.mk (hb); have n3_ := Aside0.mk (ho); clear BK217; clear BK224; clear HB; clear HO_225001; have BK217 := n0_; have BK224 := n1_; have HB := n2_; have HO235 := n3_; clear n0_ n1_ n2_ n3_; clear ho hb hg hat; obtain ⟨Ao75, co75, eo75⟩ := Kd.R_slice HO235.out; subst eo75; have hcz76_0 : w74.cell? ⟨gb224, 0, none⟩ = some (.int .i64 t222) := (blk_cell BK224.out 0).trans rfl; have hcz76_1 : w74.cell? ⟨gb224, 1, none⟩ = some (u225001) := (blk_cell BK224.out 1).trans rfl; have hcz76_2 : w74.cell? ⟨gb224, 2, none⟩ = some (.string (⟨#[]⟩ : ByteArray)) := (blk_cell BK224.out 2).trans rfl; have hcz76_3 : w74.cell? ⟨gb224, 3, none⟩ = some (.bool false) := (blk_cell BK224.out 3).trans rfl; have hfz76_0 := blk_frozen BK224.out 0; have hfz76_1 := blk_frozen BK224.out 1; have hfz76_2 := blk_frozen BK224.out 2; have hfz76_3 := blk_frozen BK224.out 3) | ((with_reducible refine gate_callee (f := 55) rfl ?_); refine goesL_ (some 102) rfl rfl Tryd.func55 (by kernel_rfl) rfl #[.string t228] rfl (by (try simp only [List.map_toArray, List.map_cons, List.map_nil]); first | done | rfl | (simp only [List.length_drop, List.length_take]; rfl)) ?_; (with_reducible refine (postilionref01_Lower.calls t228 t236 _ A54.out).mono ?_); rintro e w77 ⟨rfl, hb⟩; refine ⟨_, rfl, ?_⟩; have n0_ := Aside0.mk (Kd.R_below (by (with_reducible repeat (first | apply Kd.R_alloc | apply Kd.R_drewN | apply Kd.R_drew)); exact (Kd.R_mono (Kd.R_far (p := ⟨gb224, 1, none⟩) (Kd.R_types HO235.out BK224.out (by decide)) (fun _ hk => hk.2) (.slice Ao75 y233.length co75)) (fun _ h_ => h_.1))) hb); have n1_ := Aside0.mk (blk_below (g := gb217) (o := .cells #[.int .i64 x218000_3, .slice none 0 0, .string x218002_3, .bool x218003_3] 45 (0, 0)) (by (with_reducible repeat (first | refine blk_drewN ?_ _ | refine blk_drew ?_ | refine blk_alloc ?_ _)); refine blk_far ?_ NB217_224.out _; (with_reducible repeat (first | refine blk_drewN ?_ _ | refine blk_drew ?_ | refine blk_alloc ?_ _)); exact BK217.out) hb); have n2_ := Aside0.mk (blk_below (g := gb224) (o := .cells #[.int .i64 t222, .slice Ao75 y233.length co75, .string (⟨#[]⟩ : ByteArray), .bool false] 45 (0, 0)) (by (with_reducible repeat (first | refine blk_drewN ?_ _ | refine blk_drew ?_ | refine blk_alloc ?_ _)); refine blk_put (cs := #[.int .i64 t222, u225001, .string (⟨#[]⟩ : ByteArray), .bool false]) ?_ 1 _ rfl; (with_reducible repeat (first | refine blk_drewN ?_ _ | refine blk_drew ?_ | refine blk_alloc ?_ _)); exact BK224.out) hb); have n3_ := Aside0.mk (below_step (by repeat (first | (with_reducible first | exact HB.out | apply below_alloc | apply pw_below_drewN | apply below_drew1 | refine below_set ?_ GE217.out | refine below_set ?_ GE224.out) | exact HB.out)) hb); clear HO235; clear BK217; clear BK224; clear HB; have HO235 := n0_; have BK217 := n1_; have BK224 := n2_; have HB := n3_; clear n0_ n1_ n2_ n3_; (try clear hb); (try clear hb2); (try clear hk); (try clear hi)) | ((with_reducible refine gate_callee (f := 34) rfl ?_); refine goesL_ (some 106) rfl rfl Tryd.func34 (by kernel_rfl) rfl #[.string t230, .int .i64 1, .int .i64 6] rfl (by (try simp only [List.map_toArray, List.map_cons, List.map_nil]); first | done | rfl | (simp only [List.length_drop, List.length_take]; rfl)) ?_; (with_reducible refine (postilionref01_Figures.calls kj41 t230 1 6 t237 false _ A56.out).mono ?_); rintro e w' ⟨rfl, ⟨nd, rfl⟩⟩; refine ⟨_, rfl, ?_⟩; (try (rw [drewN_self w77]; generalize hq_ : World.drewN w77 _ = w77; have n0_ : Aside0 (Kd.R k27 27 w77 w.heap.size (fun _ => True) (.slice Ao75 y233.length co75) y233) := ⟨by rw [← hq_]; exact (by (with_reducible repeat (first | apply Kd.R_alloc | apply Kd.R_drewN | apply Kd.R_drew)); exact HO235.out)⟩; have n1_ : Aside0 (w77.heap[gb217]? = some (.cells #[.int .i64 x218000_3, .slice none 0 0, .string x218002_3, .bool x218003_3] 45 (0, 0))) := ⟨by rw [← hq_]; exact (by (with_reducible repeat (first | refine blk_drewN ?_ _ | refine blk_drew ?_ | refine blk_alloc ?_ _)); exact BK217.out)⟩; have n2_ : Aside0 (w77.heap[gb224]? = some (.cells #[.int .i64 t222, .slice Ao75 y233.length co75, .string (⟨#[]⟩ : ByteArray), .bool false] 45 (0, 0))) := ⟨by rw [← hq_]; exact (by (with_reducible repeat (first | refine blk_drewN ?_ _ | refine blk_drew ?_ | refine blk_alloc ?_ _)); exact BK224.out)⟩; have n3_ : Aside0 (Below w.heap.size w w77) := ⟨by rw [← hq_]; exact (by repeat (first | (with_reducible first | exact HB.out | apply below_alloc | apply pw_below_drewN | apply below_drew1 | refine below_set ?_ GE217.out | refine below_set ?_ GE224.out) | exact HB.out))⟩; clear HO235 BK217 BK224 HB hq_; have HO235 := n0_; have BK217 := n1_; have BK224 := n2_; have HB := n3_; clear n0_ n1_ n2_ n3_)); have hcz78_0 : w77.cell? ⟨gb217, 0, none⟩ = some (.int .i64 x218000_3) := (blk_cell BK217.out 0).trans rfl; have hcz78_1 : w77.cell? ⟨gb217, 1, none⟩ = some (.slice none 0 0) := (blk_cell BK217.out 1).trans rfl; have hcz78_2 : w77.cell? ⟨gb217, 2, none⟩ = some (.string x218002_3) := (blk_cell BK217.out 2).trans rfl; have hcz78_3 : w77.cell? ⟨gb217, 3, none⟩ = some (.bool x218003_3) := (blk_cell BK217.out 3).trans rfl; have hfz78_0 := blk_frozen BK217.out 0; have hfz78_1 := blk_frozen BK217.out 1; have hfz78_2 := blk_frozen BK217.out 2; have hfz78_3 := blk_frozen BK217.out 3))
                                          refine bodyPost_ret (results_ct rfl _ _ gb217 45 #[.int .i64 0, .slice none 0 0, .string (⟨#[]⟩ : ByteArray), .bool false] (0, 0) _ rfl (by (with_reducible repeat (first | refine blk_drewN ?_ _ | refine blk_drew ?_ | refine blk_alloc ?_ _)); refine blk_put (cs := #[.int .i64 0, .slice none 0 0, .string (⟨#[]⟩ : ByteArray), .bool x218003_3]) ?_ 3 _ rfl; (with_reducible repeat (first | refine blk_drewN ?_ _ | refine blk_drew ?_ | refine blk_alloc ?_ _)); refine blk_put (cs := #[.int .i64 0, .slice none 0 0, .string x218002_3, .bool x218003_3]) ?_ 2 _ rfl; (with_reducible repeat (first | refine blk_drewN ?_ _ | refine blk_drew ?_ | refine blk_alloc ?_ _)); refine blk_put (cs := #[.int .i64 0, .slice none 0 0, .string x218002_3, .bool x218003_3]) ?_ 1 _ rfl; (with_reducible repeat (first | refine blk_drewN ?_ _ | refine blk_drew ?_ | refine blk_alloc ?_ _)); refine blk_put (cs := #[.int .i64 x218000_3, .slice none 0 0, .string x218002_3, .bool x218003_3]) ?_ 0 _ rfl; (with_reducible repeat (first | refine blk_drewN ?_ _ | refine blk_drew ?_ | refine blk_alloc ?_ _)); exact BK217.out) Tryd.underlying45 rfl (by kernel_rfl)) rfl ?_
                                          exact ⟨_, by first | rfl | (simp [errW_none, errW_some] <;> rfl) | (simp [*, errW_none, errW_some] <;> rfl), by first | exact Kd.R_nil _ _ _ _ _ | exact Kd.N_nil _ _ _ _ _ | exact Kd.V_nil _ _ _ _ _ | exact Kd.Q_nil _ _ _ _ _ | exact Kd.S_nil _ _ _ _ _, by repeat (first | (with_reducible first | exact HB.out | apply below_alloc | apply pw_below_drewN | apply below_drew1 | refine below_set ?_ GE217.out | refine below_set ?_ GE224.out) | exact HB.out)⟩
                                      · rw [if_neg c55] at H
                                        have c55b0 : (t236.toList == ([99, 111, 110, 116, 101, 110, 116, 45, 108, 101, 110, 103, 116, 104] : List UInt8)) = false := beq_eq_false_iff_ne.mpr c55
                                        have c55b1 : (t236.toList != ([99, 111, 110, 116, 101, 110, 116, 45, 108, 101, 110, 103, 116, 104] : List UInt8)) = true := bne_iff_ne.mpr c55
                                        have H' := Aside0.mk H
                                        clear H
                                        have hnb79 := NB224_217.out
                                        have hnc79 := NB217_224.out
                                        have hcz80_0 : wc.cell? ⟨gb224, 0, none⟩ = some (.int .i64 t222) := (blk_cell BK224.out 0).trans rfl
                                        have hcz80_1 : wc.cell? ⟨gb224, 1, none⟩ = some (u225001) := (blk_cell BK224.out 1).trans rfl
                                        have hcz80_2 : wc.cell? ⟨gb224, 2, none⟩ = some (.string (⟨#[]⟩ : ByteArray)) := (blk_cell BK224.out 2).trans rfl
                                        have hcz80_3 : wc.cell? ⟨gb224, 3, none⟩ = some (.bool false) := (blk_cell BK224.out 3).trans rfl
                                        have hfz80_0 := blk_frozen BK224.out 0
                                        have hfz80_1 := blk_frozen BK224.out 1
                                        have hfz80_2 := blk_frozen BK224.out 2
                                        have hfz80_3 := blk_frozen BK224.out 3
                                        go_wp2_with (first | ((with_reducible refine gate_builtin (b := .append) (xs := #[.tmp 94, .tmp 98]) rfl ?_); (try (refine gate_guard (by rfl) ?_; dsimp only)); at_builtin; refine Kd.R_append k27 (w0 := w) w.heap.size rfl (.tmp 94) (.tmp 98) 23 27 (.agg #[(.string ⟨#[]⟩), (.string ⟨#[]⟩)]) 32 rfl Tryd.underlying23 info27 rfl (by decide) (by omega) u225001 x225001_3 (⟨t228, t230⟩ : S27) [.string t228, .string t230] (fun _ => True) (fun _ => False) rfl rfl ?aP (fun _ hk => hk.elim) ?aF ?aO ?aB ?aS ?aL ?_; (case aP => exact k27_mkM _ _ _ (⟨t228, t230⟩ : S27)); (case aB => exact (by repeat (first | (with_reducible first | exact HB.out | apply below_alloc | apply pw_below_drewN | apply below_drew1 | refine below_set ?_ GE217.out | refine below_set ?_ GE224.out) | exact HB.out))); (case aF => exact (fun _ _ => trivial)); (case aO => exact (by (with_reducible repeat (first | apply Kd.R_alloc | apply Kd.R_drewN | apply Kd.R_drew)); exact HO_225001.out)); (case aS => exact (below_size (by repeat (first | (with_reducible first | exact HB.out | apply below_alloc | apply pw_below_drewN | apply below_drew1 | refine below_set ?_ GE217.out | refine below_set ?_ GE224.out) | exact HB.out)))); (case aL => have := LMc53.out; omega); intro v234 w81 ho hb hg hat; rw [← Ny233.out] at ho; have n0_ := Aside0.mk (blk_grown (g := gb217) (o := .cells #[.int .i64 x218000_3, .slice none 0 0, .string x218002_3, .bool x218003_3] 45 (0, 0)) (by (with_reducible repeat (first | refine blk_drewN ?_ _ | refine blk_drew ?_ | refine blk_alloc ?_ _)); exact BK217.out) hg (Kd.R_ne HO_225001.out BK217.out (by decide))); have n1_ := Aside0.mk (blk_grown (g := gb224) (o := .cells #[.int .i64 t222, u225001, .string (⟨#[]⟩ : ByteArray), .bool false] 45 (0, 0)) (by (with_reducible repeat (first | refine blk_drewN ?_ _ | refine blk_drew ?_ | refine blk_alloc ?_ _)); exact BK224.out) hg (Kd.R_ne HO_225001.out BK224.out (by decide))); have n2_ := Aside0.mk (hb); have n3_ := Aside0.mk (ho); clear BK217; clear BK224; clear HB; clear HO_225001; have BK217 := n0_; have BK224 := n1_; have HB := n2_; have HO235 := n3_; clear n0_ n1_ n2_ n3_; clear ho hb hg hat; obtain ⟨Ao82, co82, eo82⟩ := Kd.R_slice HO235.out; subst eo82; have hcz83_0 : w81.cell? ⟨gb224, 0, none⟩ = some (.int .i64 t222) := (blk_cell BK224.out 0).trans rfl; have hcz83_1 : w81.cell? ⟨gb224, 1, none⟩ = some (u225001) := (blk_cell BK224.out 1).trans rfl; have hcz83_2 : w81.cell? ⟨gb224, 2, none⟩ = some (.string (⟨#[]⟩ : ByteArray)) := (blk_cell BK224.out 2).trans rfl; have hcz83_3 : w81.cell? ⟨gb224, 3, none⟩ = some (.bool false) := (blk_cell BK224.out 3).trans rfl; have hfz83_0 := blk_frozen BK224.out 0; have hfz83_1 := blk_frozen BK224.out 1; have hfz83_2 := blk_frozen BK224.out 2; have hfz83_3 := blk_frozen BK224.out 3) | ((with_reducible refine gate_callee (f := 55) rfl ?_); refine goesL_ (some 102) rfl rfl Tryd.func55 (by kernel_rfl) rfl #[.string t228] rfl (by (try simp only [List.map_toArray, List.map_cons, List.map_nil]); first | done | rfl | (simp only [List.length_drop, List.length_take]; rfl)) ?_; (with_reducible refine (postilionref01_Lower.calls t228 t236 _ A54.out).mono ?_); rintro e w84 ⟨rfl, hb⟩; refine ⟨_, rfl, ?_⟩; have n0_ := Aside0.mk (Kd.R_below (by (with_reducible repeat (first | apply Kd.R_alloc | apply Kd.R_drewN | apply Kd.R_drew)); exact (Kd.R_mono (Kd.R_far (p := ⟨gb224, 1, none⟩) (Kd.R_types HO235.out BK224.out (by decide)) (fun _ hk => hk.2) (.slice Ao82 y233.length co82)) (fun _ h_ => h_.1))) hb); have n1_ := Aside0.mk (blk_below (g := gb217) (o := .cells #[.int .i64 x218000_3, .slice none 0 0, .string x218002_3, .bool x218003_3] 45 (0, 0)) (by (with_reducible repeat (first | refine blk_drewN ?_ _ | refine blk_drew ?_ | refine blk_alloc ?_ _)); refine blk_far ?_ NB217_224.out _; (with_reducible repeat (first | refine blk_drewN ?_ _ | refine blk_drew ?_ | refine blk_alloc ?_ _)); exact BK217.out) hb); have n2_ := Aside0.mk (blk_below (g := gb224) (o := .cells #[.int .i64 t222, .slice Ao82 y233.length co82, .string (⟨#[]⟩ : ByteArray), .bool false] 45 (0, 0)) (by (with_reducible repeat (first | refine blk_drewN ?_ _ | refine blk_drew ?_ | refine blk_alloc ?_ _)); refine blk_put (cs := #[.int .i64 t222, u225001, .string (⟨#[]⟩ : ByteArray), .bool false]) ?_ 1 _ rfl; (with_reducible repeat (first | refine blk_drewN ?_ _ | refine blk_drew ?_ | refine blk_alloc ?_ _)); exact BK224.out) hb); have n3_ := Aside0.mk (below_step (by repeat (first | (with_reducible first | exact HB.out | apply below_alloc | apply pw_below_drewN | apply below_drew1 | refine below_set ?_ GE217.out | refine below_set ?_ GE224.out) | exact HB.out)) hb); clear HO235; clear BK217; clear BK224; clear HB; have HO235 := n0_; have BK217 := n1_; have BK224 := n2_; have HB := n3_; clear n0_ n1_ n2_ n3_; (try clear hb); (try clear hb2); (try clear hk); (try clear hi)))
                                        go_roundg kj41
                                        case measure => have := HJ2.out; have := HJ12.out; have := HK3.out; have := HJ41.out; omega
                                        case rel => exact ⟨(t226), (x8_3), (x9_3), (x218000_3), (x218002_3), (x218003_3), (y233), (.slice Ao82 y233.length co82), (by first | rfl | (simp; done) | (simp [*]; done)), (by first | rfl | (simp; done) | (simp [*]; done)), (by first | rfl | (simp; done) | (simp [*]; done)), H', ⟨by have := HJ2.out; have := HJ12.out; have := HK3.out; have := HJ41.out; omega⟩, ⟨by (with_reducible repeat (first | apply Kd.R_alloc | apply Kd.R_drewN | apply Kd.R_drew)); exact HO235.out⟩, ⟨by (with_reducible repeat (first | refine blk_drewN ?_ _ | refine blk_drew ?_ | refine blk_alloc ?_ _)); exact BK217.out⟩, ⟨by (with_reducible repeat (first | refine blk_drewN ?_ _ | refine blk_drew ?_ | refine blk_alloc ?_ _)); exact BK224.out⟩, ⟨by repeat (first | (with_reducible first | exact HB.out | apply below_alloc | apply pw_below_drewN | apply below_drew1 | refine below_set ?_ GE217.out | refine below_set ?_ GE224.out) | exact HB.out)⟩⟩
                                    · rw [if_neg c53] at H
                                      exact absurd H (by simp)
                            · rw [if_neg c40] at H
                              exact absurd H (by simp)
                      · replace c22 := Bool.eq_false_iff.mpr c22
                        subst c22
                        have H1 : (some (0, ([] : List (S27)), (⟨#[]⟩ : ByteArray), false, false)) = some (r1, r2, r3, r4, r5) := by rw [if_neg (show ¬ (false = true) by decide)] at H; exact H
                        clear H
                        have H := H1
                        clear H1
                        simp only [Option.some.injEq, Prod.mk.injEq] at H
                        obtain ⟨rfl, rfl, rfl, rfl, rfl⟩ := H
                        go_wp2_with (first | ((with_reducible refine gate_callee (f := 58) rfl ?_); refine goesL_ (some 57) rfl rfl Tryd.func58 (by kernel_rfl) rfl #[.string x0_3] rfl (by (try simp only [List.map_toArray, List.map_cons, List.map_nil]); first | done | rfl | (simp only [List.length_drop, List.length_take]; rfl)) ?_; (with_reducible refine (postilionref01_line.calls k3 x0_3 t225 t226 false _ A21.out).mono ?_); rintro e w' ⟨rfl, ⟨nd, rfl⟩⟩; refine ⟨_, rfl, ?_⟩; (try (rw [drewN_self wr]; generalize hq_ : World.drewN wr _ = wr; have n0_ : Aside0 (Kd.R k27 27 wr w.heap.size (fun _ => True) u225001 x225001_3) := ⟨by rw [← hq_]; exact (by (with_reducible repeat (first | apply Kd.R_alloc | apply Kd.R_drewN | apply Kd.R_drew)); exact HO_225001.out)⟩; have n1_ : Aside0 (wr.heap[gb217]? = some (.cells #[.int .i64 x218000_3, .slice none 0 0, .string x218002_3, .bool x218003_3] 45 (0, 0))) := ⟨by rw [← hq_]; exact (by (with_reducible repeat (first | refine blk_drewN ?_ _ | refine blk_drew ?_ | refine blk_alloc ?_ _)); exact BK217.out)⟩; have n2_ : Aside0 (wr.heap[gb224]? = some (.cells #[.int .i64 t222, u225001, .string (⟨#[]⟩ : ByteArray), .bool false] 45 (0, 0))) := ⟨by rw [← hq_]; exact (by (with_reducible repeat (first | refine blk_drewN ?_ _ | refine blk_drew ?_ | refine blk_alloc ?_ _)); exact BK224.out)⟩; have n3_ : Aside0 (Below w.heap.size w wr) := ⟨by rw [← hq_]; exact (by repeat (first | (with_reducible first | exact HB.out | apply below_alloc | apply pw_below_drewN | apply below_drew1 | refine below_set ?_ GE217.out | refine below_set ?_ GE224.out) | exact HB.out))⟩; clear HO_225001 BK217 BK224 HB hq_; have HO_225001 := n0_; have BK217 := n1_; have BK224 := n2_; have HB := n3_; clear n0_ n1_ n2_ n3_)); have hnb85 := NB217_224.out; have hnc85 := NB224_217.out; have hcz86_0 : wr.cell? ⟨gb217, 0, none⟩ = some (.int .i64 x218000_3) := (blk_cell BK217.out 0).trans rfl; have hcz86_1 : wr.cell? ⟨gb217, 1, none⟩ = some (.slice none 0 0) := (blk_cell BK217.out 1).trans rfl; have hcz86_2 : wr.cell? ⟨gb217, 2, none⟩ = some (.string x218002_3) := (blk_cell BK217.out 2).trans rfl; have hcz86_3 : wr.cell? ⟨gb217, 3, none⟩ = some (.bool x218003_3) := (blk_cell BK217.out 3).trans rfl; have hfz86_0 := blk_frozen BK217.out 0; have hfz86_1 := blk_frozen BK217.out 1; have hfz86_2 := blk_frozen BK217.out 2; have hfz86_3 := blk_frozen BK217.out 3))
                        refine bodyPost_ret (results_ct rfl _ _ gb217 45 #[.int .i64 0, .slice none 0 0, .string (⟨#[]⟩ : ByteArray), .bool false] (0, 0) _ rfl (by (with_reducible repeat (first | refine blk_drewN ?_ _ | refine blk_drew ?_ | refine blk_alloc ?_ _)); refine blk_put (cs := #[.int .i64 0, .slice none 0 0, .string (⟨#[]⟩ : ByteArray), .bool x218003_3]) ?_ 3 _ rfl; (with_reducible repeat (first | refine blk_drewN ?_ _ | refine blk_drew ?_ | refine blk_alloc ?_ _)); refine blk_put (cs := #[.int .i64 0, .slice none 0 0, .string x218002_3, .bool x218003_3]) ?_ 2 _ rfl; (with_reducible repeat (first | refine blk_drewN ?_ _ | refine blk_drew ?_ | refine blk_alloc ?_ _)); refine blk_put (cs := #[.int .i64 0, .slice none 0 0, .string x218002_3, .bool x218003_3]) ?_ 1 _ rfl; (with_reducible repeat (first | refine blk_drewN ?_ _ | refine blk_drew ?_ | refine blk_alloc ?_ _)); refine blk_put (cs := #[.int .i64 x218000_3, .slice none 0 0, .string x218002_3, .bool x218003_3]) ?_ 0 _ rfl; (with_reducible repeat (first | refine blk_drewN ?_ _ | refine blk_drew ?_ | refine blk_alloc ?_ _)); exact BK217.out) Tryd.underlying45 rfl (by kernel_rfl)) rfl ?_
                        exact ⟨_, by first | rfl | (simp [errW_none, errW_some] <;> rfl) | (simp [*, errW_none, errW_some] <;> rfl), by first | exact Kd.R_nil _ _ _ _ _ | exact Kd.N_nil _ _ _ _ _ | exact Kd.V_nil _ _ _ _ _ | exact Kd.Q_nil _ _ _ _ _ | exact Kd.S_nil _ _ _ _ _, by repeat (first | (with_reducible first | exact HB.out | apply below_alloc | apply pw_below_drewN | apply below_drew1 | refine below_set ?_ GE217.out | refine below_set ?_ GE224.out) | exact HB.out)⟩
          · rw [if_neg c11] at H
            exact absurd H (by simp)
        · rw [if_neg c10] at H
          exact absurd H (by simp)

end Go.Proofs.YtllblgjhoeopjaaDoor.GReplyTells
