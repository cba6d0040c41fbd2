/- The contract of cors.Pre, walked by hand: its closure, slices.IndexFunc and slices.ContainsFunc at that closure, Pre itself. -/
import Derived.Test.YtllblgjhoeopjaaDoorVGPrex
import Derived.WalkSpells
import Derived.WalkLawsBesides
import Derived.Deep.RegionHeld3
import Derived.Deep.RegionWith
namespace Go.Proofs.YtllblgjhoeopjaaDoor.GivPre
open Go.RowKit Go.Proofs.YtllblgjhoeopjaaDoorW.PrintWords Go.Proofs.YtllblgjhoeopjaaDoorW.PrintLast Go.Proofs.YtllblgjhoeopjaaDoorW.PrintMore
open Go.Proofs.YtllblgjhoeopjaaDoor.GPre Go.Proofs.YtllblgjhoeopjaaDoor.GivC Go.Proofs.YtllblgjhoeopjaaDoor.Giv
def headsW : ByteArray := ⟨#[97, 108, 108, 111, 119, 45, 104, 101, 97, 100, 115]⟩
def methodsW : ByteArray := ⟨#[97, 108, 108, 111, 119, 45, 109, 101, 116, 104, 111, 100, 115]⟩
/-- The answer r and creds in memory. -/
structure Boxed (w : World) (g q : Nat) (code : Int) (A : Option Addr) (n c : Nat) (b : ByteArray) (t creds : Bool) : Prop where
  c0 : w.cell? ⟨g, 0, none⟩ = some (.int .i64 code)
  c1 : w.cell? ⟨g, 1, none⟩ = some (.slice A n c)
  c2 : w.cell? ⟨g, 2, none⟩ = some (.string b)
  c3 : w.cell? ⟨g, 3, none⟩ = some (.bool t)
  c4 : w.cell? ⟨q, 0, none⟩ = some (.bool creds)
theorem Boxed.below {w w' : World} {g q : Nat} {code : Int} {A : Option Addr} {n c : Nat} {b : ByteArray} {t creds : Bool} (h : Boxed w g q code A n c b t creds) (hb : Below w.heap.size w w') : Boxed w' g q code A n c b t creds :=
  ⟨(hb.cell (World.block_lt_of_cell? w _ h.c0)).trans h.c0, (hb.cell (World.block_lt_of_cell? w _ h.c1)).trans h.c1, (hb.cell (World.block_lt_of_cell? w _ h.c2)).trans h.c2, (hb.cell (World.block_lt_of_cell? w _ h.c3)).trans h.c3, (hb.cell (World.block_lt_of_cell? w _ h.c4)).trans h.c4⟩
set_option maxRecDepth 100000 in
set_option maxHeartbeats 800000 in
theorem pre1 (k : Nat) (code : Int) (A : Option Addr) (c : Nat) (l : List S27) (b : ByteArray) (t creds : Bool) (name : ByteArray) (r : Bool) (g q : Nat) (w : World) (hG : Gl w) (hbx : Boxed w g q code A l.length c b t creds)
    (hr : Kd.C k27 w A l.length l) (hc : l.length ≤ c) (h : cors_allows.f k code l b t headsW name creds = some r) :
    Calls Tryd.prog 48 #[.string name, .pointer (some ⟨g, 0, none⟩), .pointer (some ⟨q, 0, none⟩)] w fun e w' => e = .returned (.bool !r) ∧ Below w.heap.size w w' := by
  obtain ⟨h0, h1, h2, h3, h4⟩ := hbx
  have HC := Lib.hid (cors_allows.calls k code A c l b t headsW name creds r w hG hr hc h)
  clear hG hr hc h
  have hu := Tryd.underlying29
  go_enter Tryd.func48, Tryd.ntmps48
  go_wp2_with (go_at_call 45; refine HC.out.mono ?_; rintro e w' ⟨rfl, hb⟩)
  go_ret
  exact ⟨rfl, hb⟩
/-- Is one of some names not allowed? -/
def anyNot (k : Nat) (code : Int) (l : List S27) (b : ByteArray) (t creds : Bool) : List ByteArray → Option Bool
  | [] => some false
  | n :: r => (cors_allows.f k code l b t headsW n creds).bind fun v => if v = true then anyNot k code l b t creds r else some true
def IdxPost (z : Bool) (w : World) (e : Ending) (w' : World) : Prop := ∃ i : Int, e = .returned (.int .i64 i) ∧ decide (i ≥ 0) = z ∧ Below w.heap.size w w'
structure IdxRel (k : Nat) (code : Int) (l : List S27) (b : ByteArray) (t creds : Bool) (ps : List ByteArray) (z : Bool) (w : World) (j : Nat) (wr : World) : Prop where
  any : anyNot k code l b t creds (ps.drop j) = some z
  below : Below w.heap.size w wr
set_option maxRecDepth 100000 in
set_option maxHeartbeats 1600000 in
theorem indexFunc (k : Nat) (code : Int) (A : Option Addr) (c : Nat) (l : List S27) (b : ByteArray) (t creds : Bool) (z : Bool) (g q : Nat) (A0 : Option Addr) (c0 : Nat) (ps : List ByteArray) (w : World) (hG : Gl w) (hbx : Boxed w g q code A l.length c b t creds)
    (hr : Kd.C k27 w A l.length l) (hc : l.length ≤ c) (hrow : Kd.C Kd.string w A0 ps.length ps) (h : anyNot k code l b t creds ps = some z) :
    Calls Tryd.prog 71 #[.slice A0 ps.length c0, .func (.func 48) #[] #[.pointer (some ⟨g, 0, none⟩), .pointer (some ⟨q, 0, none⟩)]] w (IdxPost z w) := by
  have hn := hrow.2.1
  have HG := Lib.hid hG
  have HX := Lib.hid hbx
  have HR := Lib.hid hr
  have HC := Lib.hid hc
  have HW := Lib.hid hrow
  have H0 : IdxRel k code l b t creds ps z w 0 w := ⟨by rw [List.drop_zero]; exact h, Below.refl _ _⟩
  clear hG hbx hr hc hrow h
  go_enter Tryd.func71, Tryd.ntmps71
  go_wp2
  go_loopw [5, 8] (fun v5 v8 wr => ∃ j : Nat, j ≤ ps.length ∧ v8 = .int .i64 j ∧ Hid (IdxRel k code l b t creds ps z w j wr)) (fun _ v8 _ => ps.length - (intOf v8).toNat)
  case atStart => exact ⟨0, Nat.zero_le _, rfl, H0⟩
  case round =>
    obtain ⟨j, hj, rfl, hI⟩ := hrel
    have HI := Lib.hid hI.out
    clear hI H0
    by_cases hlt : j < ps.length
    · have hb0 := HI.out.below
      have hsz := hb0.size
      obtain ⟨ad, rfl, hcell⟩ := Kd.at_string (Kd.C_below HW.out hb0) (j : Int) (by omega) (by omega)
      have hrd : rdOf ByteArray.empty ps (j : Int) = ps[j] := by
        unfold rdOf
        simp [List.getD_eq_getElem?_getD, List.getElem?_eq_getElem hlt]
      rw [hrd, Int.toNat_natCast] at hcell
      have hdrop : ps.drop j = ps[j] :: ps.drop (j + 1) := List.drop_eq_getElem_cons hlt
      have hany := HI.out.any
      rw [hdrop] at hany
      simp only [anyNot] at hany
      obtain ⟨v, hv, hrest⟩ := Option.bind_eq_some_iff.1 hany
      have HCALL := Lib.hid (pre1 k code A c l b t creds ps[j] v g q wr (HG.out.below hb0) (HX.out.below hb0) (Kd.C_below HR.out hb0) HC.out hv)
      have HB0 := Lib.hid hb0
      clear hany hv hdrop hrd hb0
      generalize ps[j] = nm at *
      rcases v with _ | _
      · have hz : z = true := by simpa using hrest.symm
        have HZ := Lib.hid hz
        clear hz hrest
        go_wp2_with (go_at_call 48; refine HCALL.out.mono ?_; rintro e w' ⟨rfl, hb⟩)
        go_ret
        exact ⟨(j : Int), rfl, by rw [HZ.out, decide_eq_true_eq]; omega, HB0.out.trans (hb.mono hsz)⟩
      · have HZ := Lib.hid hrest
        clear hrest
        go_wp2_with (go_at_call 48; refine HCALL.out.mono ?_; rintro e w' ⟨rfl, hb⟩)
        go_roundw
        case rel => exact ⟨j + 1, by omega, by go_num, ⟨by simpa using HZ.out, HB0.out.trans (hb.mono hsz)⟩⟩
        case measure => simp [intOf]; omega
    · obtain rfl : j = ps.length := by omega
      have hz : z = false := by
        have := HI.out.any
        rw [List.drop_length] at this
        simpa [anyNot] using this.symm
      have HZ := Lib.hid hz
      have HB0 := Lib.hid HI.out.below
      clear hz
      go_wp2
      go_ret
      exact ⟨-1, rfl, by rw [HZ.out]; rfl, HB0.out⟩
set_option maxRecDepth 100000 in
set_option maxHeartbeats 800000 in
theorem containsFunc (k : Nat) (code : Int) (A : Option Addr) (c : Nat) (l : List S27) (b : ByteArray) (t creds : Bool) (z : Bool) (g q : Nat) (A0 : Option Addr) (c0 : Nat) (ps : List ByteArray) (w : World) (hG : Gl w) (hbx : Boxed w g q code A l.length c b t creds)
    (hr : Kd.C k27 w A l.length l) (hc : l.length ≤ c) (hrow : Kd.C Kd.string w A0 ps.length ps) (h : anyNot k code l b t creds ps = some z) :
    Calls Tryd.prog 46 #[.slice A0 ps.length c0, .func (.func 48) #[] #[.pointer (some ⟨g, 0, none⟩), .pointer (some ⟨q, 0, none⟩)]] w fun e w' => e = .returned (.bool z) ∧ Below w.heap.size w w' := by
  have HC := Lib.hid (indexFunc k code A c l b t creds z g q A0 c0 ps w hG hbx hr hc hrow h)
  clear hG hbx hr hc hrow h
  go_enter Tryd.func46, Tryd.ntmps46
  go_wp2_with (go_at_call 71; refine HC.out.mono ?_; rintro e w' ⟨i, rfl, hd, hb⟩; rcases z with _ | _)
  · have hi : i < 0 := by simpa using hd
    go_wp2
    go_ret
    exact ⟨by simp, hb⟩
  · have hi : 0 ≤ i := by simpa using hd
    go_wp2
    go_ret
    exact ⟨by simp, hb⟩
def preOk (k : Nat) (a0_0 : Int) (l0_1 : List S27) (a0_2 : ByteArray) (a0_3 : Bool) (a2 : Bool) (a3 : ByteArray) (m : Bool) : Option Bool :=
  if m = true then some true else (pct_Lower.f a3).bind fun low => cors_allows.f k a0_0 l0_1 a0_2 a0_3 methodsW low a2
def preRest (k : Nat) (a0_0 : Int) (l0_1 : List S27) (a0_2 : ByteArray) (a0_3 : Bool) (a2 : Bool) (l4 : List S27) : Option Bool :=
  (head_Unsafe.f k l4).bind fun us => (anyNot k a0_0 l0_1 a0_2 a0_3 a2 us).bind fun z => some (!z)
def cors_Pre.f (k : Nat) (a0_0 : Int) (l0_1 : List S27) (a0_2 : ByteArray) (a0_3 : Bool) (a1 : ByteArray) (a2 : Bool) (a3 : ByteArray) (l4 : List S27) : Option Bool :=
  if a0_0 < 200 then some false else if a0_0 > 299 then some false else
    (cors_Check.f k a0_0 l0_1 a0_2 a0_3 a1 a2).bind fun c => if c = true then
      ((cors_common.f k a3).bind fun m => (preOk k a0_0 l0_1 a0_2 a0_3 a2 a3 m).bind fun ok => if ok = true then preRest k a0_0 l0_1 a0_2 a0_3 a2 l4 else some false)
    else some false
def World2 (w : World) (a0_0 : Int) (A0_1 : Option Addr) (n c0_1 : Nat) (a0_2 : ByteArray) (a0_3 a2 : Bool) : World :=
  (w.alloc (.cells #[.int .i64 a0_0, .slice A0_1 n c0_1, .string a0_2, .bool a0_3] 29)).alloc (.cells #[.bool a2] 4)
set_option maxRecDepth 100000 in
theorem boxed2 (w : World) (a0_0 : Int) (A0_1 : Option Addr) (n c0_1 : Nat) (a0_2 : ByteArray) (a0_3 a2 : Bool) :
    Boxed (World2 w a0_0 A0_1 n c0_1 a0_2 a0_3 a2) w.heap.size (w.heap.size + 1) a0_0 A0_1 n c0_1 a0_2 a0_3 a2 ∧ Below w.heap.size w (World2 w a0_0 A0_1 n c0_1 a0_2 a0_3 a2) := by
  unfold World2
  refine ⟨⟨?_, ?_, ?_, ?_, ?_⟩, ((Below.refl _ _).alloc (Nat.le_refl _) _).alloc (by simp) _⟩ <;> simp [go_sem]
set_option maxRecDepth 100000 in
set_option maxHeartbeats 800000 in
theorem pre_code (a0_0 : Int) (A0_1 : Option Addr) (n c0_1 : Nat) (a0_2 : ByteArray) (a0_3 : Bool) (a1 : ByteArray) (a2 : Bool) (a3 : ByteArray) (A4 : Option Addr) (n4 c4 : Nat) (w : World) (h : a0_0 < 200 ∨ 299 < a0_0) :
    Calls Tryd.prog 20 #[.agg #[.int .i64 a0_0, .slice A0_1 n c0_1, .string a0_2, .bool a0_3], .string a1, .bool a2, .string a3, .slice A4 n4 c4] w fun e w' => e = .returned (.bool false) ∧ Below w.heap.size w w' := by
  have hu := Tryd.underlying29
  have hB := (boxed2 w a0_0 A0_1 n c0_1 a0_2 a0_3 a2).2
  by_cases h1 : a0_0 < 200
  · clear h
    go_enter Tryd.func20, Tryd.ntmps20
    go_wp2
    go_ret
    exact ⟨rfl, hB⟩
  · have h2 : 299 < a0_0 := by omega
    clear h
    go_enter Tryd.func20, Tryd.ntmps20
    go_wp2
    go_ret
    exact ⟨rfl, hB⟩
set_option maxRecDepth 100000 in
set_option maxHeartbeats 800000 in
theorem pre_check_no (k : Nat) (a0_0 : Int) (A0_1 : Option Addr) (c0_1 : Nat) (l0_1 : List S27) (a0_2 : ByteArray) (a0_3 : Bool) (a1 : ByteArray) (a2 : Bool) (a3 : ByteArray) (A4 : Option Addr) (c4 : Nat) (l4 : List S27) (w : World) (hr0_1 : Kd.C k27 w A0_1 l0_1.length l0_1) (hc0_1 : l0_1.length ≤ c0_1) (h1 : 200 ≤ a0_0) (h2 : a0_0 ≤ 299)
    (hk : cors_Check.f k a0_0 l0_1 a0_2 a0_3 a1 a2 = some false) :
    Calls Tryd.prog 20 #[.agg #[.int .i64 a0_0, .slice A0_1 l0_1.length c0_1, .string a0_2, .bool a0_3], .string a1, .bool a2, .string a3, .slice A4 l4.length c4] w fun e w' => e = .returned (.bool false) ∧ Below w.heap.size w w' := by
  have hu := Tryd.underlying29
  have hB := (boxed2 w a0_0 A0_1 l0_1.length c0_1 a0_2 a0_3 a2).2
  have HB := Lib.hid hB
  have HC := Lib.hid (cors_Check.calls k a0_0 A0_1 c0_1 l0_1 a0_2 a0_3 a1 a2 false _ (Kd.C_below hr0_1 hB) hc0_1 hk)
  clear hr0_1 hc0_1 hk hB
  unfold World2 at HB HC
  go_enter Tryd.func20, Tryd.ntmps20
  go_wp2_with (go_at_call 19; refine HC.out.mono ?_; rintro e w' ⟨rfl, hb⟩)
  go_ret
  exact ⟨rfl, HB.out.trans (hb.mono HB.out.size)⟩
-- the drawn region, step by step
set_option linter.unusedSimpArgs false
def Held6 (w1 : World) (g q : Nat) (code : Int) (A : Option Addr) (n c : Nat) (b : ByteArray) (t creds : Bool) (w' : World) : Prop :=
  w'.cell? ⟨g, 0, none⟩ = some (.int .i64 code) ∧ w'.cell? ⟨g, 1, none⟩ = some (.slice A n c) ∧ w'.cell? ⟨g, 2, none⟩ = some (.string b) ∧ w'.cell? ⟨g, 3, none⟩ = some (.bool t) ∧ w'.cell? ⟨q, 0, none⟩ = some (.bool creds) ∧ Below w1.heap.size w1 w'
theorem Held6.boxed {w1 : World} {g q : Nat} {code : Int} {A : Option Addr} {n c : Nat} {b : ByteArray} {t creds : Bool} {w' : World} (h : Held6 w1 g q code A n c b t creds w') : Boxed w' g q code A n c b t creds := ⟨h.1, h.2.1, h.2.2.1, h.2.2.2.1, h.2.2.2.2.1⟩
theorem held_step {w1 : World} {g q : Nat} {code : Int} {A : Option Addr} {n c : Nat} {b : ByteArray} {t creds : Bool} {w' w2 : World} (h : Held6 w1 g q code A n c b t creds w') (hb : Below w'.heap.size w' w2) : Held6 w1 g q code A n c b t creds w2 :=
  have hx := h.boxed.below hb
  ⟨hx.1, hx.2, hx.3, hx.4, hx.5, h.2.2.2.2.2.trans (hb.mono h.2.2.2.2.2.size)⟩
set_option maxRecDepth 100000 in
set_option maxHeartbeats 4000000 in
theorem pre_common (k : Nat) (a0_0 : Int) (A0_1 : Option Addr) (c0_1 : Nat) (l0_1 : List S27) (a0_2 : ByteArray) (a0_3 : Bool) (a1 : ByteArray) (a2 : Bool) (a3 : ByteArray) (A4 : Option Addr) (c4 : Nat) (l4 : List S27) (w : World) (hG : Gl w) (hr0_1 : Kd.C k27 w A0_1 l0_1.length l0_1) (hc0_1 : l0_1.length ≤ c0_1) (hr4 : Kd.C k27 w A4 l4.length l4) (hc4 : l4.length ≤ c4) (h1 : 200 ≤ a0_0) (h2 : a0_0 ≤ 299)
    (hk : cors_Check.f k a0_0 l0_1 a0_2 a0_3 a1 a2 = some true) (hm : cors_common.f k a3 = some true) (us : List ByteArray) (hus : head_Unsafe.f k l4 = some us) (z : Bool) (hz : anyNot k a0_0 l0_1 a0_2 a0_3 a2 us = some z) :
    Calls Tryd.prog 20 #[.agg #[.int .i64 a0_0, .slice A0_1 l0_1.length c0_1, .string a0_2, .bool a0_3], .string a1, .bool a2, .string a3, .slice A4 l4.length c4] w fun e w' => e = .returned (.bool !z) ∧ Below w.heap.size w w' := by
  have hu := Tryd.underlying29
  obtain ⟨hX, hB⟩ := boxed2 w a0_0 A0_1 l0_1.length c0_1 a0_2 a0_3 a2
  have HB := Lib.hid hB
  have HX := Lib.hid hX
  have HC := Lib.hid (cors_Check.calls k a0_0 A0_1 c0_1 l0_1 a0_2 a0_3 a1 a2 true _ (Kd.C_below hr0_1 hB) hc0_1 hk)
  have HM := Lib.hid (fun W => cors_common.calls k a3 true W hm)
  have HU := Lib.hid (fun W (hb : Below w.heap.size w W) => head_Unsafe.calls k A4 c4 l4 us W (hG.below hb) (Kd.C_below hr4 hb) hc4 hus)
  have HF := Lib.hid (fun W (hb : Below w.heap.size w W) (hX : Boxed W w.heap.size (w.heap.size + 1) a0_0 A0_1 l0_1.length c0_1 a0_2 a0_3 a2) A0 c0 (hrow : Kd.C Kd.string W A0 us.length us) => containsFunc k a0_0 A0_1 c0_1 l0_1 a0_2 a0_3 a2 z w.heap.size (w.heap.size + 1) A0 c0 us W (hG.below hb) hX (Kd.C_below hr0_1 hb) hc0_1 hrow hz)
  clear hG hr0_1 hc0_1 hk hB hX hr4 hc4 hm hus hz
  unfold World2 at HB HC HX
  go_enter Tryd.func20, Tryd.ntmps20
  go_wp2_with (go_at_call 19; refine HC.out.mono ?_; rintro e w1 ⟨rfl, hb⟩; have HB1 := Lib.hid (HB.out.trans (hb.mono HB.out.size)); have HX1 := Lib.hid (HX.out.below hb); clear hb HB HX HC)
  refine start_ (n := 11) (S := Held6 w1 w.heap.size (w.heap.size + 1) a0_0 A0_1 l0_1.length c0_1 a0_2 a0_3 a2) (ds := []) #[false, false, false, false, false, false, false, false, false, false, false] (by kernel_rfl) rfl rfl ⟨HX1.out.1, HX1.out.2, HX1.out.3, HX1.out.4, HX1.out.5, below_drew1 (Below.refl _ _)⟩ (fun hHeld => ?_)
  refine pure_ (i := 0) (N := some 26) (v := ?_) (a' := ?_) #[true, false, false, false, false, false, false, false, false, false, false] rfl rfl (by kernel_rfl) (fun _ _ _ h => h) (Or.inl ⟨by rfl, ?_⟩) ?_ ?_
  rotate_left
  · intro w'
    go_simp
    with_reducible rfl
  rotate_left
  · simp only [Act.put, List.setIfInBounds_toArray, List.set_cons_zero, List.set_cons_succ, i64_w, i32_w]
    rfl
  refine one_ (i := 1) (N := some 27) #[true, true, false, false, false, false, false, false, false, false, false] rfl rfl (by kernel_rfl) (by decide) (fun K hK => ?_)
  refine goes_ Tryd.func44 (by kernel_rfl) rfl #[.string a3] (by rfl) rfl rfl (by first | rfl | (simp only [List.map_toArray, List.map_cons, List.map_nil]; rfl)) ?_
  refine (HM.out _).mono ?_
  rintro e wq ⟨rfl, hb⟩
  refine ⟨_, rfl, ?_⟩
  refine hK.out _ _ (held_step hHeld hb) (fun hHeld => ?_)
  clear hK K
  refine norm_ (a' := ?_) ?_ ?_
  rotate_left
  · show Act.put _ (some 27) _ = _
    simp only [Act.put, List.setIfInBounds_toArray, List.set_cons_zero, List.set_cons_succ, i64_w, i32_w]
    rfl
  refine pure_ (i := 2) (N := some 28) (v := ?_) (a' := ?_) #[true, true, true, false, false, false, false, false, false, false, false] rfl rfl (by kernel_rfl) (fun _ _ _ h => h) (Or.inl ⟨by rfl, ?_⟩) ?_ ?_
  rotate_left
  · intro w'
    go_simp
    with_reducible rfl
  rotate_left
  · simp only [Act.put, List.setIfInBounds_toArray, List.set_cons_zero, List.set_cons_succ, i64_w, i32_w]
    rfl
  refine pure_ (i := 3) (N := some 29) (v := ?_) (a' := ?_) #[true, true, true, true, false, false, false, false, false, false, false] rfl rfl (by kernel_rfl) (fun _ _ _ h => h) (Or.inl ⟨by rfl, ?_⟩) ?_ ?_
  rotate_left
  · intro w'
    go_simp
    with_reducible rfl
  rotate_left
  · simp only [Act.put, List.setIfInBounds_toArray, List.set_cons_zero, List.set_cons_succ, i64_w, i32_w]
    rfl
  refine pure_ (i := 4) (N := some 30) (v := undef) (a' := ?_) #[true, true, true, true, true, false, false, false, false, false, false] rfl rfl (by kernel_rfl) (fun _ _ _ h => h) (Or.inr ⟨by rfl, rfl⟩) ?_ ?_
  rotate_left
  · simp only [Act.put, List.setIfInBounds_toArray, List.set_cons_zero, List.set_cons_succ, i64_w, i32_w]
    rfl
  refine pure_ (i := 5) (N := some 31) (v := undef) (a' := ?_) #[true, true, true, true, true, true, false, false, false, false, false] rfl rfl (by kernel_rfl) (fun _ _ _ h => h) (Or.inr ⟨by rfl, rfl⟩) ?_ ?_
  rotate_left
  · simp only [Act.put, List.setIfInBounds_toArray, List.set_cons_zero, List.set_cons_succ, i64_w, i32_w]
    rfl
  refine pure_ (i := 6) (N := some 32) (v := undef) (a' := ?_) #[true, true, true, true, true, true, true, false, false, false, false] rfl rfl (by kernel_rfl) (fun _ _ _ h => h) (Or.inr ⟨by rfl, rfl⟩) ?_ ?_
  rotate_left
  · simp only [Act.put, List.setIfInBounds_toArray, List.set_cons_zero, List.set_cons_succ, i64_w, i32_w]
    rfl
  refine pure_ (i := 7) (N := some 33) (v := undef) (a' := ?_) #[true, true, true, true, true, true, true, true, false, false, false] rfl rfl (by kernel_rfl) (fun _ _ _ h => h) (Or.inr ⟨by rfl, rfl⟩) ?_ ?_
  rotate_left
  · simp only [Act.put, List.setIfInBounds_toArray, List.set_cons_zero, List.set_cons_succ, i64_w, i32_w]
    rfl
  refine pure_ (i := 8) (N := some 34) (v := undef) (a' := ?_) #[true, true, true, true, true, true, true, true, true, false, false] rfl rfl (by kernel_rfl) (fun _ _ _ h => h) (Or.inr ⟨by rfl, rfl⟩) ?_ ?_
  rotate_left
  · simp only [Act.put, List.setIfInBounds_toArray, List.set_cons_zero, List.set_cons_succ, i64_w, i32_w]
    rfl
  refine pure_ (i := 9) (N := some 35) (v := undef) (a' := ?_) #[true, true, true, true, true, true, true, true, true, true, false] rfl rfl (by kernel_rfl) (fun _ _ _ h => h) (Or.inr ⟨by rfl, rfl⟩) ?_ ?_
  rotate_left
  · simp only [Act.put, List.setIfInBounds_toArray, List.set_cons_zero, List.set_cons_succ, i64_w, i32_w]
    rfl
  refine pure_ (i := 10) (N := some 36) (v := ?_) (a' := ?_) #[true, true, true, true, true, true, true, true, true, true, true] rfl rfl (by kernel_rfl) (fun _ _ _ h => h) (Or.inl ⟨by rfl, ?_⟩) ?_ ?_
  rotate_left
  · intro w'
    go_simp
    with_reducible rfl
  rotate_left
  · simp only [Act.put, List.setIfInBounds_toArray, List.set_cons_zero, List.set_cons_succ, i64_w, i32_w]
    rfl
  refine done_ (by kernel_rfl) ?_
  have HH := Lib.hid hHeld
  clear hHeld
  have HB3 := Lib.hid (HB1.out.trans (HH.out.2.2.2.2.2.mono HB1.out.size))
  have HX3 := Lib.hid HH.out.boxed
  clear HH HB1 HX1 HM
  have HU3 := Lib.hid (HU.out wq HB3.out)
  clear HU
  go_wp2_with (go_at_call 47; refine HU3.out.mono ?_; rintro e w4 ⟨v0, rfl, hR, hb4⟩; clear HU3; have HB4 := Lib.hid (HB3.out.trans (hb4.mono HB3.out.size)); have HX4 := Lib.hid (HX3.out.below hb4); obtain ⟨A9, c9, rfl, hl9, hC9⟩ := Kd.R_reads hR; have HF4 := Lib.hid (HF.out w4 HB4.out HX4.out A9 c9 hC9); clear HF hR hC9 hb4 HB3 HX3)
  go_wp2_with (go_at_call 46; refine HF4.out.mono ?_; rintro e w5 ⟨rfl, hb5⟩)
  go_ret
  exact ⟨rfl, HB4.out.trans (hb5.mono HB4.out.size)⟩
set_option maxRecDepth 100000 in
set_option maxHeartbeats 4000000 in
theorem pre_methods_false (k : Nat) (a0_0 : Int) (A0_1 : Option Addr) (c0_1 : Nat) (l0_1 : List S27) (a0_2 : ByteArray) (a0_3 : Bool) (a1 : ByteArray) (a2 : Bool) (a3 : ByteArray) (A4 : Option Addr) (c4 : Nat) (l4 : List S27) (w : World) (hG : Gl w) (hr0_1 : Kd.C k27 w A0_1 l0_1.length l0_1) (hc0_1 : l0_1.length ≤ c0_1) (h1 : 200 ≤ a0_0) (h2 : a0_0 ≤ 299)
    (hk : cors_Check.f k a0_0 l0_1 a0_2 a0_3 a1 a2 = some true) (hm : cors_common.f k a3 = some false) (low : ByteArray) (hlow : pct_Lower.f a3 = some low) (hal : cors_allows.f k a0_0 l0_1 a0_2 a0_3 methodsW low a2 = some false) :
    Calls Tryd.prog 20 #[.agg #[.int .i64 a0_0, .slice A0_1 l0_1.length c0_1, .string a0_2, .bool a0_3], .string a1, .bool a2, .string a3, .slice A4 l4.length c4] w fun e w' => e = .returned (.bool false) ∧ Below w.heap.size w w' := by
  have hu := Tryd.underlying29
  obtain ⟨hX, hB⟩ := boxed2 w a0_0 A0_1 l0_1.length c0_1 a0_2 a0_3 a2
  have HB := Lib.hid hB
  have HX := Lib.hid hX
  have HC := Lib.hid (cors_Check.calls k a0_0 A0_1 c0_1 l0_1 a0_2 a0_3 a1 a2 true _ (Kd.C_below hr0_1 hB) hc0_1 hk)
  have HM := Lib.hid (fun W => cors_common.calls k a3 false W hm)
  have HL := Lib.hid (fun W => pct_Lower.calls a3 low W hlow)
  have HA := Lib.hid (fun W (hb : Below w.heap.size w W) => cors_allows.calls k a0_0 A0_1 c0_1 l0_1 a0_2 a0_3 methodsW low a2 false W (hG.below hb) (Kd.C_below hr0_1 hb) hc0_1 hal)
  clear hG hr0_1 hc0_1 hk hB hX hm hlow hal
  unfold World2 at HB HC HX
  go_enter Tryd.func20, Tryd.ntmps20
  go_wp2_with (go_at_call 19; refine HC.out.mono ?_; rintro e w1 ⟨rfl, hb⟩; have HB1 := Lib.hid (HB.out.trans (hb.mono HB.out.size)); have HX1 := Lib.hid (HX.out.below hb); clear hb HB HX HC)
  refine start_ (n := 11) (S := Held6 w1 w.heap.size (w.heap.size + 1) a0_0 A0_1 l0_1.length c0_1 a0_2 a0_3 a2) (ds := []) #[false, false, false, false, false, false, false, false, false, false, false] (by kernel_rfl) rfl rfl ⟨HX1.out.1, HX1.out.2, HX1.out.3, HX1.out.4, HX1.out.5, below_drew1 (Below.refl _ _)⟩ (fun hHeld => ?_)
  refine pure_ (i := 0) (N := some 26) (v := ?_) (a' := ?_) #[true, false, false, false, false, false, false, false, false, false, false] rfl rfl (by kernel_rfl) (fun _ _ _ h => h) (Or.inl ⟨by rfl, ?_⟩) ?_ ?_
  rotate_left
  · intro w'
    go_simp
    with_reducible rfl
  rotate_left
  · simp only [Act.put, List.setIfInBounds_toArray, List.set_cons_zero, List.set_cons_succ, i64_w, i32_w]
    rfl
  refine one_ (i := 1) (N := some 27) #[true, true, false, false, false, false, false, false, false, false, false] rfl rfl (by kernel_rfl) (by decide) (fun K hK => ?_)
  refine goes_ Tryd.func44 (by kernel_rfl) rfl #[.string a3] (by rfl) rfl rfl (by first | rfl | (simp only [List.map_toArray, List.map_cons, List.map_nil]; rfl)) ?_
  refine (HM.out _).mono ?_
  rintro e wq ⟨rfl, hb⟩
  refine ⟨_, rfl, ?_⟩
  refine hK.out _ _ (held_step hHeld hb) (fun hHeld => ?_)
  clear hK K
  refine norm_ (a' := ?_) ?_ ?_
  rotate_left
  · show Act.put _ (some 27) _ = _
    simp only [Act.put, List.setIfInBounds_toArray, List.set_cons_zero, List.set_cons_succ, i64_w, i32_w]
    rfl
  refine pure_ (i := 2) (N := some 28) (v := ?_) (a' := ?_) #[true, true, true, false, false, false, false, false, false, false, false] rfl rfl (by kernel_rfl) (fun _ _ _ h => h) (Or.inl ⟨by rfl, ?_⟩) ?_ ?_
  rotate_left
  · intro w'
    go_simp
    with_reducible rfl
  rotate_left
  · simp only [Act.put, List.setIfInBounds_toArray, List.set_cons_zero, List.set_cons_succ, i64_w, i32_w]
    rfl
  refine pure_ (i := 3) (N := some 29) (v := ?_) (a' := ?_) #[true, true, true, true, false, false, false, false, false, false, false] rfl rfl (by kernel_rfl) (fun _ _ _ h => h) (Or.inl ⟨by rfl, ?_⟩) ?_ ?_
  rotate_left
  · intro w'
    go_simp
    with_reducible rfl
  rotate_left
  · simp only [Act.put, List.setIfInBounds_toArray, List.set_cons_zero, List.set_cons_succ, i64_w, i32_w]
    rfl
  refine pure_ (i := 5) (N := some 31) (v := ?_) (a' := ?_) #[true, true, true, true, false, true, false, false, false, false, false] rfl rfl (by kernel_rfl) (fun _ _ _ h => h) (Or.inl ⟨by rfl, ?_⟩) ?_ ?_
  rotate_left
  · intro w'
    go_simp
    with_reducible rfl
  rotate_left
  · simp only [Act.put, List.setIfInBounds_toArray, List.set_cons_zero, List.set_cons_succ, i64_w, i32_w]
    rfl
  refine take_ (i := 4) (N := some 30) (v := ?_) (a' := ?_) #[true, true, true, true, true, true, false, false, false, false, false] rfl rfl (by kernel_rfl) (fun _ _ _ h => h) (Or.inl ⟨by rfl, ?_⟩) hHeld ?_ ?_
  rotate_left
  · rintro w' ⟨s0, s1, s2, s3, s4, s5⟩
    go_simp
    with_reducible rfl
  rotate_left
  · simp only [Act.put, List.setIfInBounds_toArray, List.set_cons_zero, List.set_cons_succ, i64_w, i32_w]
    rfl
  refine take_ (i := 7) (N := some 33) (v := ?_) (a' := ?_) #[true, true, true, true, true, true, false, true, false, false, false] rfl rfl (by kernel_rfl) (fun _ _ _ h => h) (Or.inl ⟨by rfl, ?_⟩) hHeld ?_ ?_
  rotate_left
  · rintro w' ⟨s0, s1, s2, s3, s4, s5⟩
    go_simp
    with_reducible rfl
  rotate_left
  · simp only [Act.put, List.setIfInBounds_toArray, List.set_cons_zero, List.set_cons_succ, i64_w, i32_w]
    rfl
  refine one_ (i := 6) (N := some 32) #[true, true, true, true, true, true, true, true, false, false, false] rfl rfl (by kernel_rfl) (by decide) (fun K hK => ?_)
  refine goes_ Tryd.func41 (by kernel_rfl) rfl #[.string a3] (by rfl) rfl rfl (by first | rfl | (simp only [List.map_toArray, List.map_cons, List.map_nil]; rfl)) ?_
  refine (HL.out _).mono ?_
  rintro e wq ⟨rfl, hb⟩
  refine ⟨_, rfl, ?_⟩
  refine hK.out _ _ (held_step hHeld hb) (fun hHeld => ?_)
  clear hK K
  refine norm_ (a' := ?_) ?_ ?_
  rotate_left
  · show Act.put _ (some 32) _ = _
    simp only [Act.put, List.setIfInBounds_toArray, List.set_cons_zero, List.set_cons_succ, i64_w, i32_w]
    rfl
  refine one_ (i := 8) (N := some 34) #[true, true, true, true, true, true, true, true, true, false, false] rfl rfl (by kernel_rfl) (by decide) (fun K hK => ?_)
  refine goes_ Tryd.func45 (by kernel_rfl) rfl #[.agg #[.int .i64 a0_0, .slice A0_1 l0_1.length c0_1, .string a0_2, .bool a0_3], .string methodsW, .string low, .bool a2] (by rfl) rfl rfl (by first | rfl | (simp only [List.map_toArray, List.map_cons, List.map_nil]; rfl)) ?_
  refine (HA.out _ (HB1.out.trans (hHeld.2.2.2.2.2.mono HB1.out.size))).mono ?_
  rintro e wq ⟨rfl, hb⟩
  refine ⟨_, rfl, ?_⟩
  refine hK.out _ _ (held_step hHeld hb) (fun hHeld => ?_)
  clear hK K
  refine norm_ (a' := ?_) ?_ ?_
  rotate_left
  · show Act.put _ (some 34) _ = _
    simp only [Act.put, List.setIfInBounds_toArray, List.set_cons_zero, List.set_cons_succ, i64_w, i32_w]
    rfl
  refine pure_ (i := 9) (N := some 35) (v := ?_) (a' := ?_) #[true, true, true, true, true, true, true, true, true, true, false] rfl rfl (by kernel_rfl) (fun _ _ _ h => h) (Or.inl ⟨by rfl, ?_⟩) ?_ ?_
  rotate_left
  · intro w'
    go_simp
    with_reducible rfl
  rotate_left
  · simp only [Act.put, List.setIfInBounds_toArray, List.set_cons_zero, List.set_cons_succ, i64_w, i32_w]
    rfl
  refine pure_ (i := 10) (N := some 36) (v := ?_) (a' := ?_) #[true, true, true, true, true, true, true, true, true, true, true] rfl rfl (by kernel_rfl) (fun _ _ _ h => h) (Or.inl ⟨by rfl, ?_⟩) ?_ ?_
  rotate_left
  · intro w'
    go_simp
    with_reducible rfl
  rotate_left
  · simp only [Act.put, List.setIfInBounds_toArray, List.set_cons_zero, List.set_cons_succ, i64_w, i32_w]
    rfl
  refine done_ (by kernel_rfl) ?_
  have HH := Lib.hid hHeld
  clear hHeld
  go_wp2
  go_ret
  exact ⟨rfl, HB1.out.trans (HH.out.2.2.2.2.2.mono HB1.out.size)⟩
set_option maxRecDepth 100000 in
set_option maxHeartbeats 4000000 in
theorem pre_methods_true (k : Nat) (a0_0 : Int) (A0_1 : Option Addr) (c0_1 : Nat) (l0_1 : List S27) (a0_2 : ByteArray) (a0_3 : Bool) (a1 : ByteArray) (a2 : Bool) (a3 : ByteArray) (A4 : Option Addr) (c4 : Nat) (l4 : List S27) (w : World) (hG : Gl w) (hr0_1 : Kd.C k27 w A0_1 l0_1.length l0_1) (hc0_1 : l0_1.length ≤ c0_1) (hr4 : Kd.C k27 w A4 l4.length l4) (hc4 : l4.length ≤ c4) (h1 : 200 ≤ a0_0) (h2 : a0_0 ≤ 299)
    (hk : cors_Check.f k a0_0 l0_1 a0_2 a0_3 a1 a2 = some true) (hm : cors_common.f k a3 = some false) (low : ByteArray) (hlow : pct_Lower.f a3 = some low) (hal : cors_allows.f k a0_0 l0_1 a0_2 a0_3 methodsW low a2 = some true) (us : List ByteArray) (hus : head_Unsafe.f k l4 = some us) (z : Bool) (hz : anyNot k a0_0 l0_1 a0_2 a0_3 a2 us = some z) :
    Calls Tryd.prog 20 #[.agg #[.int .i64 a0_0, .slice A0_1 l0_1.length c0_1, .string a0_2, .bool a0_3], .string a1, .bool a2, .string a3, .slice A4 l4.length c4] w fun e w' => e = .returned (.bool !z) ∧ Below w.heap.size w w' := by
  have hu := Tryd.underlying29
  obtain ⟨hX, hB⟩ := boxed2 w a0_0 A0_1 l0_1.length c0_1 a0_2 a0_3 a2
  have HB := Lib.hid hB
  have HX := Lib.hid hX
  have HC := Lib.hid (cors_Check.calls k a0_0 A0_1 c0_1 l0_1 a0_2 a0_3 a1 a2 true _ (Kd.C_below hr0_1 hB) hc0_1 hk)
  have HM := Lib.hid (fun W => cors_common.calls k a3 false W hm)
  have HL := Lib.hid (fun W => pct_Lower.calls a3 low W hlow)
  have HA := Lib.hid (fun W (hb : Below w.heap.size w W) => cors_allows.calls k a0_0 A0_1 c0_1 l0_1 a0_2 a0_3 methodsW low a2 true W (hG.below hb) (Kd.C_below hr0_1 hb) hc0_1 hal)
  have HU := Lib.hid (fun W (hb : Below w.heap.size w W) => head_Unsafe.calls k A4 c4 l4 us W (hG.below hb) (Kd.C_below hr4 hb) hc4 hus)
  have HF := Lib.hid (fun W (hb : Below w.heap.size w W) (hX : Boxed W w.heap.size (w.heap.size + 1) a0_0 A0_1 l0_1.length c0_1 a0_2 a0_3 a2) A0 c0 (hrow : Kd.C Kd.string W A0 us.length us) => containsFunc k a0_0 A0_1 c0_1 l0_1 a0_2 a0_3 a2 z w.heap.size (w.heap.size + 1) A0 c0 us W (hG.below hb) hX (Kd.C_below hr0_1 hb) hc0_1 hrow hz)
  clear hG hr0_1 hc0_1 hk hB hX hm hlow hal hr4 hc4 hus hz
  unfold World2 at HB HC HX
  go_enter Tryd.func20, Tryd.ntmps20
  go_wp2_with (go_at_call 19; refine HC.out.mono ?_; rintro e w1 ⟨rfl, hb⟩; have HB1 := Lib.hid (HB.out.trans (hb.mono HB.out.size)); have HX1 := Lib.hid (HX.out.below hb); clear hb HB HX HC)
  refine start_ (n := 11) (S := Held6 w1 w.heap.size (w.heap.size + 1) a0_0 A0_1 l0_1.length c0_1 a0_2 a0_3 a2) (ds := []) #[false, false, false, false, false, false, false, false, false, false, false] (by kernel_rfl) rfl rfl ⟨HX1.out.1, HX1.out.2, HX1.out.3, HX1.out.4, HX1.out.5, below_drew1 (Below.refl _ _)⟩ (fun hHeld => ?_)
  refine pure_ (i := 0) (N := some 26) (v := ?_) (a' := ?_) #[true, false, false, false, false, false, false, false, false, false, false] rfl rfl (by kernel_rfl) (fun _ _ _ h => h) (Or.inl ⟨by rfl, ?_⟩) ?_ ?_
  rotate_left
  · intro w'
    go_simp
    with_reducible rfl
  rotate_left
  · simp only [Act.put, List.setIfInBounds_toArray, List.set_cons_zero, List.set_cons_succ, i64_w, i32_w]
    rfl
  refine one_ (i := 1) (N := some 27) #[true, true, false, false, false, false, false, false, false, false, false] rfl rfl (by kernel_rfl) (by decide) (fun K hK => ?_)
  refine goes_ Tryd.func44 (by kernel_rfl) rfl #[.string a3] (by rfl) rfl rfl (by first | rfl | (simp only [List.map_toArray, List.map_cons, List.map_nil]; rfl)) ?_
  refine (HM.out _).mono ?_
  rintro e wq ⟨rfl, hb⟩
  refine ⟨_, rfl, ?_⟩
  refine hK.out _ _ (held_step hHeld hb) (fun hHeld => ?_)
  clear hK K
  refine norm_ (a' := ?_) ?_ ?_
  rotate_left
  · show Act.put _ (some 27) _ = _
    simp only [Act.put, List.setIfInBounds_toArray, List.set_cons_zero, List.set_cons_succ, i64_w, i32_w]
    rfl
  refine pure_ (i := 2) (N := some 28) (v := ?_) (a' := ?_) #[true, true, true, false, false, false, false, false, false, false, false] rfl rfl (by kernel_rfl) (fun _ _ _ h => h) (Or.inl ⟨by rfl, ?_⟩) ?_ ?_
  rotate_left
  · intro w'
    go_simp
    with_reducible rfl
  rotate_left
  · simp only [Act.put, List.setIfInBounds_toArray, List.set_cons_zero, List.set_cons_succ, i64_w, i32_w]
    rfl
  refine pure_ (i := 3) (N := some 29) (v := ?_) (a' := ?_) #[true, true, true, true, false, false, false, false, false, false, false] rfl rfl (by kernel_rfl) (fun _ _ _ h => h) (Or.inl ⟨by rfl, ?_⟩) ?_ ?_
  rotate_left
  · intro w'
    go_simp
    with_reducible rfl
  rotate_left
  · simp only [Act.put, List.setIfInBounds_toArray, List.set_cons_zero, List.set_cons_succ, i64_w, i32_w]
    rfl
  refine pure_ (i := 5) (N := some 31) (v := ?_) (a' := ?_) #[true, true, true, true, false, true, false, false, false, false, false] rfl rfl (by kernel_rfl) (fun _ _ _ h => h) (Or.inl ⟨by rfl, ?_⟩) ?_ ?_
  rotate_left
  · intro w'
    go_simp
    with_reducible rfl
  rotate_left
  · simp only [Act.put, List.setIfInBounds_toArray, List.set_cons_zero, List.set_cons_succ, i64_w, i32_w]
    rfl
  refine take_ (i := 4) (N := some 30) (v := ?_) (a' := ?_) #[true, true, true, true, true, true, false, false, false, false, false] rfl rfl (by kernel_rfl) (fun _ _ _ h => h) (Or.inl ⟨by rfl, ?_⟩) hHeld ?_ ?_
  rotate_left
  · rintro w' ⟨s0, s1, s2, s3, s4, s5⟩
    go_simp
    with_reducible rfl
  rotate_left
  · simp only [Act.put, List.setIfInBounds_toArray, List.set_cons_zero, List.set_cons_succ, i64_w, i32_w]
    rfl
  refine take_ (i := 7) (N := some 33) (v := ?_) (a' := ?_) #[true, true, true, true, true, true, false, true, false, false, false] rfl rfl (by kernel_rfl) (fun _ _ _ h => h) (Or.inl ⟨by rfl, ?_⟩) hHeld ?_ ?_
  rotate_left
  · rintro w' ⟨s0, s1, s2, s3, s4, s5⟩
    go_simp
    with_reducible rfl
  rotate_left
  · simp only [Act.put, List.setIfInBounds_toArray, List.set_cons_zero, List.set_cons_succ, i64_w, i32_w]
    rfl
  refine one_ (i := 6) (N := some 32) #[true, true, true, true, true, true, true, true, false, false, false] rfl rfl (by kernel_rfl) (by decide) (fun K hK => ?_)
  refine goes_ Tryd.func41 (by kernel_rfl) rfl #[.string a3] (by rfl) rfl rfl (by first | rfl | (simp only [List.map_toArray, List.map_cons, List.map_nil]; rfl)) ?_
  refine (HL.out _).mono ?_
  rintro e wq ⟨rfl, hb⟩
  refine ⟨_, rfl, ?_⟩
  refine hK.out _ _ (held_step hHeld hb) (fun hHeld => ?_)
  clear hK K
  refine norm_ (a' := ?_) ?_ ?_
  rotate_left
  · show Act.put _ (some 32) _ = _
    simp only [Act.put, List.setIfInBounds_toArray, List.set_cons_zero, List.set_cons_succ, i64_w, i32_w]
    rfl
  refine one_ (i := 8) (N := some 34) #[true, true, true, true, true, true, true, true, true, false, false] rfl rfl (by kernel_rfl) (by decide) (fun K hK => ?_)
  refine goes_ Tryd.func45 (by kernel_rfl) rfl #[.agg #[.int .i64 a0_0, .slice A0_1 l0_1.length c0_1, .string a0_2, .bool a0_3], .string methodsW, .string low, .bool a2] (by rfl) rfl rfl (by first | rfl | (simp only [List.map_toArray, List.map_cons, List.map_nil]; rfl)) ?_
  refine (HA.out _ (HB1.out.trans (hHeld.2.2.2.2.2.mono HB1.out.size))).mono ?_
  rintro e wq ⟨rfl, hb⟩
  refine ⟨_, rfl, ?_⟩
  refine hK.out _ _ (held_step hHeld hb) (fun hHeld => ?_)
  clear hK K
  refine norm_ (a' := ?_) ?_ ?_
  rotate_left
  · show Act.put _ (some 34) _ = _
    simp only [Act.put, List.setIfInBounds_toArray, List.set_cons_zero, List.set_cons_succ, i64_w, i32_w]
    rfl
  refine pure_ (i := 9) (N := some 35) (v := ?_) (a' := ?_) #[true, true, true, true, true, true, true, true, true, true, false] rfl rfl (by kernel_rfl) (fun _ _ _ h => h) (Or.inl ⟨by rfl, ?_⟩) ?_ ?_
  rotate_left
  · intro w'
    go_simp
    with_reducible rfl
  rotate_left
  · simp only [Act.put, List.setIfInBounds_toArray, List.set_cons_zero, List.set_cons_succ, i64_w, i32_w]
    rfl
  refine pure_ (i := 10) (N := some 36) (v := ?_) (a' := ?_) #[true, true, true, true, true, true, true, true, true, true, true] rfl rfl (by kernel_rfl) (fun _ _ _ h => h) (Or.inl ⟨by rfl, ?_⟩) ?_ ?_
  rotate_left
  · intro w'
    go_simp
    with_reducible rfl
  rotate_left
  · simp only [Act.put, List.setIfInBounds_toArray, List.set_cons_zero, List.set_cons_succ, i64_w, i32_w]
    rfl
  refine done_ (by kernel_rfl) ?_
  have HH := Lib.hid hHeld
  clear hHeld
  have HB3 := Lib.hid (HB1.out.trans (HH.out.2.2.2.2.2.mono HB1.out.size))
  have HX3 := Lib.hid HH.out.boxed
  clear HH HB1 HX1 HM HL HA
  have HU3 := Lib.hid (HU.out wq HB3.out)
  clear HU
  go_wp2_with (go_at_call 47; refine HU3.out.mono ?_; rintro e w4 ⟨v0, rfl, hR, hb4⟩; clear HU3; have HB4 := Lib.hid (HB3.out.trans (hb4.mono HB3.out.size)); have HX4 := Lib.hid (HX3.out.below hb4); obtain ⟨A9, c9, rfl, hl9, hC9⟩ := Kd.R_reads hR; have HF4 := Lib.hid (HF.out w4 HB4.out HX4.out A9 c9 hC9); clear HF hR hC9 hb4 HB3 HX3)
  go_wp2_with (go_at_call 46; refine HF4.out.mono ?_; rintro e w5 ⟨rfl, hb5⟩)
  go_ret
  exact ⟨rfl, HB4.out.trans (hb5.mono HB4.out.size)⟩
theorem anyNot.mono (code : Int) (l : List S27) (b : ByteArray) (t creds : Bool) : ∀ (ps : List ByteArray) (k : Nat), LeO (anyNot k code l b t creds ps) (anyNot (k + 1) code l b t creds ps)
  | [], k => LeO.refl _
  | n :: r, k => by
    simp only [anyNot]
    exact LeO.bind (cors_allows.mono _ _ _ _ _ _ _ _) (fun v => LeO.ite (anyNot.mono code l b t creds r k) (LeO.refl _))
theorem cors_Pre.mono : ∀ a0_0 l0_1 a0_2 a0_3 a1 a2 a3 l4 k, LeO (cors_Pre.f k a0_0 l0_1 a0_2 a0_3 a1 a2 a3 l4) (cors_Pre.f (k + 1) a0_0 l0_1 a0_2 a0_3 a1 a2 a3 l4) := by
  intro a0_0 l0_1 a0_2 a0_3 a1 a2 a3 l4 k
  unfold cors_Pre.f preOk preRest
  exact LeO.ite (LeO.refl _) (LeO.ite (LeO.refl _) (LeO.bind (cors_Check.mono _ _ _ _ _ _ _) (fun c => LeO.ite (LeO.bind (cors_common.mono _ _) (fun m => LeO.bind (LeO.ite (LeO.refl _) (LeO.bind (LeO.refl _) (fun low => cors_allows.mono _ _ _ _ _ _ _ _)))
    (fun ok => LeO.ite (LeO.bind (head_Unsafe.mono _ _) (fun us => LeO.bind (anyNot.mono _ _ _ _ _ _ _) (fun z => LeO.refl _))) (LeO.refl _)))) (LeO.refl _))))
theorem cors_Pre.calls (k : Nat) (a0_0 : Int) (A0_1 : Option Addr) (c0_1 : Nat) (l0_1 : List S27) (a0_2 : ByteArray) (a0_3 : Bool) (a1 : ByteArray) (a2 : Bool) (a3 : ByteArray) (A4 : Option Addr) (c4 : Nat) (l4 : List S27) (r : Bool) (w : World) (hG : Gl w) (hr0_1 : Kd.C k27 w A0_1 l0_1.length l0_1) (hc0_1 : l0_1.length ≤ c0_1) (hr4 : Kd.C k27 w A4 l4.length l4) (hc4 : l4.length ≤ c4) (h : cors_Pre.f k a0_0 l0_1 a0_2 a0_3 a1 a2 a3 l4 = some r) :
    Calls Tryd.prog 20 #[.agg #[.int .i64 a0_0, .slice A0_1 l0_1.length c0_1, .string a0_2, .bool a0_3], .string a1, .bool a2, .string a3, .slice A4 l4.length c4] w fun e w' => e = .returned (.bool r) ∧ Below w.heap.size w w' := by
  unfold cors_Pre.f at h
  by_cases h1 : a0_0 < 200
  · rw [if_pos h1] at h
    obtain rfl := Option.some.inj h
    exact pre_code a0_0 A0_1 l0_1.length c0_1 a0_2 a0_3 a1 a2 a3 A4 l4.length c4 w (.inl h1)
  rw [if_neg h1] at h
  by_cases h2 : a0_0 > 299
  · rw [if_pos h2] at h
    obtain rfl := Option.some.inj h
    exact pre_code a0_0 A0_1 l0_1.length c0_1 a0_2 a0_3 a1 a2 a3 A4 l4.length c4 w (.inr h2)
  rw [if_neg h2] at h
  obtain ⟨c, hk, h⟩ := Option.bind_eq_some_iff.1 h
  rcases c with _ | _
  · rw [if_neg (by decide)] at h
    obtain rfl := Option.some.inj h
    exact pre_check_no k a0_0 A0_1 c0_1 l0_1 a0_2 a0_3 a1 a2 a3 A4 c4 l4 w hr0_1 hc0_1 (by omega) (by omega) hk
  rw [if_pos rfl] at h
  obtain ⟨m, hm, h⟩ := Option.bind_eq_some_iff.1 h
  obtain ⟨ok, hok, h⟩ := Option.bind_eq_some_iff.1 h
  unfold preOk at hok
  rcases m with _ | _
  · rw [if_neg (by decide)] at hok
    obtain ⟨low, hlow, hal⟩ := Option.bind_eq_some_iff.1 hok
    rcases ok with _ | _
    · rw [if_neg (by decide)] at h
      obtain rfl := Option.some.inj h
      exact pre_methods_false k a0_0 A0_1 c0_1 l0_1 a0_2 a0_3 a1 a2 a3 A4 c4 l4 w hG hr0_1 hc0_1 (by omega) (by omega) hk hm low hlow hal
    · rw [if_pos rfl] at h
      unfold preRest at h
      obtain ⟨us, hus, h⟩ := Option.bind_eq_some_iff.1 h
      obtain ⟨z, hz, h⟩ := Option.bind_eq_some_iff.1 h
      obtain rfl := Option.some.inj h
      exact pre_methods_true k a0_0 A0_1 c0_1 l0_1 a0_2 a0_3 a1 a2 a3 A4 c4 l4 w hG hr0_1 hc0_1 hr4 hc4 (by omega) (by omega) hk hm low hlow hal us hus z hz
  · rw [if_pos rfl] at hok
    obtain rfl := Option.some.inj hok
    rw [if_pos rfl] at h
    unfold preRest at h
    obtain ⟨us, hus, h⟩ := Option.bind_eq_some_iff.1 h
    obtain ⟨z, hz, h⟩ := Option.bind_eq_some_iff.1 h
    obtain rfl := Option.some.inj h
    exact pre_common k a0_0 A0_1 c0_1 l0_1 a0_2 a0_3 a1 a2 a3 A4 c4 l4 w hG hr0_1 hc0_1 hr4 hc4 (by omega) (by omega) hk hm us hus z hz
end Go.Proofs.YtllblgjhoeopjaaDoor.GivPre
