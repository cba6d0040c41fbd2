/- The contract of postilionref01.Unsafe, walked by hand: names are put into their places; the row is made anew at each. -/
import Derived.Test.YtllblgjhoeopjaaDoorVGUnsafex
import Derived.Test.YtllblgjhoeopjaaDoorVGPrex
import Derived.Test.YtllblgjhoeopjaaDoorVGivC
import Derived.WalkSpells
import Derived.WalkLawsBesides
import Derived.Deep.RegionLawGrows
namespace Go.Proofs.YtllblgjhoeopjaaDoor.GivUns
open Go.RowKit Go.Proofs.YtllblgjhoeopjaaDoorW.PrintWords Go.Proofs.YtllblgjhoeopjaaDoorW.PrintLast Go.Proofs.YtllblgjhoeopjaaDoorW.PrintMore
open Go.Proofs.YtllblgjhoeopjaaDoor.GPre Go.Proofs.YtllblgjhoeopjaaDoor.GUnsafe Go.Proofs.YtllblgjhoeopjaaDoor.GivC Go.Proofs.YtllblgjhoeopjaaDoor.Giv
set_option linter.unusedSimpArgs false
/-- How many of the first names are less than n. -/
def lessN (n : ByteArray) : List ByteArray → Nat
  | [] => 0
  | x :: r => if Op.bytesLess x.toList n.toList = true then lessN n r + 1 else 0
def putN (n : ByteArray) (out : List ByteArray) : List ByteArray :=
  if (out.getD (lessN n out) ⟨#[]⟩).toList = n.toList ∧ lessN n out < out.length then out else out.take (lessN n out) ++ n :: out.drop (lessN n out)
theorem lessN_le (n : ByteArray) : ∀ l : List ByteArray, lessN n l ≤ l.length
  | [] => Nat.le_refl _
  | x :: r => by
    unfold lessN
    split
    · have := lessN_le n r
      simp only [List.length_cons]
      omega
    · exact Nat.zero_le _
theorem lessN_lt (n : ByteArray) : ∀ (l : List ByteArray) (i : Nat) (h : i < l.length), i < lessN n l → Op.bytesLess (l[i]).toList n.toList = true
  | [], i, h, _ => by simp at h
  | x :: r, i, h, hl => by
    unfold lessN at hl
    split at hl
    · rcases i with _ | i
      · assumption
      · exact lessN_lt n r i (by simpa using h) (by omega)
    · omega
theorem lessN_at (n : ByteArray) : ∀ (l : List ByteArray) (h : lessN n l < l.length), Op.bytesLess (l[lessN n l]).toList n.toList = false
  | [], h => by simp at h
  | x :: r, h => by
    by_cases g : Op.bytesLess x.toList n.toList = true
    · have e : lessN n (x :: r) = lessN n r + 1 := by
        show (if _ then _ else _) = _
        rw [if_pos g]
      have h2 : lessN n r < r.length := by rw [e] at h; simpa using h
      have := lessN_at n r h2
      simp only [e, List.getElem_cons_succ]
      exact this
    · have e : lessN n (x :: r) = 0 := by
        show (if _ then _ else _) = _
        rw [if_neg g]
      simp only [e, List.getElem_cons_zero]
      simpa using g
def unsR (k : Nat) : List ByteArray → List S27 → Option (List ByteArray)
  | out, [] => some out
  | out, h :: r => (postilionref01_Simple.f k h.f0 h.f1).bind fun s => if s = true then unsR k out r else (postilionref01_Lower.f h.f0).bind fun n => if out.length < 4294967296 then unsR k (putN n out) r else none
def postilionref01_Unsafe.f (k : Nat) (l0 : List S27) : Option (List ByteArray) := unsR k [] l0
theorem cut_most {P : Program} (t e : TypeId) (kh km : IntKind) {i : TypeInfo} (ht : P.underlying t = some (.slice e)) (hi : P.info? e = some i) (A : Option Addr) (n c : Nat) (p : Nat) (hc : p ≤ c) :
    ∀ W : World, (Instr.slice t (.slice A n c) none (some (.int kh p)) (some (.int km p))).run P W = .ok (.slice A p p) W := by
  intro W
  have hel : P.elem t = e := by simp [Program.elem, ht]
  have hu : P.underlying t = some (.slice (P.elem t)) := by rw [hel]; exact ht
  have ha : (A.map fun x => x.add 0) = A := by cases A <;> simp [Addr.add]
  rw [run_slice_hm W t A n c hu kh km p p (by omega) (by omega) (by omega), hel]
  simp [sizeOf, typeInfo, hi, sliced, Result.andThen, ha]
theorem lessN_put (n : ByteArray) (out : List ByteArray) : (putN n out).length ≤ out.length + 1 := by
  unfold putN
  have h := lessN_le n out
  split
  · omega
  · simp only [List.length_append, List.length_take, List.length_cons, List.length_drop]
    omega
theorem putN_skip {n : ByteArray} {out : List ByteArray} (h : lessN n out < out.length) (e : (out[lessN n out]).toList = n.toList) : putN n out = out := by
  unfold putN
  rw [if_pos ⟨by rw [List.getD_eq_getElem?_getD, List.getElem?_eq_getElem h]; exact e, h⟩]
theorem putN_mid {n : ByteArray} {out : List ByteArray} (h : lessN n out < out.length) (e : ¬ (out[lessN n out]).toList = n.toList) : out.take (lessN n out) ++ ([n] ++ out.drop (lessN n out)) = putN n out := by
  unfold putN
  rw [if_neg (fun g => e (by have := g.1; rw [List.getD_eq_getElem?_getD, List.getElem?_eq_getElem h] at this; exact this))]
  rfl
theorem putN_end {n : ByteArray} {out : List ByteArray} (h : ¬ lessN n out < out.length) : out.take (lessN n out) ++ ([n] ++ out.drop (lessN n out)) = putN n out := by
  unfold putN
  rw [if_neg (fun g => h g.2)]
  rfl
structure UInv (k : Nat) (l0 : List S27) (r : List ByteArray) (w : World) (j : Nat) (wr : World) (v3 : Value) (out : List ByteArray) : Prop where
  res : unsR k out (l0.drop j) = some r
  row : Kd.R Kd.string 9 wr w.heap.size (fun _ => True) v3 out
  below : Below w.heap.size w wr
theorem i9 : ∃ i : TypeInfo, Tryd.prog.info? 9 = some i ∧ i.zero = some (.string ⟨#[]⟩) ∧ i.size = 1 ∧ i.bytes = 16 := by
  obtain ⟨i0, hi, hzz⟩ := Option.map_eq_some_iff.1 info9
  simp only [Prod.mk.injEq] at hzz
  exact ⟨i0, hi, hzz.1, hzz.2.1, hzz.2.2⟩
theorem rd_get (l : List S27) (j : Nat) (h : j < l.length) : rd_T27 l (j : Int) = l[j] := by
  unfold rd_T27
  rw [Int.toNat_natCast, List.getD_eq_getElem?_getD, List.getElem?_eq_getElem h]
  rfl
theorem rdOf_get (l : List ByteArray) (j : Nat) (h : j < l.length) : rdOf ByteArray.empty l (j : Int) = l[j] := by
  unfold rdOf
  rw [Int.toNat_natCast, List.getD_eq_getElem?_getD, List.getElem?_eq_getElem h]
  rfl
theorem r_none {w : World} {b n c : Nat} {ok : Nat → Prop} {A : Option Addr} {xs : List ByteArray} (h : Kd.string.R 9 w b ok (.slice A n c) xs) : A = none → c = 0 := by
  rintro rfl
  obtain ⟨_, _, ho, _⟩ := h
  rcases ho.2 with ⟨h1, _⟩ | ⟨g, cap, cur, h1, _⟩
  · injection h1
  · injection h1 with h1; cases h1
theorem row_cells {w : World} {A : Option Addr} {n : Nat} {xs : List ByteArray} (h : Kd.string.C w A n xs) : ∀ b, A = some b → ∀ j u, (encs Value.string xs)[j]? = some u → w.cell? (b.add j) = some u := by
  intro b hb j u hj
  have hn : xs.length = n := h.1
  have hjl : j < xs.length := by
    rcases Nat.lt_or_ge j xs.length with g | g
    · exact g
    · rw [List.getElem?_eq_none (by rw [encs_length]; exact g)] at hj
      cases hj
  obtain ⟨ad, he, hc⟩ := Kd.at_string h (j : Int) (by omega) (by omega)
  rw [hb] at he
  injection he with he
  subst he
  rw [rdOf_get xs j hjl, Int.toNat_natCast] at hc
  rw [hc]
  simpa [encs, hjl] using hj
theorem encs_one (xs : List ByteArray) : ∀ u ∈ encs Value.string xs, u.oneCell' = true := by
  intro u hu
  obtain ⟨x, _, rfl⟩ := List.mem_map.1 hu
  rfl
theorem own_put {w55 : World} {B b m : Nat} {v : Value} {nm : ByteArray} {out : List ByteArray} (hm : m ≤ out.length) (h : w55.ownsRow B 9 1 v (m + ([nm] ++ out.drop m).length) (encs Value.string (out.take m) ++ encs Value.string ([nm] ++ out.drop m))) (hb : b ≤ B) :
    Kd.R Kd.string 9 w55 b (fun _ => True) v (out.take m ++ ([nm] ++ out.drop m)) := by
  refine Kd.R_lower (Kd.R_of_own (h1 := fun _ => rfl) ?_ (fun _ _ => trivial)) hb
  rw [encs_append, List.length_append, List.length_take, Nat.min_eq_left hm]
  exact h
set_option maxRecDepth 100000 in
set_option maxHeartbeats 4000000 in
theorem postilionref01_Unsafe.calls (k : Nat) (A0 : Option Addr) (c0 : Nat) (l0 : List S27) (r : List ByteArray) (w : World) (hr0 : Kd.C k27 w A0 l0.length l0) (_hc0 : l0.length ≤ c0) (h : postilionref01_Unsafe.f k l0 = some r) :
    Calls Tryd.prog 52 #[.slice A0 l0.length c0] w fun e w' => ∃ v0_ : Value, e = .returned (v0_) ∧ Kd.R Kd.string 9 w' w.heap.size (fun _ => True) v0_ r ∧ Below w.heap.size w w' := by
  have hu27 := Tryd.underlying27
  obtain ⟨i9_, i9⟩ := i9
  have hn0 := hr0.2.1
  have HR0 := Lib.hid hr0
  have H0 : UInv k l0 r w 0 w (.slice none 0 0) [] := ⟨h, Kd.R_nil _ _ _ _ _, Below.refl _ _⟩
  clear hr0 h
  go_enter Tryd.func52, Tryd.ntmps52
  go_wp2
  go_loopw [3, 10] (fun v3 v10 wr => ∃ (j : Nat) (out : List ByteArray), j ≤ l0.length ∧ v10 = .int .i64 j ∧ Hid (UInv k l0 r w j wr v3 out)) (fun _ v10 _ => l0.length - (intOf v10).toNat)
  case atStart => exact ⟨0, [], Nat.zero_le _, rfl, Lib.hid H0⟩
  case round =>
    obtain ⟨j, out, hj, rfl, hI⟩ := hrel
    have HI := Lib.hid hI.out
    clear hI H0
    by_cases hlt : j < l0.length
    · have hdrop : l0.drop j = l0[j] :: l0.drop (j + 1) := List.drop_eq_getElem_cons hlt
      have hres := HI.out.res
      rw [hdrop] at hres
      simp only [unsR] at hres
      obtain ⟨s, hs, hres⟩ := Option.bind_eq_some_iff.1 hres
      have HB := Aside0.mk HI.out.below
      have HO_3 := Aside0.mk HI.out.row
      obtain ⟨ad146, rfl, hx146_0, hx146_1⟩ := at_T27 HR0.out (j : Int) (by omega) (by omega)
      rw [rd_get l0 j hlt] at hx146_0 hx146_1
      generalize l0[j] = hh at *
      replace hx146_0 := (HB.out.cell (World.block_lt_of_cell? w _ hx146_0)).trans hx146_0
      replace hx146_1 := (HB.out.cell (World.block_lt_of_cell? w _ hx146_1)).trans hx146_1
      simp only [Int.toNat_natCast] at hx146_0 hx146_1
      have A5 := Aside0.mk hs
      clear hs HI hdrop
      rcases s with _ | _
      · replace hres : ((postilionref01_Lower.f hh.f0).bind fun n => if out.length < 4294967296 then unsR k (putN n out) (l0.drop (j + 1)) else none) = some r := by simpa using hres
        obtain ⟨nm, hnm, hres⟩ := Option.bind_eq_some_iff.1 hres
        by_cases hol : out.length < 4294967296
        · rw [if_pos hol] at hres
          have HRES := Lib.hid hres
          have A6 := Aside0.mk hnm
          obtain ⟨A3, c3, rfl, hc3, hC3⟩ := Kd.R_reads HO_3.out
          have hcn : A3 = none → c3 = 0 := r_none HO_3.out
          have HCN := Lib.hid hcn
          clear hres hnm hC3 hcn
          go_wp2_with (first | ((with_reducible refine gate_dst (N := 5) rfl ?_); refine box_event ?hg (N := 5) ?hd (cs := #[.string (⟨#[]⟩ : ByteArray), .string (⟨#[]⟩ : ByteArray)]) (t := 27) ?hr ?_; (case hd => rfl); (case hg => rfl); (case hr => first | (go_simp; done) | (go_simp; rfl)); intro gb147 hg w7 hbox hb; have n0_ := Aside0.mk (Kd.R_below (by (with_reducible repeat (first | apply Kd.R_alloc | apply Kd.R_drewN | apply Kd.R_drew)); exact HO_3.out) hb); have n1_ := Aside0.mk (below_step (by repeat (first | (with_reducible first | exact HB.out | apply below_alloc | apply pw_below_drewN | apply below_drew1) | exact HB.out)) hb); have n2_ := Aside0.mk (hbox); have n3_ := Aside0.mk ((by rw [hg]; exact (below_size (by repeat (first | (with_reducible first | exact HB.out | apply below_alloc | apply pw_below_drewN | apply below_drew1) | exact HB.out))) : w.heap.size ≤ gb147)); have n4_ := Aside0.mk ((by rw [hg]; exact (below_size (by repeat (first | (with_reducible first | exact HB.out | apply below_alloc | apply pw_below_drewN | apply below_drew1) | exact HB.out))) : w.heap.size ≤ gb147)); clear HO_3; clear HB; have HO_3 := n0_; have HB := n1_; have BK147 := n2_; have GW147 := n3_; have GE147 := n4_; clear n0_ n1_ n2_ n3_ n4_; clear hb hbox hg; have hcz8_0 : w7.cell? ⟨gb147, 0, none⟩ = some (.string (⟨#[]⟩ : ByteArray)) := (blk_cell BK147.out 0).trans rfl; have hcz8_1 : w7.cell? ⟨gb147, 1, none⟩ = some (.string (⟨#[]⟩ : ByteArray)) := (blk_cell BK147.out 1).trans rfl; have hfz8_0 := blk_frozen BK147.out 0; have hfz8_1 := blk_frozen BK147.out 1) | ((with_reducible refine gate_callee (f := 75) rfl ?_); refine goesL_ (some 15) rfl rfl Tryd.func75 (by kernel_rfl) rfl #[.agg #[.string hh.f0, .string hh.f1]] rfl (by (try simp only [List.map_toArray, List.map_cons, List.map_nil]); first | done | rfl | (simp only [List.length_drop, List.length_take]; rfl)) ?_; (with_reducible refine (postilionref01_Simple.calls k hh.f0 hh.f1 false _ A5.out).mono ?_); rintro e w9 ⟨rfl, hb⟩; refine ⟨_, rfl, ?_⟩; have n0_ := Aside0.mk (Kd.R_below (by (with_reducible repeat (first | apply Kd.R_alloc | apply Kd.R_drewN | apply Kd.R_drew)); exact (Kd.R_mono (Kd.R_far (p := ⟨gb147, 1, none⟩) (Kd.R_far (p := ⟨gb147, 0, none⟩) (Kd.R_types HO_3.out BK147.out (by decide)) (fun _ hk => hk.2) (.string hh.f0)) (fun _ hk => hk.2) (.string hh.f1)) (fun _ h_ => h_.1))) hb); have n2_ := Aside0.mk (below_step (by repeat (first | (with_reducible first | exact HB.out | apply below_alloc | apply pw_below_drewN | apply below_drew1 | refine below_set ?_ GE147.out) | exact HB.out)) hb); have n1_ := Aside0.mk (blk_below (g := gb147) (o := .cells #[.string hh.f0, .string hh.f1] 27 (0, 0)) (by (with_reducible repeat (first | refine blk_drewN ?_ _ | refine blk_drew ?_ | refine blk_alloc ?_ _)); refine blk_put (cs := #[.string hh.f0, .string (⟨#[]⟩ : ByteArray)]) ?_ 1 _ rfl; (with_reducible repeat (first | refine blk_drewN ?_ _ | refine blk_drew ?_ | refine blk_alloc ?_ _)); refine blk_put (cs := #[.string (⟨#[]⟩ : ByteArray), .string (⟨#[]⟩ : ByteArray)]) ?_ 0 _ rfl; (with_reducible repeat (first | refine blk_drewN ?_ _ | refine blk_drew ?_ | refine blk_alloc ?_ _)); exact BK147.out) hb); clear HO_3; clear BK147; clear HB; have HO_3 := n0_; have HB := n2_; have BK147 := n1_; clear n0_ n1_ n2_; (try clear hb); have hcz15_0 : w9.cell? ⟨gb147, 0, none⟩ = some (.string hh.f0) := (blk_cell BK147.out 0).trans rfl; have hcz15_1 : w9.cell? ⟨gb147, 1, none⟩ = some (.string hh.f1) := (blk_cell BK147.out 1).trans rfl) | ((with_reducible refine gate_callee (f := 55) rfl ?_); refine goesL_ (some 18) rfl rfl Tryd.func55 (by kernel_rfl) rfl #[.string hh.f0] rfl (by (try simp only [List.map_toArray, List.map_cons, List.map_nil]); first | done | rfl | (simp only [List.length_drop, List.length_take]; rfl)) ?_; (with_reducible refine (postilionref01_Lower.calls hh.f0 nm _ A6.out).mono ?_); rintro e w16 ⟨rfl, hb⟩; refine ⟨_, rfl, ?_⟩; have n0_ := Aside0.mk (Kd.R_below (by (with_reducible repeat (first | apply Kd.R_alloc | apply Kd.R_drewN | apply Kd.R_drew)); exact HO_3.out) hb); have n2_ := Aside0.mk (below_step (by repeat (first | (with_reducible first | exact HB.out | apply below_alloc | apply pw_below_drewN | apply below_drew1 | refine below_set ?_ GE147.out) | exact HB.out)) hb); clear HO_3; clear BK147; clear HB; have HO_3 := n0_; have HB := n2_; clear n0_ n2_; (try clear hb)))
          clear hcz8_0 hcz8_1 hfz8_0 hfz8_1 hcz15_0 hcz15_1 GW147 GE147 hx146_0 hx146_1
          have HC3 := Lib.hid (Kd.R_reads' HO_3.out).2.2
          have hpl := lessN_le nm out
          have HPP := Lib.hid (rfl : lessN nm out = lessN nm out)
          go_loop [7] (fun i => ∃ m : Nat, m ≤ lessN nm out ∧ i = .int .i64 m) (fun i => lessN nm out - (intOf i).toNat)
          case atStart => exact ⟨0, Nat.zero_le _, rfl⟩
          case round =>
            obtain ⟨m, hm, rfl⟩ := hrel
            by_cases hml : m < out.length
            · obtain ⟨ad, rfl, hcell⟩ := Kd.at_string HC3.out (m : Int) (by omega) (by omega)
              rw [rdOf_get out m hml, Int.toNat_natCast] at hcell
              by_cases hless : Op.bytesLess (out[m]).toList nm.toList = true
              · have hm1 : m < lessN nm out := by
                  rcases Nat.lt_or_ge m (lessN nm out) with g | g
                  · exact g
                  · have e : m = lessN nm out := by omega
                    subst e
                    rw [lessN_at nm out hml] at hless
                    cases hless
                generalize out[m] = om at *
                go_wp2
                go_round
                case rel => exact ⟨m + 1, by omega, by go_num⟩
                case measure => simp [intOf]; omega
              · have hm1 : m = lessN nm out := by
                  rcases Nat.lt_or_ge m (lessN nm out) with g | g
                  · exact absurd (lessN_lt nm out m hml g) hless
                  · omega
                have hless2 : Op.bytesLess (out[m]).toList nm.toList = false := by simpa using hless
                by_cases heq : (out[m]).toList = nm.toList
                · have hput : putN nm out = out := by
                    subst hm1
                    exact putN_skip hml heq
                  have heq2 : ((out[m]).toList == nm.toList) = true := beq_iff_eq.2 heq
                  have HPUT := Lib.hid hput
                  have HM1 := Lib.hid hm1
                  clear hput heq hless hm1
                  generalize out[m] = om at *
                  go_wp2
                  go_roundw
                  case rel => exact ⟨j + 1, out, by omega, by go_num, Lib.hid ⟨by rw [← HPUT.out]; exact HRES.out, by (with_reducible repeat (first | apply Kd.R_alloc | apply Kd.R_drewN | apply Kd.R_drew)); exact HO_3.out, by repeat (first | (with_reducible first | exact HB.out | apply below_alloc | apply pw_below_drewN | apply below_drew1) | exact HB.out)⟩⟩
                  case measure => simp [intOf]; omega
                · have hput : out.take m ++ ([nm] ++ out.drop m) = putN nm out := by
                    subst hm1
                    exact putN_mid hml heq
                  have heq2 : ((out[m]).toList == nm.toList) = false := beq_eq_false_iff_ne.2 heq
                  have HPUT := Lib.hid hput
                  have HM1 := Lib.hid hm1
                  clear hput heq hless hm1
                  generalize out[m] = om at *
                  go_wp2
                  have hml_le : m ≤ out.length := by omega
                  have hcut1 := cut_most 24 9 .i64 .i64 Tryd.underlying24 i9.1 (some ad) out.length c3 m (by omega)
                  have hcut2 := cut_from 24 9 .i64 Tryd.underlying24 i9.1 1 i9.2.2.1 (some ad) out.length c3 (m : Int) (by omega) (by omega)
                  have hCd := Kd.C_drop (m := m) HC3.out (by omega) hc3
                  simp only [Int.toNat_natCast] at hcut2
                  simp only [List.length_drop, show Kd.string.sz = 1 from rfl, Nat.mul_one, Option.map_some] at hCd
                  refine start_ (n := 12) (S := Below w16.heap.size w16) (ds := []) #[false, false, false, false, false, false, false, false, false, false, false, false] (by kernel_rfl) rfl rfl (below_drew1 (Below.refl _ _)) (fun hS0 => ?_)
                  refine pure_ (i := 0) (N := some 45) (v := ?_) (a' := ?_) #[true, false, false, false, false, false, false, false, false, false, false, false] rfl rfl (by kernel_rfl) (fun _ _ _ h => h) (Or.inl ⟨by rfl, ?_⟩) ?_ ?_
                  rotate_left
                  · intro w'
                    go_simp
                    with_reducible rfl
                  rotate_left
                  · simp only [Act.put, List.setIfInBounds_toArray, List.set_cons_zero, List.set_cons_succ, i64_w, i32_w]
                    rfl
                  refine pure_ (i := 1) (N := some 46) (v := ?_) (a' := ?_) #[true, true, false, false, false, false, false, false, false, false, false, false] rfl rfl (by kernel_rfl) (fun _ _ _ h => h) (Or.inl ⟨by rfl, ?_⟩) ?_ ?_
                  rotate_left
                  · intro w'
                    go_simp
                    with_reducible rfl
                  rotate_left
                  · simp only [Act.put, List.setIfInBounds_toArray, List.set_cons_zero, List.set_cons_succ, i64_w, i32_w]
                    rfl
                  refine pure_ (i := 2) (N := some 47) (v := ?_) (a' := ?_) #[true, true, true, false, false, false, false, false, false, false, false, false] rfl rfl (by kernel_rfl) (fun _ _ _ h => h) (Or.inl ⟨by rfl, ?_⟩) ?_ ?_
                  rotate_left
                  · intro w'
                    go_simp
                    with_reducible rfl
                  rotate_left
                  · simp only [Act.put, List.setIfInBounds_toArray, List.set_cons_zero, List.set_cons_succ, i64_w, i32_w]
                    rfl
                  refine pure_ (i := 3) (N := some 48) (v := ?_) (a' := ?_) #[true, true, true, true, false, false, false, false, false, false, false, false] rfl rfl (by kernel_rfl) (fun _ _ _ h => h) (Or.inl ⟨by rfl, ?_⟩) ?_ ?_
                  rotate_left
                  · intro w'
                    have hcut := hcut1 w'
                    go_simp
                    with_reducible rfl
                  rotate_left
                  · simp only [Act.put, List.setIfInBounds_toArray, List.set_cons_zero, List.set_cons_succ, i64_w, i32_w]
                    rfl
                  refine pure_ (i := 4) (N := some 49) (v := ?_) (a' := ?_) #[true, true, true, true, true, false, false, false, false, false, false, false] rfl rfl (by kernel_rfl) (fun _ _ _ h => h) (Or.inl ⟨by rfl, ?_⟩) ?_ ?_
                  rotate_left
                  · intro w'
                    go_simp
                    with_reducible rfl
                  rotate_left
                  · simp only [Act.put, List.setIfInBounds_toArray, List.set_cons_zero, List.set_cons_succ, i64_w, i32_w]
                    rfl
                  refine pure_ (i := 6) (N := some 51) (v := ?_) (a' := ?_) #[true, true, true, true, true, false, true, false, false, false, false, false] rfl rfl (by kernel_rfl) (fun _ _ _ h => h) (Or.inl ⟨by rfl, ?_⟩) ?_ ?_
                  rotate_left
                  · intro w'
                    go_simp
                    with_reducible rfl
                  rotate_left
                  · simp only [Act.put, List.setIfInBounds_toArray, List.set_cons_zero, List.set_cons_succ, i64_w, i32_w]
                    rfl
                  refine pure_ (i := 7) (N := some 52) (v := ?_) (a' := ?_) #[true, true, true, true, true, false, true, true, false, false, false, false] rfl rfl (by kernel_rfl) (fun _ _ _ h => h) (Or.inl ⟨by rfl, ?_⟩) ?_ ?_
                  rotate_left
                  · intro w'
                    go_simp
                    with_reducible rfl
                  rotate_left
                  · simp only [Act.put, List.setIfInBounds_toArray, List.set_cons_zero, List.set_cons_succ, i64_w, i32_w]
                    rfl
                  refine pure_ (i := 8) (N := some 53) (v := ?_) (a' := ?_) #[true, true, true, true, true, false, true, true, true, false, false, false] rfl rfl (by kernel_rfl) (fun _ _ _ h => h) (Or.inl ⟨by rfl, ?_⟩) ?_ ?_
                  rotate_left
                  · intro w'
                    have hcut := hcut2 w'
                    go_simp
                    with_reducible rfl
                  rotate_left
                  · simp only [Act.put, List.setIfInBounds_toArray, List.set_cons_zero, List.set_cons_succ, i64_w, i32_w]
                    rfl
                  refine one_ (i := 5) (N := some 50) #[true, true, true, true, true, true, true, true, true, false, false, false] rfl rfl (by kernel_rfl) (by decide) (fun K hK => ?_)
                  refine Kd.R_lit_step Kd.string (w0 := w16) w16.heap.size 9 ?hg (N := 50) ?hd (xs := [nm]) (inner := [.string nm]) (ok := fun _ => True) (okp := fun _ => True) ?hr ?hp (fun _ hk => hk) trivial hS0 hS0.size (by simp) ?_
                  case hd => rfl
                  case hg => rfl
                  case hr => first | (go_simp; done) | (go_simp; rfl)
                  case hp => exact (Reps.one (show Kd.M Kd.string _ _ _ nm [.string nm] from rfl) (Reps.none _ _))
                  intro v50 w50 hR50 hB50 hg50 _
                  refine hK.out _ _ hB50 (fun hS0 => ?_)
                  clear hK K
                  refine norm_ (a' := ?_) ?_ ?_
                  rotate_left
                  · show Act.put _ (some 50) _ = _
                    simp only [Act.put, List.setIfInBounds_toArray, List.set_cons_zero, List.set_cons_succ, i64_w, i32_w]
                    rfl
                  refine one_ (i := 9) (N := some 54) #[true, true, true, true, true, true, true, true, true, true, false, false] rfl rfl (by kernel_rfl) (by decide) (fun K hK => ?_)
                  refine Kd.R_append_rows_step Kd.string (w0 := w16) w16.heap.size rfl (.tmp 50) (.tmp 53) 24 9 (.string ⟨#[]⟩) 16 rfl Tryd.underlying24 info9 rfl (by decide) (by omega) v50 [nm] (out.drop m) _ _ _ (fun _ => True) (fun _ => False) rfl rfl hR50 (Kd.C_below hCd hS0) ?_ (fun _ hk => hk.elim) (fun _ _ => trivial) hS0 hS0.size ?_ ?_
                  · intro x cs hx; exact hx
                  · simp only [List.length_cons, List.length_nil, List.length_drop]; omega
                  intro v54 w54 hR54 hB54 hg54 _
                  refine hK.out _ _ hB54 (fun hS0 => ?_)
                  clear hK K
                  refine norm_ (a' := ?_) ?_ ?_
                  rotate_left
                  · show Act.put _ (some 54) _ = _
                    simp only [Act.put, List.setIfInBounds_toArray, List.set_cons_zero, List.set_cons_succ, i64_w, i32_w]
                    rfl
                  obtain ⟨A54, c54, e54, hl54, hC54⟩ := Kd.R_reads hR54
                  subst e54
                  obtain ⟨ad54, ea54, _⟩ := hC54.2.2 (by simp)
                  subst ea54
                  refine one_ (i := 10) (N := some 55) #[true, true, true, true, true, true, true, true, true, true, true, false] rfl rfl (by kernel_rfl) (by decide) (fun K hK => ?_)
                  refine step_append_grows (P := Tryd.prog) (n := m) (cap := m) rfl (.tmp 48) (.tmp 54) 24 rfl 9 i9_ (.string ⟨#[]⟩) 1 16 Tryd.underlying24 i9.1 i9.2.1 i9.2.2.1 i9.2.2.2 rfl (by decide) (some ad) (encs Value.string (out.take m)) rfl ?_ ?_ ?_ ad54 _ c54 (encs Value.string ([nm] ++ out.drop m)) rfl ?_ ?_ ?_ ?_ ?_ ?_ ?_
                  · intro h; cases h
                  · rw [encs_length, List.length_take]; omega
                  · exact row_cells (Kd.C_take (Kd.C_below HC3.out hS0) (by omega))
                  · rw [encs_length]; omega
                  · exact row_cells hC54 ad54 rfl
                  · exact encs_one _
                  · simp only [List.length_append, List.length_cons, List.length_nil]; omega
                  · simp only [List.length_append, List.length_cons, List.length_nil, List.length_drop, maxLen]; omega
                  · simp only [List.length_append, List.length_cons, List.length_nil, List.length_drop]; omega
                  intro v55 w55 hown55 hg55
                  have hR55 := own_put (b := w.heap.size) hml_le hown55 (Nat.le_trans HB.out.size hS0.size)
                  rw [HPUT.out] at hR55
                  refine hK.out _ _ (hS0.grown hg55 hS0.size (fun k hk => by cases hk)) (fun hS0 => ?_)
                  clear hK K
                  refine norm_ (a' := ?_) ?_ ?_
                  rotate_left
                  · show Act.put _ (some 55) _ = _
                    simp only [Act.put, List.setIfInBounds_toArray, List.set_cons_zero, List.set_cons_succ, i64_w, i32_w]
                    rfl
                  refine pure_ (i := 11) (N := some 3) (v := ?_) (a' := ?_) #[true, true, true, true, true, true, true, true, true, true, true, true] rfl rfl (by kernel_rfl) (fun _ _ _ h => h) (Or.inl ⟨by rfl, ?_⟩) ?_ ?_
                  rotate_left
                  · intro w'
                    go_simp
                    with_reducible rfl
                  rotate_left
                  · simp only [Act.put, List.setIfInBounds_toArray, List.set_cons_zero, List.set_cons_succ, i64_w, i32_w]
                    rfl
                  refine done_ (by kernel_rfl) ?_
                  have HR55 := Lib.hid hR55
                  have HS0 := Lib.hid (HB.out.trans (hS0.mono HB.out.size))
                  clear hR55 hS0 hg55 hown55 hC54 hg54 hB54 hg50 hB50 hcut1 hcut2 hCd
                  go_wp2
                  go_roundw
                  case rel => exact ⟨j + 1, putN nm out, by omega, by go_num, Lib.hid ⟨HRES.out, by (with_reducible repeat (first | apply Kd.R_alloc | apply Kd.R_drewN | apply Kd.R_drew)); exact HR55.out, by repeat (first | (with_reducible first | exact HS0.out | apply below_alloc | apply pw_below_drewN | apply below_drew1) | exact HS0.out)⟩⟩
                  case measure => simp [intOf]; omega
            · have hput : out.take m ++ ([nm] ++ out.drop m) = putN nm out := by
                have : m = lessN nm out := by omega
                subst this
                exact putN_end hml
              have HPUT := Lib.hid hput
              clear hput
              go_wp2
              have hml_le : m ≤ out.length := by omega
              have hcut1 := cut_most 24 9 .i64 .i64 Tryd.underlying24 i9.1 A3 out.length c3 m (by omega)
              have hcut2 := cut_from 24 9 .i64 Tryd.underlying24 i9.1 1 i9.2.2.1 A3 out.length c3 (m : Int) (by omega) (by omega)
              have hCd := Kd.C_drop (m := m) HC3.out (by omega) hc3
              simp only [Int.toNat_natCast] at hcut2
              simp only [List.length_drop, show Kd.string.sz = 1 from rfl, Nat.mul_one, Option.map_some] at hCd
              refine start_ (n := 12) (S := Below w16.heap.size w16) (ds := []) #[false, false, false, false, false, false, false, false, false, false, false, false] (by kernel_rfl) rfl rfl (below_drew1 (Below.refl _ _)) (fun hS0 => ?_)
              refine pure_ (i := 0) (N := some 45) (v := ?_) (a' := ?_) #[true, false, false, false, false, false, false, false, false, false, false, false] rfl rfl (by kernel_rfl) (fun _ _ _ h => h) (Or.inl ⟨by rfl, ?_⟩) ?_ ?_
              rotate_left
              · intro w'
                go_simp
                with_reducible rfl
              rotate_left
              · simp only [Act.put, List.setIfInBounds_toArray, List.set_cons_zero, List.set_cons_succ, i64_w, i32_w]
                rfl
              refine pure_ (i := 1) (N := some 46) (v := ?_) (a' := ?_) #[true, true, false, false, false, false, false, false, false, false, false, false] rfl rfl (by kernel_rfl) (fun _ _ _ h => h) (Or.inl ⟨by rfl, ?_⟩) ?_ ?_
              rotate_left
              · intro w'
                go_simp
                with_reducible rfl
              rotate_left
              · simp only [Act.put, List.setIfInBounds_toArray, List.set_cons_zero, List.set_cons_succ, i64_w, i32_w]
                rfl
              refine pure_ (i := 2) (N := some 47) (v := ?_) (a' := ?_) #[true, true, true, false, false, false, false, false, false, false, false, false] rfl rfl (by kernel_rfl) (fun _ _ _ h => h) (Or.inl ⟨by rfl, ?_⟩) ?_ ?_
              rotate_left
              · intro w'
                go_simp
                with_reducible rfl
              rotate_left
              · simp only [Act.put, List.setIfInBounds_toArray, List.set_cons_zero, List.set_cons_succ, i64_w, i32_w]
                rfl
              refine pure_ (i := 3) (N := some 48) (v := ?_) (a' := ?_) #[true, true, true, true, false, false, false, false, false, false, false, false] rfl rfl (by kernel_rfl) (fun _ _ _ h => h) (Or.inl ⟨by rfl, ?_⟩) ?_ ?_
              rotate_left
              · intro w'
                have hcut := hcut1 w'
                go_simp
                with_reducible rfl
              rotate_left
              · simp only [Act.put, List.setIfInBounds_toArray, List.set_cons_zero, List.set_cons_succ, i64_w, i32_w]
                rfl
              refine pure_ (i := 4) (N := some 49) (v := ?_) (a' := ?_) #[true, true, true, true, true, false, false, false, false, false, false, false] rfl rfl (by kernel_rfl) (fun _ _ _ h => h) (Or.inl ⟨by rfl, ?_⟩) ?_ ?_
              rotate_left
              · intro w'
                go_simp
                with_reducible rfl
              rotate_left
              · simp only [Act.put, List.setIfInBounds_toArray, List.set_cons_zero, List.set_cons_succ, i64_w, i32_w]
                rfl
              refine pure_ (i := 6) (N := some 51) (v := ?_) (a' := ?_) #[true, true, true, true, true, false, true, false, false, false, false, false] rfl rfl (by kernel_rfl) (fun _ _ _ h => h) (Or.inl ⟨by rfl, ?_⟩) ?_ ?_
              rotate_left
              · intro w'
                go_simp
                with_reducible rfl
              rotate_left
              · simp only [Act.put, List.setIfInBounds_toArray, List.set_cons_zero, List.set_cons_succ, i64_w, i32_w]
                rfl
              refine pure_ (i := 7) (N := some 52) (v := ?_) (a' := ?_) #[true, true, true, true, true, false, true, true, false, false, false, false] rfl rfl (by kernel_rfl) (fun _ _ _ h => h) (Or.inl ⟨by rfl, ?_⟩) ?_ ?_
              rotate_left
              · intro w'
                go_simp
                with_reducible rfl
              rotate_left
              · simp only [Act.put, List.setIfInBounds_toArray, List.set_cons_zero, List.set_cons_succ, i64_w, i32_w]
                rfl
              refine pure_ (i := 8) (N := some 53) (v := ?_) (a' := ?_) #[true, true, true, true, true, false, true, true, true, false, false, false] rfl rfl (by kernel_rfl) (fun _ _ _ h => h) (Or.inl ⟨by rfl, ?_⟩) ?_ ?_
              rotate_left
              · intro w'
                have hcut := hcut2 w'
                go_simp
                with_reducible rfl
              rotate_left
              · simp only [Act.put, List.setIfInBounds_toArray, List.set_cons_zero, List.set_cons_succ, i64_w, i32_w]
                rfl
              refine one_ (i := 5) (N := some 50) #[true, true, true, true, true, true, true, true, true, false, false, false] rfl rfl (by kernel_rfl) (by decide) (fun K hK => ?_)
              refine Kd.R_lit_step Kd.string (w0 := w16) w16.heap.size 9 ?hg (N := 50) ?hd (xs := [nm]) (inner := [.string nm]) (ok := fun _ => True) (okp := fun _ => True) ?hr ?hp (fun _ hk => hk) trivial hS0 hS0.size (by simp) ?_
              case hd => rfl
              case hg => rfl
              case hr => first | (go_simp; done) | (go_simp; rfl)
              case hp => exact (Reps.one (show Kd.M Kd.string _ _ _ nm [.string nm] from rfl) (Reps.none _ _))
              intro v50 w50 hR50 hB50 hg50 _
              refine hK.out _ _ hB50 (fun hS0 => ?_)
              clear hK K
              refine norm_ (a' := ?_) ?_ ?_
              rotate_left
              · show Act.put _ (some 50) _ = _
                simp only [Act.put, List.setIfInBounds_toArray, List.set_cons_zero, List.set_cons_succ, i64_w, i32_w]
                rfl
              refine one_ (i := 9) (N := some 54) #[true, true, true, true, true, true, true, true, true, true, false, false] rfl rfl (by kernel_rfl) (by decide) (fun K hK => ?_)
              refine Kd.R_append_rows_step Kd.string (w0 := w16) w16.heap.size rfl (.tmp 50) (.tmp 53) 24 9 (.string ⟨#[]⟩) 16 rfl Tryd.underlying24 info9 rfl (by decide) (by omega) v50 [nm] (out.drop m) _ _ _ (fun _ => True) (fun _ => False) rfl rfl hR50 (Kd.C_below hCd hS0) ?_ (fun _ hk => hk.elim) (fun _ _ => trivial) hS0 hS0.size ?_ ?_
              · intro x cs hx; exact hx
              · simp only [List.length_cons, List.length_nil, List.length_drop]; omega
              intro v54 w54 hR54 hB54 hg54 _
              refine hK.out _ _ hB54 (fun hS0 => ?_)
              clear hK K
              refine norm_ (a' := ?_) ?_ ?_
              rotate_left
              · show Act.put _ (some 54) _ = _
                simp only [Act.put, List.setIfInBounds_toArray, List.set_cons_zero, List.set_cons_succ, i64_w, i32_w]
                rfl
              obtain ⟨A54, c54, e54, hl54, hC54⟩ := Kd.R_reads hR54
              subst e54
              obtain ⟨ad54, ea54, _⟩ := hC54.2.2 (by simp)
              subst ea54
              refine one_ (i := 10) (N := some 55) #[true, true, true, true, true, true, true, true, true, true, true, false] rfl rfl (by kernel_rfl) (by decide) (fun K hK => ?_)
              refine step_append_grows (P := Tryd.prog) (n := m) (cap := m) rfl (.tmp 48) (.tmp 54) 24 rfl 9 i9_ (.string ⟨#[]⟩) 1 16 Tryd.underlying24 i9.1 i9.2.1 i9.2.2.1 i9.2.2.2 rfl (by decide) A3 (encs Value.string (out.take m)) rfl ?_ ?_ ?_ ad54 _ c54 (encs Value.string ([nm] ++ out.drop m)) rfl ?_ ?_ ?_ ?_ ?_ ?_ ?_
              · intro h; have h2 := HCN.out h; constructor <;> omega
              · rw [encs_length, List.length_take]; omega
              · exact row_cells (Kd.C_take (Kd.C_below HC3.out hS0) (by omega))
              · rw [encs_length]; omega
              · exact row_cells hC54 ad54 rfl
              · exact encs_one _
              · simp only [List.length_append, List.length_cons, List.length_nil]; omega
              · simp only [List.length_append, List.length_cons, List.length_nil, List.length_drop, maxLen]; omega
              · simp only [List.length_append, List.length_cons, List.length_nil, List.length_drop]; omega
              intro v55 w55 hown55 hg55
              have hR55 := own_put (b := w.heap.size) hml_le hown55 (Nat.le_trans HB.out.size hS0.size)
              rw [HPUT.out] at hR55
              refine hK.out _ _ (hS0.grown hg55 hS0.size (fun k hk => by cases hk)) (fun hS0 => ?_)
              clear hK K
              refine norm_ (a' := ?_) ?_ ?_
              rotate_left
              · show Act.put _ (some 55) _ = _
                simp only [Act.put, List.setIfInBounds_toArray, List.set_cons_zero, List.set_cons_succ, i64_w, i32_w]
                rfl
              refine pure_ (i := 11) (N := some 3) (v := ?_) (a' := ?_) #[true, true, true, true, true, true, true, true, true, true, true, true] rfl rfl (by kernel_rfl) (fun _ _ _ h => h) (Or.inl ⟨by rfl, ?_⟩) ?_ ?_
              rotate_left
              · intro w'
                go_simp
                with_reducible rfl
              rotate_left
              · simp only [Act.put, List.setIfInBounds_toArray, List.set_cons_zero, List.set_cons_succ, i64_w, i32_w]
                rfl
              refine done_ (by kernel_rfl) ?_
              have HR55 := Lib.hid hR55
              have HS0 := Lib.hid (HB.out.trans (hS0.mono HB.out.size))
              clear hR55 hS0 hg55 hown55 hC54 hg54 hB54 hg50 hB50 hcut1 hcut2 hCd
              go_wp2
              go_roundw
              case rel => exact ⟨j + 1, putN nm out, by omega, by go_num, Lib.hid ⟨HRES.out, by (with_reducible repeat (first | apply Kd.R_alloc | apply Kd.R_drewN | apply Kd.R_drew)); exact HR55.out, by repeat (first | (with_reducible first | exact HS0.out | apply below_alloc | apply pw_below_drewN | apply below_drew1) | exact HS0.out)⟩⟩
              case measure => simp [intOf]; omega
        · rw [if_neg hol] at hres
          cases hres
      · have HRES := Lib.hid hres
        clear hres
        go_wp2_with (first | ((with_reducible refine gate_dst (N := 5) rfl ?_); refine box_event ?hg (N := 5) ?hd (cs := #[.string (⟨#[]⟩ : ByteArray), .string (⟨#[]⟩ : ByteArray)]) (t := 27) ?hr ?_; (case hd => rfl); (case hg => rfl); (case hr => first | (go_simp; done) | (go_simp; rfl)); intro gb147 hg w7 hbox hb; have n0_ := Aside0.mk (Kd.R_below (by (with_reducible repeat (first | apply Kd.R_alloc | apply Kd.R_drewN | apply Kd.R_drew)); exact HO_3.out) hb); have n1_ := Aside0.mk (below_step (by repeat (first | (with_reducible first | exact HB.out | apply below_alloc | apply pw_below_drewN | apply below_drew1) | exact HB.out)) hb); have n2_ := Aside0.mk (hbox); have n3_ := Aside0.mk ((by rw [hg]; exact (below_size (by repeat (first | (with_reducible first | exact HB.out | apply below_alloc | apply pw_below_drewN | apply below_drew1) | exact HB.out))) : w.heap.size ≤ gb147)); have n4_ := Aside0.mk ((by rw [hg]; exact (below_size (by repeat (first | (with_reducible first | exact HB.out | apply below_alloc | apply pw_below_drewN | apply below_drew1) | exact HB.out))) : w.heap.size ≤ gb147)); clear HO_3; clear HB; have HO_3 := n0_; have HB := n1_; have BK147 := n2_; have GW147 := n3_; have GE147 := n4_; clear n0_ n1_ n2_ n3_ n4_; clear hb hbox hg; have hcz8_0 : w7.cell? ⟨gb147, 0, none⟩ = some (.string (⟨#[]⟩ : ByteArray)) := (blk_cell BK147.out 0).trans rfl; have hcz8_1 : w7.cell? ⟨gb147, 1, none⟩ = some (.string (⟨#[]⟩ : ByteArray)) := (blk_cell BK147.out 1).trans rfl; have hfz8_0 := blk_frozen BK147.out 0; have hfz8_1 := blk_frozen BK147.out 1) | ((with_reducible refine gate_callee (f := 75) rfl ?_); refine goesL_ (some 15) rfl rfl Tryd.func75 (by kernel_rfl) rfl #[.agg #[.string hh.f0, .string hh.f1]] rfl (by (try simp only [List.map_toArray, List.map_cons, List.map_nil]); first | done | rfl | (simp only [List.length_drop, List.length_take]; rfl)) ?_; (with_reducible refine (postilionref01_Simple.calls k hh.f0 hh.f1 true _ A5.out).mono ?_); rintro e w9 ⟨rfl, hb⟩; refine ⟨_, rfl, ?_⟩; have n0_ := Aside0.mk (Kd.R_below (by (with_reducible repeat (first | apply Kd.R_alloc | apply Kd.R_drewN | apply Kd.R_drew)); exact (Kd.R_mono (Kd.R_far (p := ⟨gb147, 1, none⟩) (Kd.R_far (p := ⟨gb147, 0, none⟩) (Kd.R_types HO_3.out BK147.out (by decide)) (fun _ hk => hk.2) (.string hh.f0)) (fun _ hk => hk.2) (.string hh.f1)) (fun _ h_ => h_.1))) hb); have n2_ := Aside0.mk (below_step (by repeat (first | (with_reducible first | exact HB.out | apply below_alloc | apply pw_below_drewN | apply below_drew1 | refine below_set ?_ GE147.out) | exact HB.out)) hb); clear HO_3; clear BK147; clear HB; have HO_3 := n0_; have HB := n2_; clear n0_ n2_; (try clear hb)))
        go_roundw
        case rel => exact ⟨j + 1, out, by omega, by go_num, Lib.hid ⟨by simpa using HRES.out, by (with_reducible repeat (first | apply Kd.R_alloc | apply Kd.R_drewN | apply Kd.R_drew)); exact HO_3.out, by repeat (first | (with_reducible first | exact HB.out | apply below_alloc | apply pw_below_drewN | apply below_drew1) | exact HB.out)⟩⟩
        case measure => simp [intOf]; omega
    · obtain rfl : j = l0.length := by omega
      have hres := HI.out.res
      rw [List.drop_length] at hres
      obtain rfl := Option.some.inj hres
      have HB := Aside0.mk HI.out.below
      have HO_3 := Aside0.mk HI.out.row
      clear HI hres
      go_wp2
      go_ret
      exact ⟨_, rfl, by (with_reducible repeat (first | apply Kd.R_alloc | apply Kd.R_drewN | apply Kd.R_drew)); exact HO_3.out, by repeat (first | (with_reducible first | exact HB.out | apply below_alloc | apply pw_below_drewN | apply below_drew1) | exact HB.out)⟩
theorem unsR_mono (k : Nat) : ∀ (l : List S27) (out : List ByteArray), LeO (unsR k out l) (unsR (k + 1) out l)
  | [], out => LeO.refl _
  | h :: r, out => by
    have ih := unsR_mono k r
    unfold unsR
    repeat' first
      | (with_reducible exact ih _)
      | (with_reducible exact postilionref01_Simple.mono _ _ _)
      | (with_reducible exact LeO.refl _)
      | (with_reducible exact LeO.none _)
      | (with_reducible refine LeO.ite ?_ ?_)
      | (with_reducible refine LeO.bind ?_ (fun _ => ?_))
theorem postilionref01_Unsafe.mono : ∀ a0 k, LeO (postilionref01_Unsafe.f k a0) (postilionref01_Unsafe.f (k + 1) a0) := fun a0 k => unsR_mono k a0 []
end Go.Proofs.YtllblgjhoeopjaaDoor.GivUns
