/- What the printed functions of ReplyForms answer, in plain words. -/
import Derived.Test.YtllblgjhoeopjaaDoorVBas
import Derived.Test.YtllblgjhoeopjaaDoorVGReplyFormsx
namespace Go.Proofs.YtllblgjhoeopjaaDoor.Pure
open Go.RowKit Go.Proofs.YtllblgjhoeopjaaDoorW.PrintWords Go.Proofs.YtllblgjhoeopjaaDoorW.PrintLast Go.Proofs.YtllblgjhoeopjaaDoorW.PrintMore
open Go.Proofs.YtllblgjhoeopjaaDoor.GReplyForms Go.Proofs.YtllblgjhoeopjaaDoor.GivP Go.Proofs.YtllblgjhoeopjaaDoor.Bas Go.Proofs.YtllblgjhoeopjaaDoor.Giv
theorem within_f (a n : Int) (h : 1 ≤ n) (hn : n ≤ 4611686018427387904) : postilionkeep_Within.f a n = some (a % n) := by
  unfold postilionkeep_Within.f
  rw [if_neg (by omega), if_neg (by omega), ← tmod_emod a n h hn]
  split <;> rfl
theorem w64 {x y : Int} (h : x = y) (h1 : -9223372036854775808 ≤ x) (h2 : x ≤ 9223372036854775807) : wrap64 x = y := by
  subst h
  unfold wrap64
  omega
theorem number_l (l : List UInt8) (hl : l.length ≤ 6) : ∀ (d i : Nat) (n : Int), l.length - i = d → i ≤ l.length → 0 ≤ n → n < 10 ^ i →
    Ev (fun k => reply_Number.l0 k (B l) n (l.length : Int) (i : Int)) (if (l.drop i).all isD = true then (numV n (l.drop i), true) else (0, false)) := by
  intro d
  induction d with
  | zero =>
    intro i n hd hi h0 h1
    refine Ev.step (f := fun _ => some (n, true)) (fun k => by simp only [reply_Number.l0]; rw [if_neg (by omega)]) ?_
    rw [List.drop_eq_nil_of_le (by omega)]
    exact Ev.now _
  | succ d ih =>
    intro i n hd hi h0 h1
    have hlt : i < l.length := by omega
    have hb := bt_B l i hlt
    have hc : (l[i].toNat : Int) < 256 := by have := l[i].toNat_lt; omega
    have h6 : (10 : Int) ^ i ≤ 100000 := by
      have : i = 0 ∨ i = 1 ∨ i = 2 ∨ i = 3 ∨ i = 4 ∨ i = 5 := by omega
      rcases this with rfl | rfl | rfl | rfl | rfl | rfl <;> decide
    have hs : l.drop i = l[i] :: l.drop (i + 1) := List.drop_eq_getElem_cons hlt
    by_cases h2 : (l[i].toNat : Int) < 48
    · refine Ev.step (f := fun _ => some (0, false)) (fun k => by simp only [reply_Number.l0]; rw [if_pos (by omega), if_pos (by omega), if_pos (by rw [B_size]; omega), hb, if_pos h2]) ?_
      rw [hs, if_neg (by rw [List.all_cons, isD_no (.inl (by omega))]; simp)]
      exact Ev.now _
    · by_cases h3 : (l[i].toNat : Int) > 57
      · refine Ev.step (f := fun _ => some (0, false)) (fun k => by simp only [reply_Number.l0]; rw [if_pos (by omega), if_pos (by omega), if_pos (by rw [B_size]; omega), hb, if_neg h2, if_pos h3]) ?_
        rw [hs, if_neg (by rw [List.all_cons, isD_no (.inr (by omega))]; simp)]
        exact Ev.now _
      · have hw : wrap64 (wrap64 (10 * n) + ((l[i].toNat : Int) - 48) % 256) = 10 * n + ((l[i].toNat : Int) - 48) := by unfold wrap64; omega
        have hw2 : wrap64 ((i : Int) + 1) = ((i + 1 : Nat) : Int) := by unfold wrap64; omega
        refine Ev.step (f := fun k => reply_Number.l0 k (B l) (10 * n + ((l[i].toNat : Int) - 48)) (l.length : Int) ((i + 1 : Nat) : Int)) (fun k => by simp only [reply_Number.l0]; rw [if_pos (by omega), if_pos (by omega), if_pos (by rw [B_size]; omega), hb, if_neg h2, if_neg h3, hw, hw2]) ?_
        have := ih (i + 1) (10 * n + ((l[i].toNat : Int) - 48)) (by omega) (by omega) (by omega) (by rw [Int.pow_succ]; omega)
        rw [hs]
        have hd : isD l[i] = true := isD_yes (by omega) (by omega)
        simp only [List.all_cons, hd, Bool.true_and]
        exact this
theorem number_f (l : List UInt8) : Ev (fun k => reply_Number.f k (B l)) (numS l) := by
  by_cases h1 : l.length < 1
  · refine Ev.congr (f := fun k => reply_Number.j0 k (B l) true) (fun k => by unfold reply_Number.f; rw [B_size, if_pos (by omega)]) ?_
    refine Ev.step (f := fun _ => some (0, false)) (fun k => by simp only [reply_Number.j0, if_true]) ?_
    unfold numS
    rw [if_neg (by omega)]
    exact Ev.now _
  · by_cases h2 : l.length ≤ 6
    · refine Ev.congr (f := fun k => reply_Number.j0 k (B l) false) (fun k => by unfold reply_Number.f; rw [B_size, if_neg (by omega), decide_eq_false (by omega)]) ?_
      refine Ev.step (f := fun k => reply_Number.l0 k (B l) 0 (l.length : Int) ((0 : Nat) : Int)) (fun k => by simp only [reply_Number.j0]; rw [if_neg (by simp), B_size]; rfl) ?_
      have := number_l l h2 l.length 0 0 (by omega) (by omega) (by omega) (by decide)
      simp only [List.drop_zero] at this
      unfold numS
      by_cases h3 : l.all isD = true
      · rw [if_pos h3] at this
        rw [if_pos ⟨by omega, h2, h3⟩]
        exact this
      · rw [if_neg h3] at this
        rw [if_neg (fun h => h3 h.2.2)]
        exact this
    · refine Ev.congr (f := fun k => reply_Number.j0 k (B l) true) (fun k => by unfold reply_Number.f; rw [B_size, if_neg (by omega), decide_eq_true (by omega)]) ?_
      refine Ev.step (f := fun _ => some (0, false)) (fun k => by simp only [reply_Number.j0, if_true]) ?_
      unfold numS
      rw [if_neg (by omega)]
      exact Ev.now _
theorem numV_bound : ∀ (l : List UInt8) (n : Int) (i : Nat), l.all isD = true → 0 ≤ n → n < 10 ^ i → 0 ≤ numV n l ∧ numV n l < 10 ^ (i + l.length) := by
  intro l
  induction l with
  | nil => intro n i _ h0 h1; exact ⟨h0, h1⟩
  | cons c l ih =>
    intro n i h h0 h1
    rw [List.all_cons, Bool.and_eq_true] at h
    have hc : 48 ≤ c.toNat ∧ c.toNat ≤ 57 := by
      have := h.1
      unfold isD at this
      simpa using this
    have := ih (10 * n + ((c.toNat : Int) - 48)) (i + 1) h.2 (by omega) (by rw [Int.pow_succ]; omega)
    rw [show i + 1 + l.length = i + (c :: l).length by simp; omega] at this
    exact this
theorem numS_bound (l : List UInt8) : 0 ≤ (numS l).1 ∧ (numS l).1 < 1000000 := by
  unfold numS
  split
  · rename_i h
    have := numV_bound l 0 0 h.2.2 (by decide) (by decide)
    have h6 : (10 : Int) ^ (0 + l.length) ≤ 1000000 := by
      have : l.length = 1 ∨ l.length = 2 ∨ l.length = 3 ∨ l.length = 4 ∨ l.length = 5 ∨ l.length = 6 := by omega
      rcases this with h | h | h | h | h | h <;> rw [h] <;> decide
    exact ⟨this.1, by simp only; omega⟩
  · exact ⟨by decide, by decide⟩
theorem cut_f (l m : List UInt8) (h : l.length < 4294967281) : strings_Cut.f (B l) (B m) = some (B (Lib.cut l m).1, B (Lib.cut l m).2.1, (Lib.cut l m).2.2) := by
  unfold strings_Cut.f
  rw [if_pos (by rw [B_size]; exact h), data_B, data_B]
  rfl
theorem pre_f (l m : List UInt8) : strings_CutPrefix.f (B l) (B m) = some (if m.isPrefixOf l = true then (B (l.drop m.length), true) else (B l, false)) := by
  unfold strings_CutPrefix.f stringslite_CutPrefix.f stringslite_HasPrefix.f
  rw [B_size, B_size]
  by_cases h : m.length ≤ l.length
  · rw [if_pos (by omega), if_pos (by omega), if_pos (by omega)]
    simp only [Option.bind_some]
    rw [B_extract, B_toList, B_toList]
    have e : (((l.take (m.length : Int).toNat).drop 0 == m) = true) = (m.isPrefixOf l = true) := by
      rw [List.drop_zero, beq_iff_eq, List.isPrefixOf_iff_prefix, List.prefix_iff_eq_take]
      simp only [Int.toNat_natCast]
      exact propext ⟨fun h => h.symm, fun h => h.symm⟩
    by_cases h2 : m.isPrefixOf l = true
    · rw [if_pos (by rw [e]; exact h2), if_pos (by omega), if_pos (by omega), if_pos h2, B_extract]
      simp
    · rw [if_neg (by rw [e]; exact h2), if_neg h2]
      rfl
  · rw [if_neg (by omega)]
    have h2 : ¬ m.isPrefixOf l = true := by
      rw [List.isPrefixOf_iff_prefix]
      intro hp
      exact h hp.length_le
    rw [if_neg h2]
    rfl
theorem cut1_le (l m : List UInt8) : (Lib.cut l m).1.length ≤ l.length := by
  unfold Lib.cut
  split
  · simp; omega
  · exact Nat.le_refl _
def lowerS (l : List UInt8) : List UInt8 := l.map lowerB
theorem lower_f (l : List UInt8) (h : l.length ≤ 140737488351232) : pct_Lower.f (B l) = some (B (lowerS l)) := by
  unfold pct_Lower.f
  rw [if_pos (by rw [B_size]; exact h), data_B]
  rfl
def okH (l : List S27) : Prop := l.length ≤ 140737488351232 ∧ ∀ h ∈ l, h.f0.size ≤ 140737488351232 ∧ h.f1.size ≤ 140737488351232
theorem cut2_yes (l r : List UInt8) (h : (13 : UInt8) ∉ l) : Lib.cut (l ++ 13 :: 10 :: r) [13, 10] = (l, r, true) := by
  have hi : Lib.index (l ++ 13 :: 10 :: r) [13, 10] = (l.length : Int) := by
    refine Lib.index_first (i := l.length) (by simp) ?_ fun j hj => ?_
    · unfold Lib.occAt
      simp [List.isPrefixOf]
    · unfold Lib.occAt
      rw [List.drop_append_of_le_length (by omega)]
      cases hd : l.drop j with
      | nil => have := congrArg List.length hd; simp at this; omega
      | cons b q =>
        have hb : b ∈ l := List.mem_of_mem_drop (by rw [hd]; exact List.mem_cons_self)
        have : ((13 : UInt8) == b) = false := by
          rw [beq_eq_false_iff_ne]
          intro e
          exact h (e ▸ hb)
        simp [List.isPrefixOf, this]
  unfold Lib.cut
  rw [hi, if_pos (by omega)]
  simp
theorem cut2_no (s : List UInt8) (h : ∀ a r, s = a ++ 13 :: 10 :: r → False) : Lib.cut s [13, 10] = (s, [], false) := by
  have hi : Lib.index s [13, 10] = -1 := by
    refine Lib.index_none fun j hj => ?_
    rw [Bool.eq_false_iff]
    intro ho
    unfold Lib.occAt at ho
    rw [List.isPrefixOf_iff_prefix] at ho
    obtain ⟨t, ht⟩ := ho
    refine h (s.take j) t ?_
    rw [show (13 : UInt8) :: 10 :: t = [13, 10] ++ t from rfl, ht, List.take_append_drop]
  unfold Lib.cut
  rw [hi]
  rfl
/-- A line that is cut off ahead of its end is none. -/
theorem cut2_short (l r : List UInt8) (c : Nat) (h : (13 : UInt8) ∉ l) (hc : c < l.length + 2) : Lib.cut ((l ++ 13 :: 10 :: r).take c) [13, 10] = ((l ++ 13 :: 10 :: r).take c, [], false) := by
  refine cut2_no _ fun a q e => ?_
  have hl := congrArg List.length e
  rw [List.length_take, List.length_append] at hl
  simp only [List.length_append, List.length_cons] at hl
  have ha : a.length < l.length := by omega
  have h1 : (a ++ 13 :: 10 :: q)[a.length]? = some 13 := by
    rw [List.getElem?_append_right (Nat.le_refl _), Nat.sub_self]
    rfl
  rw [← e, List.getElem?_take, if_pos (by omega), List.getElem?_append_left ha] at h1
  exact h (List.mem_of_getElem? h1)
theorem trim_f (l : List UInt8) (h : l.length ≤ 140737488351232) : strings_Trim.f (B l) (B [32]) = some (B (Lib.trimB l 32)) := by
  unfold strings_Trim.f
  rw [if_pos (by rw [B_size]; exact h), if_pos (by rw [data_B]), data_B]
  rfl
def okN (c : UInt8) : Bool := (decide (65 ≤ c.toNat) && decide (c.toNat ≤ 90)) || (decide (97 ≤ c.toNat) && decide (c.toNat ≤ 122)) || (decide (48 ≤ c.toNat) && decide (c.toNat ≤ 57)) || decide (c.toNat = 45)
theorem letter1 (c : UInt8) : Ev (fun k => head_letters.f k (B [c])) (okN c) := by
  have hb : bt (B [c]) 0 = (c.toNat : Int) := bt_B [c] 0 (by simp)
  have hz : ((B [c]).size : Int) = 1 := by rw [B_size]; rfl
  have hw : wrap64 ((0 : Int) + 1) = 1 := w64 (by omega) (by omega) (by omega)
  have e : Ev (fun k => head_letters.l0 k (B [c]) 1 1) true := Ev.step (f := fun _ => some true) (fun k => by simp only [head_letters.l0]; rw [if_neg (by omega)]) (Ev.now _)
  unfold head_letters.f
  rw [hz]
  refine Ev.step (f := fun k => if okN c = true then head_letters.l0 k (B [c]) 1 1 else some false) (fun k => ?_) ?_
  · simp only [head_letters.l0]
    rw [if_pos (by omega), if_pos (by omega), if_pos (by omega), hb, hw]
    generalize head_letters.l0 k (B [c]) 1 1 = E
    generalize hn : c.toNat = n
    have ho : okN c = ((decide (65 ≤ n) && decide (n ≤ 90)) || (decide (97 ≤ n) && decide (n ≤ 122)) || (decide (48 ≤ n) && decide (n ≤ 57)) || decide (n = 45)) := by rw [← hn]; rfl
    rw [ho]
    simp only [Bool.or_eq_true, Bool.and_eq_true, decide_eq_true_eq]
    repeat' split
    all_goals first | rfl | (exfalso; omega)
  · by_cases h : okN c = true
    · rw [h]
      simp only [if_true]
      exact e
    · rw [Bool.not_eq_true] at h
      rw [h]
      exact Ev.now _
theorem name1 (c : UInt8) : Ev (fun k => head_Name.f k (B [c])) (okN c) := by
  unfold head_Name.f
  refine Ev.congr (fun k => by rw [if_pos (by rw [B_size]; simp), if_pos (by rw [B_size]; simp)]) ?_
  exact Ev.bind (letter1 c) (Ev.now _)
theorem name_l (l : List UInt8) (hl : l.length ≤ 20) : ∀ (d i : Nat), l.length - i = d → i ≤ l.length → Ev (fun k => reply_name.l0 k (B l) (l.length : Int) (i : Int)) ((l.drop i).all okN) := by
  intro d
  induction d with
  | zero =>
    intro i hd hi
    refine Ev.step (f := fun _ => some true) (fun k => by simp only [reply_name.l0]; rw [if_neg (by omega)]) ?_
    rw [List.drop_eq_nil_of_le (by omega)]
    exact Ev.now _
  | succ d ih =>
    intro i hd hi
    have hlt : i < l.length := by omega
    have hs : l.drop i = l[i] :: l.drop (i + 1) := List.drop_eq_getElem_cons hlt
    have hw : wrap64 ((i : Int) + 1) = ((i + 1 : Nat) : Int) := w64 (by omega) (by omega) (by omega)
    have hx : (B l).extract i (i + 1) = B [l[i]] := by
      rw [B_extract, List.drop_take, hs, Nat.add_sub_cancel_left]
      rfl
    refine Ev.step (fun k => by simp only [reply_name.l0]; rw [if_pos (by omega), if_pos (by omega), hw, if_pos (by omega), if_pos (by rw [B_size]; omega), Int.toNat_natCast, Int.toNat_natCast, hx]) ?_
    refine Ev.bind (name1 l[i]) ?_
    rw [hs, List.all_cons]
    by_cases h : okN l[i] = true
    · rw [h]
      simp only [if_true, Bool.true_and]
      exact ih (i + 1) (by omega) (by omega)
    · rw [Bool.not_eq_true] at h
      rw [h]
      exact Ev.now _
def nameS (l : List UInt8) : Bool := decide (1 ≤ l.length) && decide (l.length ≤ 20) && l.all okN
theorem name_f (l : List UInt8) : Ev (fun k => reply_name.f k (B l)) (nameS l) := by
  unfold nameS
  by_cases h1 : l.length < 1
  · refine Ev.congr (f := fun k => reply_name.j0 k (B l) true) (fun k => by unfold reply_name.f; rw [B_size, if_pos (by omega)]) ?_
    rw [decide_eq_false (by omega : ¬ 1 ≤ l.length)]
    exact Ev.step (f := fun _ => some false) (fun k => by simp only [reply_name.j0, if_true]) (Ev.now _)
  · by_cases h2 : l.length ≤ 20
    · refine Ev.congr (f := fun k => reply_name.j0 k (B l) false) (fun k => by unfold reply_name.f; rw [B_size, if_neg (by omega), decide_eq_false (by omega)]) ?_
      refine Ev.step (f := fun k => reply_name.l0 k (B l) (l.length : Int) ((0 : Nat) : Int)) (fun k => by simp only [reply_name.j0]; rw [if_neg (by simp), B_size]; rfl) ?_
      have := name_l l h2 l.length 0 (by omega) (by omega)
      rw [decide_eq_true (by omega : 1 ≤ l.length), decide_eq_true h2]
      exact this
    · refine Ev.congr (f := fun k => reply_name.j0 k (B l) true) (fun k => by unfold reply_name.f; rw [B_size, if_neg (by omega), decide_eq_true (by omega)]) ?_
      rw [decide_eq_false h2, Bool.and_false]
      exact Ev.step (f := fun _ => some false) (fun k => by simp only [reply_name.j0, if_true]) (Ev.now _)
def okV (c : UInt8) : Bool := decide (32 ≤ c.toNat) && decide (c.toNat ≤ 126)
theorem value_l (l : List UInt8) (hl : l.length ≤ 40) : ∀ (d i : Nat), l.length - i = d → i ≤ l.length → Ev (fun k => reply_value.l0 k (B l) (l.length : Int) (i : Int)) ((l.drop i).all okV) := by
  intro d
  induction d with
  | zero =>
    intro i hd hi
    refine Ev.step (f := fun _ => some true) (fun k => by simp only [reply_value.l0]; rw [if_neg (by omega)]) ?_
    rw [List.drop_eq_nil_of_le (by omega)]
    exact Ev.now _
  | succ d ih =>
    intro i hd hi
    have hlt : i < l.length := by omega
    have hb := bt_B l i hlt
    have hs : l.drop i = l[i] :: l.drop (i + 1) := List.drop_eq_getElem_cons hlt
    have hw : wrap64 ((i : Int) + 1) = ((i + 1 : Nat) : Int) := w64 (by omega) (by omega) (by omega)
    rw [hs, List.all_cons]
    by_cases g1 : (l[i].toNat : Int) < 32
    · refine Ev.step (f := fun _ => some false) (fun k => by simp only [reply_value.l0]; rw [if_pos (by omega), if_pos (by omega), if_pos (by rw [B_size]; omega), hb, if_pos g1]) ?_
      have : okV l[i] = false := by unfold okV; rw [decide_eq_false (by omega)]; rfl
      rw [this]
      exact Ev.now _
    · by_cases g2 : (l[i].toNat : Int) > 126
      · refine Ev.step (f := fun _ => some false) (fun k => by simp only [reply_value.l0]; rw [if_pos (by omega), if_pos (by omega), if_pos (by rw [B_size]; omega), hb, if_neg g1, if_pos g2]) ?_
        have : okV l[i] = false := by unfold okV; rw [decide_eq_false (by omega : ¬ l[i].toNat ≤ 126), Bool.and_false]
        rw [this]
        exact Ev.now _
      · refine Ev.step (f := fun k => reply_value.l0 k (B l) (l.length : Int) ((i + 1 : Nat) : Int)) (fun k => by simp only [reply_value.l0]; rw [if_pos (by omega), if_pos (by omega), if_pos (by rw [B_size]; omega), hb, if_neg g1, if_neg g2, hw]) ?_
        have : okV l[i] = true := by unfold okV; rw [decide_eq_true (by omega), decide_eq_true (by omega)]; rfl
        rw [this, Bool.true_and]
        exact ih (i + 1) (by omega) (by omega)
def valueS (l : List UInt8) : Bool := decide (l.length ≤ 40) && l.all okV
theorem value_f (l : List UInt8) : Ev (fun k => reply_value.f k (B l)) (valueS l) := by
  unfold valueS reply_value.f
  by_cases h : l.length ≤ 40
  · refine Ev.congr (f := fun k => reply_value.l0 k (B l) (l.length : Int) ((0 : Nat) : Int)) (fun k => by rw [if_neg (by rw [B_size]; omega), B_size]; rfl) ?_
    rw [decide_eq_true h]
    exact value_l l h l.length 0 (by omega) (by omega)
  · refine Ev.congr (f := fun _ => some false) (fun k => by rw [if_pos (by rw [B_size]; omega)]) ?_
    rw [decide_eq_false h]
    exact Ev.now _
/-- A line's header: its name, its value, whether it is one. -/
def oneS (l : List UInt8) : List UInt8 × List UInt8 × Bool :=
  ((Lib.cut l [58]).1, Lib.trimB (Lib.cut l [58]).2.1 32, (Lib.cut l [58]).2.2 && nameS (Lib.cut l [58]).1 && valueS (Lib.trimB (Lib.cut l [58]).2.1 32))
theorem cut2_le (l m : List UInt8) : (Lib.cut l m).2.1.length ≤ l.length := by
  unfold Lib.cut
  split
  · simp
  · simp
theorem one_f (l : List UInt8) (h : l.length < 4294967281) : Ev (fun k => reply_one.f k (B l)) (B (oneS l).1, B (oneS l).2.1, (oneS l).2.2) := by
  unfold reply_one.f oneS
  have e1 : strings_Cut.f (B l) (⟨#[58]⟩ : ByteArray) = _ := cut_f l [58] h
  have hc := cut2_le l [58]
  simp only [e1, Option.bind_some]
  generalize Lib.cut l [58] = c at *
  have e2 : strings_Trim.f (B c.2.1) (⟨#[32]⟩ : ByteArray) = _ := trim_f c.2.1 (by omega)
  simp only [e2, Option.bind_some]
  generalize Lib.trimB c.2.1 32 = t
  by_cases g : c.2.2 = true
  · simp only [if_pos g]
    refine Ev.bind (name_f c.1) ?_
    by_cases gn : nameS c.1 = true
    · simp only [if_pos gn]
      refine Ev.bind (value_f t) ?_
      rw [g, gn]
      simp only [Bool.true_and]
      exact Ev.now _
    · simp only [if_neg gn]
      rw [Bool.not_eq_true] at gn
      rw [gn, Bool.and_false, Bool.false_and]
      exact Ev.now _
  · simp only [if_neg g]
    rw [Bool.not_eq_true] at g
    rw [g, Bool.false_and, Bool.false_and]
    exact Ev.now _
def httpL : List UInt8 := [72, 84, 84, 80, 47, 49, 46, 49, 32]
/-- The code of a first line (0: none). -/
def codeS (l : List UInt8) : Int :=
  if httpL.isPrefixOf l = true then
    (if (l.drop 9).length < 3 then 0 else if (numS ((l.drop 9).take 3)).2 = true ∧ 100 ≤ (numS ((l.drop 9).take 3)).1 ∧ (numS ((l.drop 9).take 3)).1 ≤ 599 then (numS ((l.drop 9).take 3)).1 else 0)
  else 0
theorem code_f (l : List UInt8) : Ev (fun k => reply_code.f k (B l)) (codeS l) := by
  unfold reply_code.f codeS
  have e1 : strings_CutPrefix.f (B l) (⟨#[72, 84, 84, 80, 47, 49, 46, 49, 32]⟩ : ByteArray) = _ := pre_f l httpL
  have nil_ : ∀ x, Ev (fun k => reply_code.j0 k x true) 0 := fun x => Ev.step (f := fun _ => some 0) (fun k => by simp only [reply_code.j0, if_true]) (Ev.now _)
  simp only [e1, Option.bind_some]
  by_cases hp : httpL.isPrefixOf l = true
  · simp only [if_pos hp, if_true]
    rw [show httpL.length = 9 from rfl]
    generalize l.drop 9 = r
    by_cases h3 : r.length < 3
    · rw [if_pos h3, decide_eq_true (by rw [B_size]; omega)]
      exact nil_ _
    · rw [if_neg h3, decide_eq_false (by rw [B_size]; omega)]
      refine Ev.step (fun k => by simp only [reply_code.j0]; rw [if_neg (by decide), if_pos (by omega), if_pos (by rw [B_size]; omega), B_extract, List.drop_zero]) ?_
      refine Ev.bind (number_f (r.take 3)) ?_
      generalize numS (r.take 3) = x
      refine Ev.congr (f := fun _ => some _) (fun k => ?_) (Ev.now _)
      by_cases a : x.2 = true
      · rw [if_pos a]
        by_cases b : x.1 < 100
        · rw [if_pos b, if_neg (by omega)]
        · rw [if_neg b]
          by_cases c : x.1 > 599
          · rw [if_pos c, if_neg (by omega)]
          · rw [if_neg c, if_pos ⟨a, by omega, by omega⟩]
      · rw [if_neg a, if_neg (fun h => a h.1)]
  · simp only [if_neg hp]
    exact nil_ _
/-- The lines of a text, one after the other. -/
theorem lines_none (s : List UInt8) (acc : List S27) (hz : s.length < 4294967281) (h : (Lib.cut s [13, 10]).2.2 = false) : Ev (fun k => reply_lines.l0 k (B s) acc) ([], ⟨#[]⟩, false) := by
  have e1 : strings_Cut.f (B s) (⟨#[13, 10]⟩ : ByteArray) = _ := cut_f s [13, 10] hz
  refine Ev.step (f := fun _ => some ([], ⟨#[]⟩, false)) (fun k => by simp only [reply_lines.l0, e1, Option.bind_some]; rw [if_neg (by rw [h]; decide)]) (Ev.now _)
theorem lines_end (s r : List UInt8) (acc : List S27) (hz : s.length < 4294967281) (h : Lib.cut s [13, 10] = ([], r, true)) : Ev (fun k => reply_lines.l0 k (B s) acc) (acc, B r, true) := by
  have e1 : strings_Cut.f (B s) (⟨#[13, 10]⟩ : ByteArray) = _ := cut_f s [13, 10] hz
  rw [h] at e1
  refine Ev.step (f := fun _ => some (acc, B r, true)) (fun k => by simp only [reply_lines.l0, e1, Option.bind_some, if_true]; rw [if_pos (by rw [B_toList])]) (Ev.now _)
theorem lines_bad (s l r : List UInt8) (acc : List S27) (hz : s.length < 4294967281) (h : Lib.cut s [13, 10] = (l, r, true)) (hl : l ≠ []) (hb : (oneS l).2.2 = false ∨ acc.length = 8) : Ev (fun k => reply_lines.l0 k (B s) acc) ([], ⟨#[]⟩, false) := by
  have e1 : strings_Cut.f (B s) (⟨#[13, 10]⟩ : ByteArray) = _ := cut_f s [13, 10] hz
  have hll := cut1_le s [13, 10]
  rw [h] at e1 hll
  refine Ev.step (fun k => by simp only [reply_lines.l0, e1, Option.bind_some, if_true]; rw [if_neg (by rw [B_toList]; exact hl)]) ?_
  refine Ev.bind (one_f l (by simp only at hll; omega)) ?_
  by_cases g : (oneS l).2.2 = true
  · have h8 := hb.resolve_left (by rw [g]; decide)
    refine Ev.congr (f := fun _ => some ([], ⟨#[]⟩, false)) (fun k => by simp only [if_pos g]; rw [if_pos (by omega)]) (Ev.now _)
  · refine Ev.congr (f := fun _ => some ([], ⟨#[]⟩, false)) (fun k => by simp only [if_neg g]) (Ev.now _)
theorem lines_more (s l r : List UInt8) (acc : List S27) (res : List S27 × ByteArray × Bool) (hz : s.length < 4294967281) (h : Lib.cut s [13, 10] = (l, r, true)) (hl : l ≠ []) (ho : (oneS l).2.2 = true) (h8 : acc.length < 8)
    (he : Ev (fun k => reply_lines.l0 k (B r) (acc ++ [⟨B (oneS l).1, B (oneS l).2.1⟩])) res) : Ev (fun k => reply_lines.l0 k (B s) acc) res := by
  have e1 : strings_Cut.f (B s) (⟨#[13, 10]⟩ : ByteArray) = _ := cut_f s [13, 10] hz
  have hll := cut1_le s [13, 10]
  rw [h] at e1 hll
  refine Ev.step (fun k => by simp only [reply_lines.l0, e1, Option.bind_some, if_true]; rw [if_neg (by rw [B_toList]; exact hl)]) ?_
  refine Ev.bind (one_f l (by simp only at hll; omega)) ?_
  refine Ev.congr (fun k => by simp only [if_pos ho]; rw [if_neg (by omega), if_pos (by omega)]) he
def lensS (hs : List S27) : List ByteArray := (hs.filter fun h => lowerS h.f0.data.toList == [99, 111, 110, 116, 101, 110, 116, 45, 108, 101, 110, 103, 116, 104]).map fun h => h.f1
theorem lengths_l (hs : List S27) (hl : okH hs) (h100 : hs.length ≤ 100) : ∀ (d i : Nat) (acc : List ByteArray), hs.length - i = d → i ≤ hs.length → acc.length ≤ i → Ev (fun k => reply_lengths.l0 k acc hs (hs.length : Int) (i : Int)) (acc ++ lensS (hs.drop i)) := by
  intro d
  induction d with
  | zero =>
    intro i acc hd hi ha
    refine Ev.step (f := fun _ => some acc) (fun k => by simp only [reply_lengths.l0]; rw [if_neg (by omega)]) ?_
    rw [List.drop_eq_nil_of_le (by omega)]
    simp only [lensS, List.filter_nil, List.map_nil, List.append_nil]
    exact Ev.now _
  | succ d ih =>
    intro i acc hd hi ha
    have hlt : i < hs.length := by omega
    have hcs : hs.drop i = hs[i] :: hs.drop (i + 1) := List.drop_eq_getElem_cons hlt
    have hr : rd_T27 hs (i : Int) = hs[i] := by
      unfold rd_T27
      simp [List.getD_eq_getElem?_getD, List.getElem?_eq_getElem hlt]
    have hlen := hl.1
    have hw : wrap64 ((i : Int) + 1) = ((i + 1 : Nat) : Int) := w64 (by omega) (by omega) (by omega)
    have h0 := (hl.2 hs[i] (List.getElem_mem hlt)).1
    have e0 : pct_Lower.f hs[i].f0 = some (B (lowerS hs[i].f0.data.toList)) := by
      have := lower_f hs[i].f0.data.toList (by rw [data_length]; exact h0)
      rw [B_data] at this
      exact this
    rw [hcs]
    by_cases g : lowerS hs[i].f0.data.toList = [99, 111, 110, 116, 101, 110, 116, 45, 108, 101, 110, 103, 116, 104]
    · have e2 : lensS (hs[i] :: hs.drop (i + 1)) = hs[i].f1 :: lensS (hs.drop (i + 1)) := by
        unfold lensS
        rw [List.filter_cons_of_pos (by simpa using g)]
        rfl
      refine Ev.step (f := fun k => reply_lengths.l0 k (acc ++ [hs[i].f1]) hs (hs.length : Int) ((i + 1 : Nat) : Int)) (fun k => by
        simp only [reply_lengths.l0]
        rw [if_pos (by omega), if_pos (by omega), if_pos (by omega), hr, e0]
        simp only [Option.bind_some]
        rw [B_toList, if_pos g, if_pos (by omega), hw]) ?_
      have := ih (i + 1) (acc ++ [hs[i].f1]) (by omega) (by omega) (by rw [List.length_append]; simp only [List.length_singleton]; omega)
      rw [e2]
      simpa using this
    · have e2 : lensS (hs[i] :: hs.drop (i + 1)) = lensS (hs.drop (i + 1)) := by
        unfold lensS
        rw [List.filter_cons_of_neg (by simpa using g)]
      refine Ev.step (f := fun k => reply_lengths.l0 k acc hs (hs.length : Int) ((i + 1 : Nat) : Int)) (fun k => by
        simp only [reply_lengths.l0]
        rw [if_pos (by omega), if_pos (by omega), if_pos (by omega), hr, e0]
        simp only [Option.bind_some]
        rw [B_toList, if_neg g, hw]) ?_
      have := ih (i + 1) acc (by omega) (by omega) (by omega)
      rw [e2]
      exact this
theorem lengths_f (hs : List S27) (hl : okH hs) (h100 : hs.length ≤ 100) : Ev (fun k => reply_lengths.f k hs) (lensS hs) := by
  have := lengths_l hs hl h100 hs.length 0 [] (by omega) (by omega) (by simp)
  simp only [List.nil_append, List.drop_zero] at this
  exact this
def bodyS (hs : List S27) (s : List UInt8) : ByteArray × Bool × Bool :=
  match lensS hs with
  | [] => (B s, false, true)
  | v :: r => if (numS v.data.toList).2 = true ∧ r = [] then (B (s.take (numS v.data.toList).1.toNat), decide ((s.length : Int) < (numS v.data.toList).1), true) else (⟨#[]⟩, false, false)
theorem body_f (hs : List S27) (s : List UInt8) (hl : okH hs) (h100 : hs.length ≤ 100) : Ev (fun k => reply_body.f k hs (B s)) (bodyS hs s) := by
  unfold reply_body.f
  refine Ev.bind (lengths_f hs hl h100) ?_
  unfold bodyS
  rcases lensS hs with _ | ⟨v, r⟩
  · exact Ev.congr (f := fun _ => some (B s, false, true)) (fun k => if_pos (by simp)) (Ev.now _)
  · refine Ev.congr (fun k => by rw [if_neg (by simp; omega), if_pos (by simp)]) ?_
    have hr : rdOf ByteArray.empty (v :: r) 0 = B v.data.toList := rfl
    dsimp only
    rw [hr]
    refine Ev.bind (number_f v.data.toList) ?_
    have hb := numS_bound v.data.toList
    generalize numS v.data.toList = x at *
    refine Ev.congr (f := fun _ => some _) (fun k => ?_) (Ev.now _)
    by_cases a : x.2 = true
    · by_cases b : r = []
      · subst b
        have hm : mn x.1 ((B s).size : Int) = ((min x.1.toNat s.length : Nat) : Int) := by rw [B_size]; unfold mn; split <;> omega
        rw [if_pos a, if_neg (by simp), hm, if_pos (by omega), if_pos (by rw [B_size]; omega), B_extract, if_pos ⟨a, rfl⟩]
        simp only [B_size, Int.toNat_natCast, List.drop_zero]
        by_cases hle : x.1.toNat ≤ s.length
        · rw [Nat.min_eq_left hle]
        · rw [Nat.min_eq_right (by omega), List.take_of_length_le (Nat.le_refl _), List.take_of_length_le (by omega)]
      · rw [if_pos a, if_pos (by rcases r with _ | ⟨b, r⟩; exact absurd rfl (by assumption); simp; omega), if_neg (fun h => b h.2)]
    · rw [if_neg a, if_neg (fun h => a h.1)]
theorem bad_parse (k : Nat) (x5 : ByteArray) (c : Int) (x : ByteArray) (b : Bool) : reply_Parse.j0 (k + 1) x5 true c x b = some (0, ([] : List (S27)), (⟨#[]⟩ : ByteArray), false, 2) := by
  simp only [reply_Parse.j0, if_true]
def badP : Int × List S27 × ByteArray × Bool × Int := (0, [], ⟨#[]⟩, false, 2)
/-- No first line. -/
theorem parse_none (s : List UInt8) (hz : s.length < 4294967281) (h : Lib.cut s [13, 10] = (s, [], false)) : Ev (fun k => reply_Parse.f k (B s)) badP := by
  unfold reply_Parse.f
  have e1 : strings_Cut.f (B s) (⟨#[13, 10]⟩ : ByteArray) = _ := cut_f s [13, 10] hz
  rw [h] at e1
  simp only [e1, Option.bind_some]
  refine Ev.bind (code_f s) ?_
  by_cases g : codeS s = 0
  · exact Ev.congr (fun k => if_pos g) (Ev.step (f := fun _ => some badP) (fun k => bad_parse k _ _ _ _) (Ev.now _))
  · refine Ev.congr (fun k => if_neg g) ?_
    rw [show (((B s).size : Int) == ((B s).size : Int)) = true by simp]
    exact Ev.step (f := fun _ => some badP) (fun k => bad_parse k _ _ _ _) (Ev.now _)
theorem parse_code (s l r : List UInt8) (hz : s.length < 4294967281) (h : Lib.cut s [13, 10] = (l, r, true)) (hc : codeS l = 0) : Ev (fun k => reply_Parse.f k (B s)) badP := by
  unfold reply_Parse.f
  have e1 : strings_Cut.f (B s) (⟨#[13, 10]⟩ : ByteArray) = _ := cut_f s [13, 10] hz
  rw [h] at e1
  simp only [e1, Option.bind_some]
  refine Ev.bind (code_f l) ?_
  exact Ev.congr (fun k => if_pos hc) (Ev.step (f := fun _ => some badP) (fun k => bad_parse k _ _ _ _) (Ev.now _))
theorem parse_lines (s l r : List UInt8) (res : List S27 × ByteArray × Bool) (hz : s.length < 4294967281) (h : Lib.cut s [13, 10] = (l, r, true)) (hl : l.length < s.length) (hc : codeS l ≠ 0) (he : Ev (fun k => reply_lines.f k (B r)) res) (hf : res.2.2 = false) : Ev (fun k => reply_Parse.f k (B s)) badP := by
  unfold reply_Parse.f
  have e1 : strings_Cut.f (B s) (⟨#[13, 10]⟩ : ByteArray) = _ := cut_f s [13, 10] hz
  rw [h] at e1
  simp only [e1, Option.bind_some]
  refine Ev.bind (code_f l) ?_
  refine Ev.congr (fun k => if_neg hc) ?_
  rw [show (((B l).size : Int) == ((B s).size : Int)) = false by rw [B_size, B_size]; simp; omega]
  refine Ev.step (fun k => by simp only [reply_Parse.j0]; rw [if_neg (by decide)]) ?_
  refine Ev.bind he ?_
  rw [hf]
  exact Ev.now _
theorem parse_ok (s l r q : List UInt8) (hs : List S27) (hz : s.length < 4294967281) (h : Lib.cut s [13, 10] = (l, r, true)) (hl : l.length < s.length) (hc : codeS l ≠ 0) (he : Ev (fun k => reply_lines.f k (B r)) (hs, B q, true)) (ho : okH hs) (h100 : hs.length ≤ 100) :
    Ev (fun k => reply_Parse.f k (B s)) (if (bodyS hs q).2.2 = true then (codeS l, hs, (bodyS hs q).1, (bodyS hs q).2.1, 0) else badP) := by
  unfold reply_Parse.f
  have e1 : strings_Cut.f (B s) (⟨#[13, 10]⟩ : ByteArray) = _ := cut_f s [13, 10] hz
  rw [h] at e1
  simp only [e1, Option.bind_some]
  refine Ev.bind (code_f l) ?_
  refine Ev.congr (fun k => if_neg hc) ?_
  rw [show (((B l).size : Int) == ((B s).size : Int)) = false by rw [B_size, B_size]; simp; omega]
  refine Ev.step (fun k => by simp only [reply_Parse.j0]; rw [if_neg (by decide)]) ?_
  refine Ev.bind he ?_
  simp only [if_true]
  refine Ev.bind (body_f hs q ho h100) ?_
  refine Ev.congr (f := fun _ => some _) (fun k => ?_) (Ev.now _)
  split <;> rfl
theorem same_l (l : List S27) (hl : l.length ≤ 140737488351232) : ∀ (d i : Nat), l.length - i = d → i ≤ l.length → Ev (fun k => api_Head.l0 k l l (i : Int)) true := by
  intro d
  induction d with
  | zero =>
    intro i hd hi
    exact Ev.step (f := fun _ => some true) (fun k => by simp only [api_Head.l0]; rw [if_neg (by omega)]) (Ev.now _)
  | succ d ih =>
    intro i hd hi
    have hw : wrap64 ((i : Int) + 1) = ((i + 1 : Nat) : Int) := w64 (by omega) (by omega) (by omega)
    refine Ev.step (f := fun k => api_Head.l0 k l l ((i + 1 : Nat) : Int)) (fun k => by simp only [api_Head.l0]; rw [if_pos (by omega), if_pos (by omega), if_pos (by omega), if_neg (by simp), hw]) (ih (i + 1) (by omega) (by omega))
theorem same_f (l : List S27) (hl : l.length ≤ 140737488351232) : Ev (fun k => api_Head.f k l l) true := by
  refine Ev.congr (f := fun k => api_Head.l0 k l l ((0 : Nat) : Int)) (fun k => by unfold api_Head.f; rw [if_pos rfl]; rfl) (same_l l hl l.length 0 (by omega) (by omega))
/-- Lines of headers, an empty one, a body. -/
def textL (body : List UInt8) : List (List UInt8) → List UInt8
  | [] => 13 :: 10 :: body
  | l :: ls => l ++ 13 :: 10 :: textL body ls
def headOf (l : List UInt8) : S27 := ⟨B (oneS l).1, B (oneS l).2.1⟩
def goodL (l : List UInt8) : Prop := (13 : UInt8) ∉ l ∧ l ≠ [] ∧ (oneS l).2.2 = true
theorem textL_cons (body l : List UInt8) (ls : List (List UInt8)) : (textL body (l :: ls)).length = l.length + 2 + (textL body ls).length := by
  simp only [textL, List.length_append, List.length_cons]
  omega
theorem cut_empty (r : List UInt8) : Lib.cut (13 :: 10 :: r) [13, 10] = ([], r, true) := cut2_yes [] r (by simp)
theorem lines_all (body : List UInt8) : ∀ (ls : List (List UInt8)) (acc : List S27), (∀ l ∈ ls, goodL l) → (textL body ls).length < 4294967281 → acc.length + ls.length ≤ 8 →
    Ev (fun k => reply_lines.l0 k (B (textL body ls)) acc) (acc ++ ls.map headOf, B body, true) := by
  intro ls
  induction ls with
  | nil =>
    intro acc _ hz _
    rw [List.map_nil, List.append_nil]
    exact lines_end _ body acc hz (cut_empty body)
  | cons l ls ih =>
    intro acc hg hz h8
    obtain ⟨h1, h2, h3⟩ := hg l List.mem_cons_self
    have hlen := textL_cons body l ls
    simp only [List.length_cons] at h8
    have := ih (acc ++ [headOf l]) (fun x hx => hg x (List.mem_cons_of_mem _ hx)) (by omega) (by rw [List.length_append]; simp only [List.length_singleton]; omega)
    rw [List.append_assoc, List.singleton_append] at this
    exact lines_more _ l (textL body ls) acc _ hz (cut2_yes l _ h1) h2 h3 (by omega) this
theorem lines_over (body : List UInt8) : ∀ (ls : List (List UInt8)) (acc : List S27), (∀ l ∈ ls, goodL l) → (textL body ls).length < 4294967281 → acc.length ≤ 8 → 8 < acc.length + ls.length →
    Ev (fun k => reply_lines.l0 k (B (textL body ls)) acc) ([], ⟨#[]⟩, false) := by
  intro ls
  induction ls with
  | nil =>
    intro acc _ hz _ h
    simp only [List.length_nil] at h
    omega
  | cons l ls ih =>
    intro acc hg hz h8 h9
    obtain ⟨h1, h2, h3⟩ := hg l List.mem_cons_self
    have hlen := textL_cons body l ls
    simp only [List.length_cons] at h9
    by_cases he : acc.length = 8
    · exact lines_bad _ l (textL body ls) acc hz (cut2_yes l _ h1) h2 (.inr he)
    · have := ih (acc ++ [headOf l]) (fun x hx => hg x (List.mem_cons_of_mem _ hx)) (by omega) (by rw [List.length_append]; simp only [List.length_singleton]; omega) (by rw [List.length_append]; simp only [List.length_singleton]; omega)
      exact lines_more _ l (textL body ls) acc _ hz (cut2_yes l _ h1) h2 h3 (by omega) this
theorem nameS_le {l : List UInt8} (h : nameS l = true) : l.length ≤ 20 := by
  unfold nameS at h
  simp only [Bool.and_eq_true, decide_eq_true_eq] at h
  exact h.1.2
theorem valueS_le {l : List UInt8} (h : valueS l = true) : l.length ≤ 40 := by
  unfold valueS at h
  simp only [Bool.and_eq_true, decide_eq_true_eq] at h
  exact h.1
theorem good_ok {ls : List (List UInt8)} (h : ∀ l ∈ ls, goodL l) (h8 : ls.length ≤ 100) : okH (ls.map headOf) := by
  refine ⟨by rw [List.length_map]; omega, fun x hx => ?_⟩
  obtain ⟨l, hl, rfl⟩ := List.mem_map.1 hx
  have h3 := (h l hl).2.2
  unfold oneS at h3
  simp only [Bool.and_eq_true] at h3
  have a := nameS_le h3.1.2
  have b := valueS_le h3.2
  refine ⟨?_, ?_⟩
  · show (B (oneS l).1).size ≤ _
    rw [B_size]
    unfold oneS
    simp only
    omega
  · show (B (oneS l).2.1).size ≤ _
    rw [B_size]
    unfold oneS
    simp only
    omega
theorem parse_all (l0 body : List UInt8) (ls : List (List UInt8)) (h0 : (13 : UInt8) ∉ l0) (hc : codeS l0 ≠ 0) (hg : ∀ l ∈ ls, goodL l) (h8 : ls.length ≤ 8) (hz : (l0 ++ 13 :: 10 :: textL body ls).length < 4294967281) :
    Ev (fun k => reply_Parse.f k (B (l0 ++ 13 :: 10 :: textL body ls))) (if (bodyS (ls.map headOf) body).2.2 = true then (codeS l0, ls.map headOf, (bodyS (ls.map headOf) body).1, (bodyS (ls.map headOf) body).2.1, 0) else badP) := by
  have hl : (l0 ++ 13 :: 10 :: textL body ls).length = l0.length + 2 + (textL body ls).length := textL_cons body l0 ls
  have := lines_all body ls [] hg (by omega) (by simpa using h8)
  rw [List.nil_append] at this
  exact parse_ok _ l0 (textL body ls) body _ hz (cut2_yes l0 _ h0) (by omega) hc this (good_ok hg (by omega)) (by rw [List.length_map]; omega)
theorem parse_over (l0 body : List UInt8) (ls : List (List UInt8)) (h0 : (13 : UInt8) ∉ l0) (hc : codeS l0 ≠ 0) (hg : ∀ l ∈ ls, goodL l) (h8 : 8 < ls.length) (hz : (l0 ++ 13 :: 10 :: textL body ls).length < 4294967281) :
    Ev (fun k => reply_Parse.f k (B (l0 ++ 13 :: 10 :: textL body ls))) badP := by
  have hl : (l0 ++ 13 :: 10 :: textL body ls).length = l0.length + 2 + (textL body ls).length := textL_cons body l0 ls
  exact parse_lines _ l0 (textL body ls) _ hz (cut2_yes l0 _ h0) (by omega) hc (lines_over body ls [] hg (by omega) (by simp) (by simpa using h8)) rfl
theorem wakes09_f : Ev (fun k => postilionlaw09_wakes.f k) true := by
  unfold postilionlaw09_wakes.f
  have := parse_all [72, 84, 84, 80, 47, 49, 46, 49, 32, 50, 48, 48, 32, 45] [] [] (by decide) (by decide) (fun l hl => by cases hl) (by simp) (by decide)
  have hc : codeS [72, 84, 84, 80, 47, 49, 46, 49, 32, 50, 48, 48, 32, 45] = 200 := by decide
  have hb : bodyS [] [] = (B [], false, true) := rfl
  rw [List.map_nil, hc, hb] at this
  simp only [if_true] at this
  refine Ev.bind this ?_
  refine Ev.congr (f := fun _ => some true) (fun k => ?_) (Ev.now _)
  simp [B_toList]
/-- An answer's text. -/
def headL (h : S27) : List UInt8 := h.f0.data.toList ++ 58 :: 32 :: h.f1.data.toList
def firstL (c : Int) : List UInt8 := httpL ++ Lib.itoa c ++ [32, 45]
def printS (c : Int) (hs : List S27) (body : List UInt8) : List UInt8 := firstL c ++ 13 :: 10 :: textL body (hs.map headL)
theorem B_nil : (B [] : ByteArray) = ⟨#[]⟩ := rfl
theorem print_l (c : Int) (b : Bool) (body : List UInt8) (hb : body.length ≤ 1099511627776) (hs : List S27) (hl : hs.length ≤ 1000) (hh : ∀ h ∈ hs, h.f0.size ≤ 1099511627776 ∧ h.f1.size ≤ 1099511627776) :
    ∀ (d i : Nat) (s : List UInt8), hs.length - i = d → i ≤ hs.length → s.length ≤ 1099511627776 + i * 3298534883328 →
    Ev (fun k => reply_Print.l0 k (B s) hs (hs.length : Int) (i : Int) c hs (B body) b) (B (s ++ textL body ((hs.drop i).map headL))) := by
  intro d
  induction d with
  | zero =>
    intro i s hd hi hz
    have hi2 : i ≤ 1000 := by omega
    rw [List.drop_eq_nil_of_le (by omega)]
    refine Ev.step (f := fun _ => some _) (fun k => by
      simp only [reply_Print.l0]
      rw [if_neg (by omega), if_pos (by rw [B_size]; omega), if_pos (by rw [B_size, B_size]; omega)]) ?_
    rw [show (⟨#[13, 10]⟩ : ByteArray) = B [13, 10] from rfl, B_append, B_append, List.append_assoc]
    exact Ev.now _
  | succ d ih =>
    intro i s hd hi hz
    have hlt : i < hs.length := by omega
    have hi2 : i ≤ 1000 := by omega
    have hw : wrap64 ((i : Int) + 1) = ((i + 1 : Nat) : Int) := w64 (by omega) (by omega) (by omega)
    have hr : rd_T27 hs (i : Int) = hs[i] := by
      unfold rd_T27
      simp [List.getD_eq_getElem?_getD, List.getElem?_eq_getElem hlt]
    obtain ⟨p1, p2⟩ := hh hs[i] (List.getElem_mem hlt)
    have hs1 : hs.drop i = hs[i] :: hs.drop (i + 1) := List.drop_eq_getElem_cons hlt
    generalize hs[i] = x at *
    obtain ⟨⟨n⟩, ⟨v⟩⟩ := x
    obtain ⟨n, rfl⟩ : ∃ l : List UInt8, n = l.toArray := ⟨n.toList, rfl⟩
    obtain ⟨v, rfl⟩ : ∃ l : List UInt8, v = l.toArray := ⟨v.toList, rfl⟩
    change (B n).size ≤ _ at p1
    change (B v).size ≤ _ at p2
    rw [B_size] at p1 p2
    have q1 : (B s).size + (B n).size ≤ 9223372036854775807 := by rw [B_size, B_size]; omega
    have q2 : (B s).size + (B n).size + 2 ≤ 9223372036854775807 := by rw [B_size, B_size]; omega
    have q3 : (B s).size + (B n).size + 2 + (B v).size ≤ 9223372036854775807 := by rw [B_size, B_size, B_size]; omega
    have q4 : (B s).size + (B n).size + 2 + (B v).size + 2 ≤ 9223372036854775807 := by rw [B_size, B_size, B_size]; omega
    refine Ev.step (f := fun k => reply_Print.l0 k (B (s ++ (n ++ 58 :: 32 :: v ++ [13, 10]))) hs (hs.length : Int) ((i + 1 : Nat) : Int) c hs (B body) b) (fun k => by
      simp only [reply_Print.l0]
      rw [if_pos (by omega), if_pos (by omega), if_pos (by omega), hr]
      show (if (B s).size + (B n).size ≤ 9223372036854775807 then (if (B s).size + (B n).size + 2 ≤ 9223372036854775807 then (if (B s).size + (B n).size + 2 + (B v).size ≤ 9223372036854775807 then (if (B s).size + (B n).size + 2 + (B v).size + 2 ≤ 9223372036854775807 then reply_Print.l0 k ((((B s ++ B n) ++ B [58, 32]) ++ B v) ++ B [13, 10]) hs (hs.length : Int) (wrap64 ((i : Int) + 1)) c hs (B body) b else none) else none) else none) else none) = _
      rw [if_pos q1, if_pos q2, if_pos q3, if_pos q4, hw, B_append, B_append, B_append, B_append]
      congr 2
      simp) ?_
    have := ih (i + 1) (s ++ (n ++ 58 :: 32 :: v ++ [13, 10])) (by omega) (by omega) (by
      simp only [List.length_append, List.length_cons, List.length_nil]
      omega)
    rw [hs1, List.map_cons]
    refine Ev.congr (fun k => rfl) ?_
    have e : s ++ (n ++ 58 :: 32 :: v ++ [13, 10]) ++ textL body ((hs.drop (i + 1)).map headL) = s ++ textL body (headL ⟨⟨n.toArray⟩, ⟨v.toArray⟩⟩ :: (hs.drop (i + 1)).map headL) := by
      simp [textL, headL]
    rw [← e]
    exact this
theorem itoa_len (c : Int) (h0 : 0 ≤ c) (h1 : c < 1000000) : (Lib.itoa c).length ≤ 6 := by
  have : Lib.itoa c = Lib.decDigits c.toNat := by
    unfold Lib.itoa
    rw [if_neg (by omega)]
  rw [this]
  exact Giv.dec_len 6 c.toNat (by omega)
theorem print_f (c : Int) (h0 : 0 ≤ c) (h1 : c < 1000000) (b : Bool) (body : List UInt8) (hb : body.length ≤ 1099511627776) (hs : List S27) (hl : hs.length ≤ 1000) (hh : ∀ h ∈ hs, h.f0.size ≤ 1099511627776 ∧ h.f1.size ≤ 1099511627776) :
    Ev (fun k => reply_Print.f k c hs (B body) b) (B (printS c hs body)) := by
  have hi := itoa_len c h0 h1
  unfold reply_Print.f strconv_Itoa.f
  rw [if_pos (by omega), if_pos (by omega)]
  simp only [Option.bind_some]
  have hz : (⟨(Lib.itoa c).toArray⟩ : ByteArray).size = (Lib.itoa c).length := B_size _
  rw [hz]
  refine Ev.congr (f := fun k => reply_Print.l0 k (B (firstL c ++ [13, 10])) hs (hs.length : Int) ((0 : Nat) : Int) c hs (B body) b) (fun k => ?_) ?_
  · rw [if_pos (by omega), if_pos (by omega), if_pos (by omega)]
    show reply_Print.l0 k (((B httpL ++ B (Lib.itoa c)) ++ B [32, 45]) ++ B [13, 10]) hs (hs.length : Int) 0 c hs (B body) b = _
    rw [B_append, B_append, B_append]
    rfl
  · have := print_l c b body hb hs hl hh hs.length 0 (firstL c ++ [13, 10]) (by omega) (by omega) (by
      unfold firstL
      simp only [List.length_append, List.length_cons, List.length_nil, show httpL.length = 9 from rfl]
      omega)
    rw [List.drop_zero] at this
    unfold printS
    rw [show firstL c ++ 13 :: 10 :: textL body (hs.map headL) = firstL c ++ [13, 10] ++ textL body (hs.map headL) by simp]
    exact this
def clL : List UInt8 := [67, 111, 110, 116, 101, 110, 116, 45, 76, 101, 110, 103, 116, 104]
def clens : List (List UInt8) := [clL, [99, 111, 110, 116, 101, 110, 116, 45, 108, 101, 110, 103, 116, 104], [67, 79, 78, 84, 69, 78, 84, 45, 76, 69, 78, 71, 84, 72]]
theorem trim_mid (D : List UInt8) (p q : Nat) (h1 : D = [] ∨ ∃ a r, D = a :: r ∧ a ≠ 32) (h2 : D = [] ∨ ∃ r a, D = r ++ [a] ∧ a ≠ 32) : Lib.trimB (List.replicate p 32 ++ D ++ List.replicate q 32) 32 = D := by
  have hr : Lib.trimRightB (List.replicate p 32 ++ D ++ List.replicate q 32) 32 = (if D = [] then [] else List.replicate p 32 ++ D) := by
    split
    · rename_i h
      subst h
      rw [List.append_nil, List.replicate_append_replicate]
      have := Lib.trimRightB_take (List.replicate (p + q) 32) 32 0 (Nat.zero_le _) (fun j b hj hb => by
        have := List.mem_of_getElem? hb
        exact (List.mem_replicate.1 this).2) (fun b hb _ => by omega)
      simpa using this
    · rename_i h
      obtain ⟨r, a, rfl, ha⟩ := h2.resolve_left h
      have hl : (List.replicate p 32 ++ (r ++ [a])).length = p + r.length + 1 := by simp; omega
      have := Lib.trimRightB_take (List.replicate p 32 ++ (r ++ [a]) ++ List.replicate q 32) 32 (p + r.length + 1) (by simp; omega) (fun j b hj hb => by
        rw [List.getElem?_append_right (by omega)] at hb
        have := List.mem_of_getElem? hb
        exact (List.mem_replicate.1 this).2) (fun b hb hc => by
        rw [Nat.add_sub_cancel, List.getElem?_append_left (by omega), List.getElem?_append_right (by simp)] at hc
        simp at hc
        rw [← hc]
        exact ha)
      rw [this, ← hl, List.take_left]
  unfold Lib.trimB
  rw [hr]
  split
  · rename_i h
    subst h
    rfl
  · rename_i h
    obtain ⟨a, r, rfl, ha⟩ := h1.resolve_left h
    have := Lib.trimLeftB_drop (List.replicate p 32 ++ a :: r) 32 p (by simp) (fun j b hj hb => by
      rw [List.getElem?_append_left (by simpa using hj)] at hb
      have := List.mem_of_getElem? hb
      exact (List.mem_replicate.1 this).2) (fun b hb => by
      rw [List.getElem?_append_right (by simp)] at hb
      simp at hb
      rw [← hb]
      exact ha)
    rw [this]
    have hp : (List.replicate p (32 : UInt8)).length = p := List.length_replicate
    exact List.drop_left' hp
theorem okN_58 {n : List UInt8} (h : n.all okN = true) : (58 : UInt8) ∉ n := fun hm => by
  have := List.all_eq_true.1 h 58 hm
  revert this
  decide
theorem nameS_all {n : List UInt8} (h : nameS n = true) : n.all okN = true := by
  unfold nameS at h
  rw [Bool.and_eq_true] at h
  exact h.2
theorem valueS_all {n : List UInt8} (h : valueS n = true) : n.all okV = true := by
  unfold valueS at h
  rw [Bool.and_eq_true] at h
  exact h.2
/-- A header's line: its name, a colon, blanks, its value, blanks. -/
theorem one_mid (n v : List UInt8) (p q : Nat) (hn : nameS n = true) (hv : valueS v = true) (h1 : v = [] ∨ ∃ a r, v = a :: r ∧ a ≠ 32) (h2 : v = [] ∨ ∃ r a, v = r ++ [a] ∧ a ≠ 32) :
    oneS (n ++ 58 :: (List.replicate p 32 ++ v ++ List.replicate q 32)) = (n, v, true) := by
  unfold oneS
  rw [cut_yes n _ 58 (okN_58 (nameS_all hn))]
  dsimp only
  rw [trim_mid v p q h1 h2, hn, hv]
  rfl
theorem all_13 {f : UInt8 → Bool} {n : List UInt8} (h : n.all f = true) (h13 : f 13 = false) : (13 : UInt8) ∉ n := fun hm => by
  have := List.all_eq_true.1 h 13 hm
  rw [h13] at this
  cases this
theorem good_mid (n v : List UInt8) (p q : Nat) (hn : nameS n = true) (hv : valueS v = true) (h1 : v = [] ∨ ∃ a r, v = a :: r ∧ a ≠ 32) (h2 : v = [] ∨ ∃ r a, v = r ++ [a] ∧ a ≠ 32) :
    goodL (n ++ 58 :: (List.replicate p 32 ++ v ++ List.replicate q 32)) := by
  refine ⟨fun hm => ?_, by simp, by rw [one_mid n v p q hn hv h1 h2]⟩
  rcases List.mem_append.1 hm with hm | hm
  · exact all_13 (nameS_all hn) (by decide) hm
  · rcases List.mem_cons.1 hm with hm | hm
    · revert hm; decide
    · rcases List.mem_append.1 hm with hm | hm
      · rcases List.mem_append.1 hm with hm | hm
        · have := (List.mem_replicate.1 hm).2
          revert this; decide
        · exact all_13 (valueS_all hv) (by decide) hm
      · have := (List.mem_replicate.1 hm).2
        revert this; decide
theorem headL_mid (n v : List UInt8) : n ++ 58 :: 32 :: v = n ++ 58 :: (List.replicate 1 32 ++ v ++ List.replicate 0 32) := by simp
theorem dig_ends (D : List UInt8) (h : ∀ c ∈ D, isD c = true) : (D = [] ∨ ∃ a r, D = a :: r ∧ a ≠ 32) ∧ (D = [] ∨ ∃ r a, D = r ++ [a] ∧ a ≠ 32) := by
  have hn : ∀ a ∈ D, a ≠ 32 := fun a ha e => by
    have := h a ha
    rw [e] at this
    revert this
    decide
  rcases List.eq_nil_or_concat D with rfl | ⟨r, a, rfl⟩
  · exact ⟨.inl rfl, .inl rfl⟩
  · refine ⟨?_, .inr ⟨r, a, by simp, hn a (by simp)⟩⟩
    rcases r with _ | ⟨b, r⟩
    · exact .inr ⟨a, [], by simp, hn a (by simp)⟩
    · exact .inr ⟨b, r ++ [a], by simp, hn b (by simp)⟩
theorem dig_value (D : List UInt8) (h : ∀ c ∈ D, isD c = true) (hl : D.length ≤ 40) : valueS D = true := by
  unfold valueS
  rw [decide_eq_true hl, Bool.true_and, List.all_eq_true]
  intro c hc
  have := h c hc
  unfold isD at this
  unfold okV
  simp only [Bool.and_eq_true, decide_eq_true_eq] at this ⊢
  omega
theorem code_first (c : Int) (h0 : 100 ≤ c) (h1 : c ≤ 599) : codeS (firstL c) = c ∧ (13 : UInt8) ∉ firstL c := by
  have hi : Lib.itoa c = Lib.decDigits c.toNat := by
    unfold Lib.itoa
    rw [if_neg (by omega)]
  have hd := dec_isD c.toNat
  have l3 := Giv.dec_len 3 c.toNat (by omega)
  have g3 := dec_ge 2 c.toNat (by omega)
  have hn := numS_dec c.toNat
  rw [if_pos (by omega)] at hn
  unfold firstL
  rw [hi]
  generalize Lib.decDigits c.toNat = D at *
  have hl : D.length = 3 := by omega
  refine ⟨?_, fun hm => ?_⟩
  · unfold codeS
    have hp : httpL.isPrefixOf (httpL ++ D ++ [32, 45]) = true := by
      rw [List.isPrefixOf_iff_prefix, List.append_assoc]
      exact List.prefix_append _ _
    have hdr : (httpL ++ D ++ [32, 45]).drop 9 = D ++ [32, 45] := by
      rw [List.append_assoc]
      exact List.drop_left' rfl
    rw [if_pos hp, hdr, if_neg (by rw [List.length_append]; omega), List.take_left' hl, hn]
    rw [if_pos ⟨rfl, by dsimp only; omega, by dsimp only; omega⟩]
    dsimp only
    omega
  · rcases List.mem_append.1 hm with hm | hm
    · rcases List.mem_append.1 hm with hm | hm
      · revert hm; decide
      · have := hd 13 hm
        revert this
        decide
    · revert hm; decide
/-- The first line of a text, and what is behind its end. -/
def lineS : List UInt8 → Option (List UInt8 × List UInt8)
  | [] => none
  | [_] => none
  | a :: b :: s => if a = 13 ∧ b = 10 then some ([], s) else (lineS (b :: s)).map fun x => (a :: x.1, x.2)
theorem occ_succ (a : UInt8) (t m : List UInt8) (j : Nat) : Lib.occAt (a :: t) m (j + 1) = Lib.occAt t m j := rfl
theorem occ_zero (a b : UInt8) (s : List UInt8) (h : ¬ (a = 13 ∧ b = 10)) : Lib.occAt (a :: b :: s) [13, 10] 0 = false := by
  unfold Lib.occAt
  simp only [List.drop_zero, List.isPrefixOf, Bool.and_true]
  rw [Bool.eq_false_iff]
  intro h2
  rw [Bool.and_eq_true, beq_iff_eq, beq_iff_eq] at h2
  exact h ⟨h2.1.symm, h2.2.symm⟩
theorem occ_nil (j : Nat) : Lib.occAt [] [13, 10] j = false := by
  unfold Lib.occAt
  simp
theorem occ_one (a : UInt8) (j : Nat) : Lib.occAt [a] [13, 10] j = false := by
  rcases j with _ | j
  · unfold Lib.occAt
    simp [List.isPrefixOf]
  · exact occ_nil j
theorem lineS_spec : ∀ s : List UInt8, match lineS s with
    | some x => s = x.1 ++ 13 :: 10 :: x.2 ∧ ∀ j, j < x.1.length → Lib.occAt s [13, 10] j = false
    | none => ∀ j, Lib.occAt s [13, 10] j = false
  | [] => occ_nil
  | [a] => occ_one a
  | a :: b :: s => by
    have ih := lineS_spec (b :: s)
    unfold lineS
    by_cases h : a = 13 ∧ b = 10
    · rw [if_pos h]
      obtain ⟨rfl, rfl⟩ := h
      exact ⟨rfl, fun j hj => by simp at hj⟩
    · rw [if_neg h]
      have h0 := occ_zero a b s h
      rcases hl : lineS (b :: s) with _ | x
      · rw [hl] at ih
        intro j
        rcases j with _ | j
        · exact h0
        · exact ih j
      · rw [hl] at ih
        refine ⟨by show a :: b :: s = a :: (x.1 ++ 13 :: 10 :: x.2); rw [ih.1], fun j hj => ?_⟩
        rcases j with _ | j
        · exact h0
        · exact ih.2 j (by simpa using hj)
theorem cut_line_some {s l r : List UInt8} (h : lineS s = some (l, r)) : Lib.cut s [13, 10] = (l, r, true) ∧ s.length = l.length + 2 + r.length := by
  have hs := lineS_spec s
  rw [h] at hs
  obtain ⟨h1, h2⟩ := hs
  have hlen : s.length = l.length + 2 + r.length := by rw [h1]; simp; omega
  refine ⟨?_, hlen⟩
  have hi : Lib.index s [13, 10] = (l.length : Int) := by
    refine Lib.index_first (i := l.length) (by omega) ?_ h2
    unfold Lib.occAt
    rw [h1, List.drop_left]
    simp
  unfold Lib.cut
  rw [hi, if_pos (by omega), h1]
  simp
theorem cut_line_none {s : List UInt8} (h : lineS s = none) : Lib.cut s [13, 10] = (s, [], false) := by
  have hs := lineS_spec s
  rw [h] at hs
  have hi : Lib.index s [13, 10] = -1 := Lib.index_none fun j _ => hs j
  unfold Lib.cut
  rw [hi]
  rfl
/-- What the lines of the program and of the document's reader agree on. -/
def okAcc (acc : List S27) : Prop := acc.length ≤ 8 ∧ ∀ h ∈ acc, h.f0.size ≤ 20 ∧ h.f1.size ≤ 40
theorem okAcc_okH {acc : List S27} (h : okAcc acc) : okH acc := ⟨by have := h.1; omega, fun x hx => by have := h.2 x hx; omega⟩
theorem okAcc_snoc {acc : List S27} (h : okAcc acc) (l : List UInt8) (h8 : acc.length ≠ 8) (hl : (oneS l).2.2 = true) : okAcc (acc ++ [headOf l]) := by
  refine ⟨by rw [List.length_append]; have := h.1; simp only [List.length_singleton]; omega, fun x hx => ?_⟩
  rcases List.mem_append.1 hx with hx | hx
  · exact h.2 x hx
  · rw [List.mem_singleton.1 hx]
    unfold oneS at hl
    simp only [Bool.and_eq_true] at hl
    have a := nameS_le hl.1.2
    have b := valueS_le hl.2
    refine ⟨?_, ?_⟩
    · show (B (oneS l).1).size ≤ _
      rw [B_size]
      exact a
    · show (B (oneS l).2.1).size ≤ _
      rw [B_size]
      exact b
/-- The lines of a text, told. -/
def linesS : Nat → List UInt8 → List S27 → Option (List S27 × List UInt8)
  | 0, _, _ => none
  | n + 1, s, acc => match lineS s with
    | none => none
    | some x => if x.1 = [] then some (acc, x.2) else if (oneS x.1).2.2 = true ∧ acc.length ≠ 8 then linesS n x.2 (acc ++ [headOf x.1]) else none
theorem linesS_f : ∀ (n : Nat) (s : List UInt8) (acc : List S27), s.length < n → s.length < 4294967281 → okAcc acc →
    match linesS n s acc with
    | some x => Ev (fun k => reply_lines.l0 k (B s) acc) (x.1, B x.2, true) ∧ okAcc x.1
    | none => Ev (fun k => reply_lines.l0 k (B s) acc) ([], ⟨#[]⟩, false) := by
  intro n
  induction n with
  | zero => intro s acc h; omega
  | succ n ih =>
    intro s acc hn hz ho
    unfold linesS
    rcases hl : lineS s with _ | ⟨l, r⟩
    · exact lines_none s acc hz (by rw [cut_line_none hl])
    · obtain ⟨hc, hlen⟩ := cut_line_some hl
      dsimp only
      by_cases g0 : l = []
      · subst g0
        rw [if_pos rfl]
        exact ⟨lines_end s r acc hz hc, ho⟩
      · rw [if_neg g0]
        by_cases g1 : (oneS l).2.2 = true ∧ acc.length ≠ 8
        · rw [if_pos g1]
          have := ih r (acc ++ [headOf l]) (by omega) (by omega) (okAcc_snoc ho l g1.2 g1.1)
          have more : ∀ res, Ev (fun k => reply_lines.l0 k (B r) (acc ++ [headOf l])) res → Ev (fun k => reply_lines.l0 k (B s) acc) res := fun res he =>
            lines_more s l r acc res hz hc g0 g1.1 (by have := ho.1; omega) he
          rcases hx : linesS n r (acc ++ [headOf l]) with _ | x
          · rw [hx] at this
            exact more _ this
          · rw [hx] at this
            exact ⟨more _ this.1, this.2⟩
        · rw [if_neg g1]
          refine lines_bad s l r acc hz hc g0 ?_
          by_cases g2 : acc.length = 8
          · exact .inr g2
          · left
            rw [← Bool.not_eq_true]
            exact fun h => g1 ⟨h, g2⟩
def parseS (s : List UInt8) : Int × List S27 × ByteArray × Bool × Int := match lineS s with
  | none => badP
  | some x => if codeS x.1 = 0 then badP else match linesS (x.2.length + 1) x.2 [] with
    | none => badP
    | some y => if (bodyS y.1 y.2).2.2 = true then (codeS x.1, y.1, (bodyS y.1 y.2).1, (bodyS y.1 y.2).2.1, 0) else badP
theorem parse_f (s : List UInt8) (hz : s.length < 4294967281) : Ev (fun k => reply_Parse.f k (B s)) (parseS s) := by
  unfold parseS
  rcases hl : lineS s with _ | ⟨l, r⟩
  · exact parse_none s hz (cut_line_none hl)
  · obtain ⟨hc, hlen⟩ := cut_line_some hl
    dsimp only
    by_cases g : codeS l = 0
    · rw [if_pos g]
      exact parse_code s l r hz hc g
    · rw [if_neg g]
      have := linesS_f (r.length + 1) r [] (by omega) (by omega) ⟨by simp, fun h hm => by cases hm⟩
      rcases hx : linesS (r.length + 1) r [] with _ | x
      · rw [hx] at this
        exact parse_lines s l r _ hz hc (by omega) g this rfl
      · rw [hx] at this
        exact parse_ok s l r x.2 x.1 hz hc (by omega) g this.1 (okAcc_okH this.2) (by have := this.2.1; omega)
def formA : List UInt8 := [72, 84, 84, 80, 47, 49, 46, 49, 32, 52, 48, 52, 32, 78, 111, 116, 32, 116, 104, 101, 114, 101, 32, 97, 116, 32, 97, 108, 108, 13, 10, 65, 45, 98, 58, 32, 32, 120, 32, 121, 32, 32, 13, 10, 67, 111, 110, 116, 101, 110, 116, 45, 76, 69, 78, 71, 84, 72, 58, 51, 13, 10, 13, 10, 104, 101, 108, 108, 111]
def formB : List UInt8 := [72, 84, 84, 80, 47, 49, 46, 49, 32, 49, 48, 48, 32, 13, 10, 99, 111, 110, 116, 101, 110, 116, 45, 108, 101, 110, 103, 116, 104, 58, 32, 48, 48, 48, 48, 48, 57, 13, 10, 120, 58, 13, 10, 13, 10, 97, 98]
def formP : List UInt8 := [72, 84, 84, 80, 47, 49, 46, 49, 32, 52, 48, 52, 32, 45, 13, 10, 65, 45, 98, 58, 32, 120, 32, 121, 13, 10, 67, 111, 110, 116, 101, 110, 116, 45, 76, 69, 78, 71, 84, 72, 58, 32, 51, 13, 10, 13, 10, 104, 101, 108]
def headsA : List S27 := [(⟨B [65, 45, 98], B [120, 32, 121]⟩ : S27), ⟨B [67, 111, 110, 116, 101, 110, 116, 45, 76, 69, 78, 71, 84, 72], B [51]⟩]
set_option maxRecDepth 100000 in
theorem parseA : parseS formA = (404, headsA, B [104, 101, 108], false, 0) := by rfl
set_option maxRecDepth 100000 in
theorem parseB : parseS formB = (100, [⟨B [99, 111, 110, 116, 101, 110, 116, 45, 108, 101, 110, 103, 116, 104], B [48, 48, 48, 48, 48, 57]⟩, ⟨B [120], B []⟩], B [97, 98], true, 0) := by rfl
theorem dec404 : Lib.itoa 404 = [52, 48, 52] := by
  have e1 : Lib.decDigits 404 = Lib.decDigits 40 ++ [52] := Giv.dec_step 404 (by decide)
  have e2 : Lib.decDigits 40 = Lib.decDigits 4 ++ [48] := Giv.dec_step 40 (by decide)
  have e3 : Lib.decDigits 4 = [52] := Giv.dec_small 4 (by decide)
  unfold Lib.itoa
  rw [if_neg (by decide)]
  show Lib.decDigits 404 = _
  rw [e1, e2, e3]
  rfl
set_option maxRecDepth 100000 in
theorem printA : printS 404 headsA [104, 101, 108] = formP := by
  unfold printS firstL
  rw [dec404]
  rfl
def bads : List (List UInt8) := [[], [72, 84, 84, 80, 47, 49, 46, 49, 32, 50, 48, 48, 32, 45], [72, 84, 84, 80, 47, 49, 46, 49, 32, 50, 48, 48, 32, 45, 13, 10], [72, 84, 84, 80, 47, 49, 46, 48, 32, 50, 48, 48, 32, 45, 13, 10, 13, 10], [72, 84, 84, 80, 47, 49, 46, 49, 32, 50, 48, 32, 45, 13, 10, 13, 10], [72, 84, 84, 80, 47, 49, 46, 49, 32, 48, 57, 57, 32, 45, 13, 10, 13, 10], [72, 84, 84, 80, 47, 49, 46, 49, 32, 54, 48, 48, 32, 45, 13, 10, 13, 10], [72, 84, 84, 80, 47, 49, 46, 49, 32, 50, 120, 48, 32, 45, 13, 10, 13, 10], [72, 84, 84, 80, 47, 49, 46, 49, 32, 50, 48, 48, 32, 45, 10, 10], [72, 84, 84, 80, 47, 49, 46, 49, 32, 50, 48, 48, 32, 45, 13, 10, 120, 13, 10, 13, 10], [72, 84, 84, 80, 47, 49, 46, 49, 32, 50, 48, 48, 32, 45, 13, 10, 58, 32, 120, 13, 10, 13, 10], [72, 84, 84, 80, 47, 49, 46, 49, 32, 50, 48, 48, 32, 45, 13, 10, 97, 32, 98, 58, 32, 120, 13, 10, 13, 10], [72, 84, 84, 80, 47, 49, 46, 49, 32, 50, 48, 48, 32, 45, 13, 10, 120, 58, 32, 9, 13, 10, 13, 10], [72, 84, 84, 80, 47, 49, 46, 49, 32, 50, 48, 48, 32, 45, 13, 10, 99, 111, 110, 116, 101, 110, 116, 45, 108, 101, 110, 103, 116, 104, 58, 32, 120, 13, 10, 13, 10], [72, 84, 84, 80, 47, 49, 46, 49, 32, 50, 48, 48, 32, 45, 13, 10, 99, 111, 110, 116, 101, 110, 116, 45, 108, 101, 110, 103, 116, 104, 58, 32, 49, 50, 51, 52, 53, 54, 55, 13, 10, 13, 10], [72, 84, 84, 80, 47, 49, 46, 49, 32, 50, 48, 48, 32, 45, 13, 10, 99, 111, 110, 116, 101, 110, 116, 45, 108, 101, 110, 103, 116, 104, 58, 32, 49, 13, 10, 67, 111, 110, 116, 101, 110, 116, 45, 76, 101, 110, 103, 116, 104, 58, 32, 49, 13, 10, 13, 10, 97], [72, 84, 84, 80, 47, 49, 46, 49, 32, 50, 48, 48, 32, 45, 13, 10, 97, 58, 32, 49, 13, 10, 97, 58, 32, 49, 13, 10, 97, 58, 32, 49, 13, 10, 97, 58, 32, 49, 13, 10, 97, 58, 32, 49, 13, 10, 97, 58, 32, 49, 13, 10, 97, 58, 32, 49, 13, 10, 97, 58, 32, 49, 13, 10, 97, 58, 32, 49, 13, 10, 13, 10], [72, 84, 84, 80, 47, 49, 46, 49, 32, 50, 48, 48, 32, 45, 13, 10, 97, 98, 99, 100, 101, 102, 103, 104, 105, 106, 107, 108, 109, 110, 111, 112, 113, 114, 115, 116, 117, 58, 32, 49, 13, 10, 13, 10], [72, 84, 84, 80, 47, 49, 46, 49, 32, 50, 48, 48, 32, 45, 13, 10, 120, 58, 32, 49, 50, 51, 52, 53, 54, 55, 56, 57, 48, 49, 50, 51, 52, 53, 54, 55, 56, 57, 48, 49, 50, 51, 52, 53, 54, 55, 56, 57, 48, 49, 50, 51, 52, 53, 54, 55, 56, 57, 48, 49, 13, 10, 13, 10]]
set_option maxRecDepth 100000 in
theorem bads_len : bads.all (fun s => decide (s.length < 100)) = true := by decide
set_option maxRecDepth 100000 in
theorem bad0 : parseS [] = badP := by rfl
set_option maxRecDepth 100000 in
theorem bad1 : parseS [72, 84, 84, 80, 47, 49, 46, 49, 32, 50, 48, 48, 32, 45] = badP := by rfl
set_option maxRecDepth 100000 in
theorem bad2 : parseS [72, 84, 84, 80, 47, 49, 46, 49, 32, 50, 48, 48, 32, 45, 13, 10] = badP := by rfl
set_option maxRecDepth 100000 in
theorem bad3 : parseS [72, 84, 84, 80, 47, 49, 46, 48, 32, 50, 48, 48, 32, 45, 13, 10, 13, 10] = badP := by rfl
set_option maxRecDepth 100000 in
theorem bad4 : parseS [72, 84, 84, 80, 47, 49, 46, 49, 32, 50, 48, 32, 45, 13, 10, 13, 10] = badP := by rfl
set_option maxRecDepth 100000 in
theorem bad5 : parseS [72, 84, 84, 80, 47, 49, 46, 49, 32, 48, 57, 57, 32, 45, 13, 10, 13, 10] = badP := by rfl
set_option maxRecDepth 100000 in
theorem bad6 : parseS [72, 84, 84, 80, 47, 49, 46, 49, 32, 54, 48, 48, 32, 45, 13, 10, 13, 10] = badP := by rfl
set_option maxRecDepth 100000 in
theorem bad7 : parseS [72, 84, 84, 80, 47, 49, 46, 49, 32, 50, 120, 48, 32, 45, 13, 10, 13, 10] = badP := by rfl
set_option maxRecDepth 100000 in
theorem bad8 : parseS [72, 84, 84, 80, 47, 49, 46, 49, 32, 50, 48, 48, 32, 45, 10, 10] = badP := by rfl
set_option maxRecDepth 100000 in
theorem bad9 : parseS [72, 84, 84, 80, 47, 49, 46, 49, 32, 50, 48, 48, 32, 45, 13, 10, 120, 13, 10, 13, 10] = badP := by rfl
set_option maxRecDepth 100000 in
theorem bad10 : parseS [72, 84, 84, 80, 47, 49, 46, 49, 32, 50, 48, 48, 32, 45, 13, 10, 58, 32, 120, 13, 10, 13, 10] = badP := by rfl
set_option maxRecDepth 100000 in
theorem bad11 : parseS [72, 84, 84, 80, 47, 49, 46, 49, 32, 50, 48, 48, 32, 45, 13, 10, 97, 32, 98, 58, 32, 120, 13, 10, 13, 10] = badP := by rfl
set_option maxRecDepth 100000 in
theorem bad12 : parseS [72, 84, 84, 80, 47, 49, 46, 49, 32, 50, 48, 48, 32, 45, 13, 10, 120, 58, 32, 9, 13, 10, 13, 10] = badP := by rfl
set_option maxRecDepth 100000 in
theorem bad13 : parseS [72, 84, 84, 80, 47, 49, 46, 49, 32, 50, 48, 48, 32, 45, 13, 10, 99, 111, 110, 116, 101, 110, 116, 45, 108, 101, 110, 103, 116, 104, 58, 32, 120, 13, 10, 13, 10] = badP := by rfl
set_option maxRecDepth 100000 in
theorem bad14 : parseS [72, 84, 84, 80, 47, 49, 46, 49, 32, 50, 48, 48, 32, 45, 13, 10, 99, 111, 110, 116, 101, 110, 116, 45, 108, 101, 110, 103, 116, 104, 58, 32, 49, 50, 51, 52, 53, 54, 55, 13, 10, 13, 10] = badP := by rfl
set_option maxRecDepth 100000 in
theorem bad15 : parseS [72, 84, 84, 80, 47, 49, 46, 49, 32, 50, 48, 48, 32, 45, 13, 10, 99, 111, 110, 116, 101, 110, 116, 45, 108, 101, 110, 103, 116, 104, 58, 32, 49, 13, 10, 67, 111, 110, 116, 101, 110, 116, 45, 76, 101, 110, 103, 116, 104, 58, 32, 49, 13, 10, 13, 10, 97] = badP := by rfl
set_option maxRecDepth 100000 in
theorem bad16 : parseS [72, 84, 84, 80, 47, 49, 46, 49, 32, 50, 48, 48, 32, 45, 13, 10, 97, 58, 32, 49, 13, 10, 97, 58, 32, 49, 13, 10, 97, 58, 32, 49, 13, 10, 97, 58, 32, 49, 13, 10, 97, 58, 32, 49, 13, 10, 97, 58, 32, 49, 13, 10, 97, 58, 32, 49, 13, 10, 97, 58, 32, 49, 13, 10, 97, 58, 32, 49, 13, 10, 13, 10] = badP := by rfl
set_option maxRecDepth 100000 in
theorem bad17 : parseS [72, 84, 84, 80, 47, 49, 46, 49, 32, 50, 48, 48, 32, 45, 13, 10, 97, 98, 99, 100, 101, 102, 103, 104, 105, 106, 107, 108, 109, 110, 111, 112, 113, 114, 115, 116, 117, 58, 32, 49, 13, 10, 13, 10] = badP := by rfl
set_option maxRecDepth 100000 in
theorem bad18 : parseS [72, 84, 84, 80, 47, 49, 46, 49, 32, 50, 48, 48, 32, 45, 13, 10, 120, 58, 32, 49, 50, 51, 52, 53, 54, 55, 56, 57, 48, 49, 50, 51, 52, 53, 54, 55, 56, 57, 48, 49, 50, 51, 52, 53, 54, 55, 56, 57, 48, 49, 50, 51, 52, 53, 54, 55, 56, 57, 48, 49, 13, 10, 13, 10] = badP := by rfl
theorem bads_none (t : Int) (h0 : 0 ≤ t) (h1 : t < 19) : ∃ s : List UInt8, rdOf ByteArray.empty [(⟨#[]⟩ : ByteArray), (⟨#[72, 84, 84, 80, 47, 49, 46, 49, 32, 50, 48, 48, 32, 45]⟩ : ByteArray), (⟨#[72, 84, 84, 80, 47, 49, 46, 49, 32, 50, 48, 48, 32, 45, 13, 10]⟩ : ByteArray), (⟨#[72, 84, 84, 80, 47, 49, 46, 48, 32, 50, 48, 48, 32, 45, 13, 10, 13, 10]⟩ : ByteArray), (⟨#[72, 84, 84, 80, 47, 49, 46, 49, 32, 50, 48, 32, 45, 13, 10, 13, 10]⟩ : ByteArray), (⟨#[72, 84, 84, 80, 47, 49, 46, 49, 32, 48, 57, 57, 32, 45, 13, 10, 13, 10]⟩ : ByteArray), (⟨#[72, 84, 84, 80, 47, 49, 46, 49, 32, 54, 48, 48, 32, 45, 13, 10, 13, 10]⟩ : ByteArray), (⟨#[72, 84, 84, 80, 47, 49, 46, 49, 32, 50, 120, 48, 32, 45, 13, 10, 13, 10]⟩ : ByteArray), (⟨#[72, 84, 84, 80, 47, 49, 46, 49, 32, 50, 48, 48, 32, 45, 10, 10]⟩ : ByteArray), (⟨#[72, 84, 84, 80, 47, 49, 46, 49, 32, 50, 48, 48, 32, 45, 13, 10, 120, 13, 10, 13, 10]⟩ : ByteArray), (⟨#[72, 84, 84, 80, 47, 49, 46, 49, 32, 50, 48, 48, 32, 45, 13, 10, 58, 32, 120, 13, 10, 13, 10]⟩ : ByteArray), (⟨#[72, 84, 84, 80, 47, 49, 46, 49, 32, 50, 48, 48, 32, 45, 13, 10, 97, 32, 98, 58, 32, 120, 13, 10, 13, 10]⟩ : ByteArray), (⟨#[72, 84, 84, 80, 47, 49, 46, 49, 32, 50, 48, 48, 32, 45, 13, 10, 120, 58, 32, 9, 13, 10, 13, 10]⟩ : ByteArray), (⟨#[72, 84, 84, 80, 47, 49, 46, 49, 32, 50, 48, 48, 32, 45, 13, 10, 99, 111, 110, 116, 101, 110, 116, 45, 108, 101, 110, 103, 116, 104, 58, 32, 120, 13, 10, 13, 10]⟩ : ByteArray), (⟨#[72, 84, 84, 80, 47, 49, 46, 49, 32, 50, 48, 48, 32, 45, 13, 10, 99, 111, 110, 116, 101, 110, 116, 45, 108, 101, 110, 103, 116, 104, 58, 32, 49, 50, 51, 52, 53, 54, 55, 13, 10, 13, 10]⟩ : ByteArray), (⟨#[72, 84, 84, 80, 47, 49, 46, 49, 32, 50, 48, 48, 32, 45, 13, 10, 99, 111, 110, 116, 101, 110, 116, 45, 108, 101, 110, 103, 116, 104, 58, 32, 49, 13, 10, 67, 111, 110, 116, 101, 110, 116, 45, 76, 101, 110, 103, 116, 104, 58, 32, 49, 13, 10, 13, 10, 97]⟩ : ByteArray), (⟨#[72, 84, 84, 80, 47, 49, 46, 49, 32, 50, 48, 48, 32, 45, 13, 10, 97, 58, 32, 49, 13, 10, 97, 58, 32, 49, 13, 10, 97, 58, 32, 49, 13, 10, 97, 58, 32, 49, 13, 10, 97, 58, 32, 49, 13, 10, 97, 58, 32, 49, 13, 10, 97, 58, 32, 49, 13, 10, 97, 58, 32, 49, 13, 10, 97, 58, 32, 49, 13, 10, 13, 10]⟩ : ByteArray), (⟨#[72, 84, 84, 80, 47, 49, 46, 49, 32, 50, 48, 48, 32, 45, 13, 10, 97, 98, 99, 100, 101, 102, 103, 104, 105, 106, 107, 108, 109, 110, 111, 112, 113, 114, 115, 116, 117, 58, 32, 49, 13, 10, 13, 10]⟩ : ByteArray), (⟨#[72, 84, 84, 80, 47, 49, 46, 49, 32, 50, 48, 48, 32, 45, 13, 10, 120, 58, 32, 49, 50, 51, 52, 53, 54, 55, 56, 57, 48, 49, 50, 51, 52, 53, 54, 55, 56, 57, 48, 49, 50, 51, 52, 53, 54, 55, 56, 57, 48, 49, 50, 51, 52, 53, 54, 55, 56, 57, 48, 49, 13, 10, 13, 10]⟩ : ByteArray)] t = B s ∧ s.length < 100 ∧ parseS s = badP := by
  have : t = 0 ∨ t = 1 ∨ t = 2 ∨ t = 3 ∨ t = 4 ∨ t = 5 ∨ t = 6 ∨ t = 7 ∨ t = 8 ∨ t = 9 ∨ t = 10 ∨ t = 11 ∨ t = 12 ∨ t = 13 ∨ t = 14 ∨ t = 15 ∨ t = 16 ∨ t = 17 ∨ t = 18 := by omega
  rcases this with rfl | rfl | rfl | rfl | rfl | rfl | rfl | rfl | rfl | rfl | rfl | rfl | rfl | rfl | rfl | rfl | rfl | rfl | rfl
  · exact ⟨[], rfl, by decide, bad0⟩
  · exact ⟨[72, 84, 84, 80, 47, 49, 46, 49, 32, 50, 48, 48, 32, 45], rfl, by decide, bad1⟩
  · exact ⟨[72, 84, 84, 80, 47, 49, 46, 49, 32, 50, 48, 48, 32, 45, 13, 10], rfl, by decide, bad2⟩
  · exact ⟨[72, 84, 84, 80, 47, 49, 46, 48, 32, 50, 48, 48, 32, 45, 13, 10, 13, 10], rfl, by decide, bad3⟩
  · exact ⟨[72, 84, 84, 80, 47, 49, 46, 49, 32, 50, 48, 32, 45, 13, 10, 13, 10], rfl, by decide, bad4⟩
  · exact ⟨[72, 84, 84, 80, 47, 49, 46, 49, 32, 48, 57, 57, 32, 45, 13, 10, 13, 10], rfl, by decide, bad5⟩
  · exact ⟨[72, 84, 84, 80, 47, 49, 46, 49, 32, 54, 48, 48, 32, 45, 13, 10, 13, 10], rfl, by decide, bad6⟩
  · exact ⟨[72, 84, 84, 80, 47, 49, 46, 49, 32, 50, 120, 48, 32, 45, 13, 10, 13, 10], rfl, by decide, bad7⟩
  · exact ⟨[72, 84, 84, 80, 47, 49, 46, 49, 32, 50, 48, 48, 32, 45, 10, 10], rfl, by decide, bad8⟩
  · exact ⟨[72, 84, 84, 80, 47, 49, 46, 49, 32, 50, 48, 48, 32, 45, 13, 10, 120, 13, 10, 13, 10], rfl, by decide, bad9⟩
  · exact ⟨[72, 84, 84, 80, 47, 49, 46, 49, 32, 50, 48, 48, 32, 45, 13, 10, 58, 32, 120, 13, 10, 13, 10], rfl, by decide, bad10⟩
  · exact ⟨[72, 84, 84, 80, 47, 49, 46, 49, 32, 50, 48, 48, 32, 45, 13, 10, 97, 32, 98, 58, 32, 120, 13, 10, 13, 10], rfl, by decide, bad11⟩
  · exact ⟨[72, 84, 84, 80, 47, 49, 46, 49, 32, 50, 48, 48, 32, 45, 13, 10, 120, 58, 32, 9, 13, 10, 13, 10], rfl, by decide, bad12⟩
  · exact ⟨[72, 84, 84, 80, 47, 49, 46, 49, 32, 50, 48, 48, 32, 45, 13, 10, 99, 111, 110, 116, 101, 110, 116, 45, 108, 101, 110, 103, 116, 104, 58, 32, 120, 13, 10, 13, 10], rfl, by decide, bad13⟩
  · exact ⟨[72, 84, 84, 80, 47, 49, 46, 49, 32, 50, 48, 48, 32, 45, 13, 10, 99, 111, 110, 116, 101, 110, 116, 45, 108, 101, 110, 103, 116, 104, 58, 32, 49, 50, 51, 52, 53, 54, 55, 13, 10, 13, 10], rfl, by decide, bad14⟩
  · exact ⟨[72, 84, 84, 80, 47, 49, 46, 49, 32, 50, 48, 48, 32, 45, 13, 10, 99, 111, 110, 116, 101, 110, 116, 45, 108, 101, 110, 103, 116, 104, 58, 32, 49, 13, 10, 67, 111, 110, 116, 101, 110, 116, 45, 76, 101, 110, 103, 116, 104, 58, 32, 49, 13, 10, 13, 10, 97], rfl, by decide, bad15⟩
  · exact ⟨[72, 84, 84, 80, 47, 49, 46, 49, 32, 50, 48, 48, 32, 45, 13, 10, 97, 58, 32, 49, 13, 10, 97, 58, 32, 49, 13, 10, 97, 58, 32, 49, 13, 10, 97, 58, 32, 49, 13, 10, 97, 58, 32, 49, 13, 10, 97, 58, 32, 49, 13, 10, 97, 58, 32, 49, 13, 10, 97, 58, 32, 49, 13, 10, 97, 58, 32, 49, 13, 10, 13, 10], rfl, by decide, bad16⟩
  · exact ⟨[72, 84, 84, 80, 47, 49, 46, 49, 32, 50, 48, 48, 32, 45, 13, 10, 97, 98, 99, 100, 101, 102, 103, 104, 105, 106, 107, 108, 109, 110, 111, 112, 113, 114, 115, 116, 117, 58, 32, 49, 13, 10, 13, 10], rfl, by decide, bad17⟩
  · exact ⟨[72, 84, 84, 80, 47, 49, 46, 49, 32, 50, 48, 48, 32, 45, 13, 10, 120, 58, 32, 49, 50, 51, 52, 53, 54, 55, 56, 57, 48, 49, 50, 51, 52, 53, 54, 55, 56, 57, 48, 49, 50, 51, 52, 53, 54, 55, 56, 57, 48, 49, 50, 51, 52, 53, 54, 55, 56, 57, 48, 49, 13, 10, 13, 10], rfl, by decide, bad18⟩
theorem nums : numS [48, 48, 48, 49, 50, 51] = (123, true) ∧ (numS [49, 50, 51, 52, 53, 54, 55]).2 = false ∧ (numS []).2 = false ∧ (numS [45, 49]).2 = false := ⟨by rfl, by rfl, by rfl, by rfl⟩
theorem forms_j1 (a0 : Int) : Ev (fun k => postilionlaw09_ReplyForms.j1 k a0 false) true := by
  have b3 := Int.emod_nonneg a0 (show (19 : Int) ≠ 0 by decide)
  have c3 := Int.emod_lt_of_pos a0 (show (0 : Int) < 19 by decide)
  have e3 := within_f a0 19 (by decide) (by decide)
  obtain ⟨s, hs, hl, hp⟩ := bads_none (a0 % 19) b3 c3
  have pf := parse_f s (by omega)
  rw [hp] at pf
  obtain ⟨n1, n2, n3, n4⟩ := nums
  have f1 := number_f [48, 48, 48, 49, 50, 51]
  have f2 := number_f [49, 50, 51, 52, 53, 54, 55]
  have f3 := number_f []
  have f4 := number_f [45, 49]
  refine Ev.step (fun k => by simp only [postilionlaw09_ReplyForms.j1]; rw [if_neg (by decide)]) ?_
  refine Ev.congr (f := fun k => (reply_Parse.f k (B s)).bind fun bt194 => ((reply_Number.f k (B [48, 48, 48, 49, 50, 51])).bind fun bt201 => ((reply_Number.f k (B [49, 50, 51, 52, 53, 54, 55])).bind fun bt203 => ((reply_Number.f k (B [])).bind fun bt205 => ((reply_Number.f k (B [45, 49])).bind fun bt207 => (if bt194.2.2.2.2 = 2 then (if bt194.1 = 0 then (if (bt194.2.1.length : Int) = 0 then (if bt201.2 = true then (if bt201.1 = 123 then (if bt203.2 = true then (some false) else (if bt205.2 = true then (some false) else (if bt207.2 = true then (some false) else ((postilionlaw09_wakes.f k).bind fun t209 => (some t209))))) else (some false)) else (some false)) else (some false)) else (some false)) else (some false))))))) (fun k => ?_) ?_
  · show ((some _).bind fun y189 => _) = _
    rw [Option.bind_some]
    show ((postilionkeep_Within.f a0 19).bind fun t192 => _) = _
    rw [e3, Option.bind_some, if_pos b3, if_pos (by simp only [List.length_cons, List.length_nil]; omega), hs]
    rfl
  refine Ev.bind pf ?_
  refine Ev.bind f1 ?_
  refine Ev.bind f2 ?_
  refine Ev.bind f3 ?_
  refine Ev.bind f4 ?_
  rw [n1, n2, n3, n4]
  refine Ev.congr (fun k => by rw [if_pos (show badP.2.2.2.2 = 2 from rfl), if_pos (show badP.1 = 0 from rfl), if_pos (show ((badP.2.1.length : Nat) : Int) = 0 from rfl), if_pos rfl, if_pos rfl, if_neg (by decide), if_neg (by decide), if_neg (by decide)]) ?_
  exact Ev.bind wakes09_f (Ev.now _)
theorem ReplyForms (a0 : Int) (_w0 : (Lit.int .i64 a0).wf = true) : ∃ k, postilionlaw09_ReplyForms.f k a0 = some true := by
  refine Ev.rounds ?_
  have pa := parse_f formA (by decide)
  have pb := parse_f formB (by decide)
  rw [parseA] at pa
  rw [parseB] at pb
  have pp := print_f 404 (by decide) (by decide) false [104, 101, 108] (by decide) headsA (by decide) (by decide)
  rw [printA] at pp
  unfold postilionlaw09_ReplyForms.f
  refine Ev.bind pa ?_
  refine Ev.congr (fun k => by rw [if_pos rfl, if_pos rfl, if_pos (by rw [B_toList]), if_neg (by decide)]) ?_
  refine Ev.bind (same_f headsA (by decide)) ?_
  refine Ev.step (fun k => by simp only [postilionlaw09_ReplyForms.j0]; rw [if_neg (by decide)]) ?_
  refine Ev.bind pp ?_
  refine Ev.congr (fun k => by rw [if_pos (by rw [B_toList]; rfl)]) ?_
  refine Ev.bind pb ?_
  refine Ev.congr (fun k => by rw [if_pos rfl, if_pos rfl, if_pos rfl, if_pos (by rw [B_toList]), if_pos (by rfl), if_pos (by decide)]) ?_
  refine Ev.congr (f := fun k => postilionlaw09_ReplyForms.j1 k a0 false) (fun k => ?_) (forms_j1 a0)
  show postilionlaw09_ReplyForms.j1 k a0 ((B []).toList != ([] : List UInt8)) = _
  rw [B_toList]
  rfl
end Go.Proofs.YtllblgjhoeopjaaDoor.Pure
