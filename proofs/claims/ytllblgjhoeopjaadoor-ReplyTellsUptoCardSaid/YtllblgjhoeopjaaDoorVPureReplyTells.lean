/- What the printed functions of ReplyTells answer, in plain words. -/
import Derived.Test.YtllblgjhoeopjaaDoorVBas
import Derived.Test.YtllblgjhoeopjaaDoorVGReplyTellsx
namespace Go.Proofs.YtllblgjhoeopjaaDoor.Pure
open Go.RowKit Go.Proofs.YtllblgjhoeopjaaDoorW.PrintWords Go.Proofs.YtllblgjhoeopjaaDoorW.PrintLast Go.Proofs.YtllblgjhoeopjaaDoorW.PrintMore
open Go.Proofs.YtllblgjhoeopjaaDoor.GReplyTells Go.Proofs.YtllblgjhoeopjaaDoor.GivP Go.Proofs.YtllblgjhoeopjaaDoor.Bas Go.Proofs.YtllblgjhoeopjaaDoor.Giv
theorem within_f (a n : Int) (h : 1 ≤ n) (hn : n ≤ 4611686018427387904) : postilionkeep_Within.f a n = some (a % n) := by
  unfold postilionkeep_Within.f
  rw [if_neg (by omega), if_neg (by omega), ← tmod_emod a n h hn]
  split <;> rfl
theorem w64 {x y : Int} (h : x = y) (h1 : -9223372036854775808 ≤ x) (h2 : x ≤ 9223372036854775807) : wrap64 x = y := by
  subst h
  unfold wrap64
  omega
theorem number_l (l : List UInt8) (hl : l.length ≤ 6) : ∀ (d i : Nat) (n : Int), l.length - i = d → i ≤ l.length → 0 ≤ n → n < 10 ^ i →
    Ev (fun k => reply_Number.l0 k (B l) n (l.length : Int) (i : Int)) (if (l.drop i).all isD = true then (numV n (l.drop i), true) else (0, false)) := by
  intro d
  induction d with
  | zero =>
    intro i n hd hi h0 h1
    refine Ev.step (f := fun _ => some (n, true)) (fun k => by simp only [reply_Number.l0]; rw [if_neg (by omega)]) ?_
    rw [List.drop_eq_nil_of_le (by omega)]
    exact Ev.now _
  | succ d ih =>
    intro i n hd hi h0 h1
    have hlt : i < l.length := by omega
    have hb := bt_B l i hlt
    have hc : (l[i].toNat : Int) < 256 := by have := l[i].toNat_lt; omega
    have h6 : (10 : Int) ^ i ≤ 100000 := by
      have : i = 0 ∨ i = 1 ∨ i = 2 ∨ i = 3 ∨ i = 4 ∨ i = 5 := by omega
      rcases this with rfl | rfl | rfl | rfl | rfl | rfl <;> decide
    have hs : l.drop i = l[i] :: l.drop (i + 1) := List.drop_eq_getElem_cons hlt
    by_cases h2 : (l[i].toNat : Int) < 48
    · refine Ev.step (f := fun _ => some (0, false)) (fun k => by simp only [reply_Number.l0]; rw [if_pos (by omega), if_pos (by omega), if_pos (by rw [B_size]; omega), hb, if_pos h2]) ?_
      rw [hs, if_neg (by rw [List.all_cons, isD_no (.inl (by omega))]; simp)]
      exact Ev.now _
    · by_cases h3 : (l[i].toNat : Int) > 57
      · refine Ev.step (f := fun _ => some (0, false)) (fun k => by simp only [reply_Number.l0]; rw [if_pos (by omega), if_pos (by omega), if_pos (by rw [B_size]; omega), hb, if_neg h2, if_pos h3]) ?_
        rw [hs, if_neg (by rw [List.all_cons, isD_no (.inr (by omega))]; simp)]
        exact Ev.now _
      · have hw : wrap64 (wrap64 (10 * n) + ((l[i].toNat : Int) - 48) % 256) = 10 * n + ((l[i].toNat : Int) - 48) := by unfold wrap64; omega
        have hw2 : wrap64 ((i : Int) + 1) = ((i + 1 : Nat) : Int) := by unfold wrap64; omega
        refine Ev.step (f := fun k => reply_Number.l0 k (B l) (10 * n + ((l[i].toNat : Int) - 48)) (l.length : Int) ((i + 1 : Nat) : Int)) (fun k => by simp only [reply_Number.l0]; rw [if_pos (by omega), if_pos (by omega), if_pos (by rw [B_size]; omega), hb, if_neg h2, if_neg h3, hw, hw2]) ?_
        have := ih (i + 1) (10 * n + ((l[i].toNat : Int) - 48)) (by omega) (by omega) (by omega) (by rw [Int.pow_succ]; omega)
        rw [hs]
        have hd : isD l[i] = true := isD_yes (by omega) (by omega)
        simp only [List.all_cons, hd, Bool.true_and]
        exact this
theorem number_f (l : List UInt8) : Ev (fun k => reply_Number.f k (B l)) (numS l) := by
  by_cases h1 : l.length < 1
  · refine Ev.congr (f := fun k => reply_Number.j0 k (B l) true) (fun k => by unfold reply_Number.f; rw [B_size, if_pos (by omega)]) ?_
    refine Ev.step (f := fun _ => some (0, false)) (fun k => by simp only [reply_Number.j0, if_true]) ?_
    unfold numS
    rw [if_neg (by omega)]
    exact Ev.now _
  · by_cases h2 : l.length ≤ 6
    · refine Ev.congr (f := fun k => reply_Number.j0 k (B l) false) (fun k => by unfold reply_Number.f; rw [B_size, if_neg (by omega), decide_eq_false (by omega)]) ?_
      refine Ev.step (f := fun k => reply_Number.l0 k (B l) 0 (l.length : Int) ((0 : Nat) : Int)) (fun k => by simp only [reply_Number.j0]; rw [if_neg (by simp), B_size]; rfl) ?_
      have := number_l l h2 l.length 0 0 (by omega) (by omega) (by omega) (by decide)
      simp only [List.drop_zero] at this
      unfold numS
      by_cases h3 : l.all isD = true
      · rw [if_pos h3] at this
        rw [if_pos ⟨by omega, h2, h3⟩]
        exact this
      · rw [if_neg h3] at this
        rw [if_neg (fun h => h3 h.2.2)]
        exact this
    · refine Ev.congr (f := fun k => reply_Number.j0 k (B l) true) (fun k => by unfold reply_Number.f; rw [B_size, if_neg (by omega), decide_eq_true (by omega)]) ?_
      refine Ev.step (f := fun _ => some (0, false)) (fun k => by simp only [reply_Number.j0, if_true]) ?_
      unfold numS
      rw [if_neg (by omega)]
      exact Ev.now _
theorem numV_bound : ∀ (l : List UInt8) (n : Int) (i : Nat), l.all isD = true → 0 ≤ n → n < 10 ^ i → 0 ≤ numV n l ∧ numV n l < 10 ^ (i + l.length) := by
  intro l
  induction l with
  | nil => intro n i _ h0 h1; exact ⟨h0, h1⟩
  | cons c l ih =>
    intro n i h h0 h1
    rw [List.all_cons, Bool.and_eq_true] at h
    have hc : 48 ≤ c.toNat ∧ c.toNat ≤ 57 := by
      have := h.1
      unfold isD at this
      simpa using this
    have := ih (10 * n + ((c.toNat : Int) - 48)) (i + 1) h.2 (by omega) (by rw [Int.pow_succ]; omega)
    rw [show i + 1 + l.length = i + (c :: l).length by simp; omega] at this
    exact this
theorem numS_bound (l : List UInt8) : 0 ≤ (numS l).1 ∧ (numS l).1 < 1000000 := by
  unfold numS
  split
  · rename_i h
    have := numV_bound l 0 0 h.2.2 (by decide) (by decide)
    have h6 : (10 : Int) ^ (0 + l.length) ≤ 1000000 := by
      have : l.length = 1 ∨ l.length = 2 ∨ l.length = 3 ∨ l.length = 4 ∨ l.length = 5 ∨ l.length = 6 := by omega
      rcases this with h | h | h | h | h | h <;> rw [h] <;> decide
    exact ⟨this.1, by simp only; omega⟩
  · exact ⟨by decide, by decide⟩
theorem cut_f (l m : List UInt8) (h : l.length < 4294967281) : strings_Cut.f (B l) (B m) = some (B (Lib.cut l m).1, B (Lib.cut l m).2.1, (Lib.cut l m).2.2) := by
  unfold strings_Cut.f
  rw [if_pos (by rw [B_size]; exact h), data_B, data_B]
  rfl
theorem pre_f (l m : List UInt8) : strings_CutPrefix.f (B l) (B m) = some (if m.isPrefixOf l = true then (B (l.drop m.length), true) else (B l, false)) := by
  unfold strings_CutPrefix.f stringslite_CutPrefix.f stringslite_HasPrefix.f
  rw [B_size, B_size]
  by_cases h : m.length ≤ l.length
  · rw [if_pos (by omega), if_pos (by omega), if_pos (by omega)]
    simp only [Option.bind_some]
    rw [B_extract, B_toList, B_toList]
    have e : (((l.take (m.length : Int).toNat).drop 0 == m) = true) = (m.isPrefixOf l = true) := by
      rw [List.drop_zero, beq_iff_eq, List.isPrefixOf_iff_prefix, List.prefix_iff_eq_take]
      simp only [Int.toNat_natCast]
      exact propext ⟨fun h => h.symm, fun h => h.symm⟩
    by_cases h2 : m.isPrefixOf l = true
    · rw [if_pos (by rw [e]; exact h2), if_pos (by omega), if_pos (by omega), if_pos h2, B_extract]
      simp
    · rw [if_neg (by rw [e]; exact h2), if_neg h2]
      rfl
  · rw [if_neg (by omega)]
    have h2 : ¬ m.isPrefixOf l = true := by
      rw [List.isPrefixOf_iff_prefix]
      intro hp
      exact h hp.length_le
    rw [if_neg h2]
    rfl
theorem cut1_le (l m : List UInt8) : (Lib.cut l m).1.length ≤ l.length := by
  unfold Lib.cut
  split
  · simp; omega
  · exact Nat.le_refl _
def lowerS (l : List UInt8) : List UInt8 := l.map lowerB
theorem lower_f (l : List UInt8) (h : l.length ≤ 140737488351232) : pct_Lower.f (B l) = some (B (lowerS l)) := by
  unfold pct_Lower.f
  rw [if_pos (by rw [B_size]; exact h), data_B]
  rfl
def okH (l : List S27) : Prop := l.length ≤ 140737488351232 ∧ ∀ h ∈ l, h.f0.size ≤ 140737488351232 ∧ h.f1.size ≤ 140737488351232
theorem cut2_yes (l r : List UInt8) (h : (13 : UInt8) ∉ l) : Lib.cut (l ++ 13 :: 10 :: r) [13, 10] = (l, r, true) := by
  have hi : Lib.index (l ++ 13 :: 10 :: r) [13, 10] = (l.length : Int) := by
    refine Lib.index_first (i := l.length) (by simp) ?_ fun j hj => ?_
    · unfold Lib.occAt
      simp [List.isPrefixOf]
    · unfold Lib.occAt
      rw [List.drop_append_of_le_length (by omega)]
      cases hd : l.drop j with
      | nil => have := congrArg List.length hd; simp at this; omega
      | cons b q =>
        have hb : b ∈ l := List.mem_of_mem_drop (by rw [hd]; exact List.mem_cons_self)
        have : ((13 : UInt8) == b) = false := by
          rw [beq_eq_false_iff_ne]
          intro e
          exact h (e ▸ hb)
        simp [List.isPrefixOf, this]
  unfold Lib.cut
  rw [hi, if_pos (by omega)]
  simp
theorem cut2_no (s : List UInt8) (h : ∀ a r, s = a ++ 13 :: 10 :: r → False) : Lib.cut s [13, 10] = (s, [], false) := by
  have hi : Lib.index s [13, 10] = -1 := by
    refine Lib.index_none fun j hj => ?_
    rw [Bool.eq_false_iff]
    intro ho
    unfold Lib.occAt at ho
    rw [List.isPrefixOf_iff_prefix] at ho
    obtain ⟨t, ht⟩ := ho
    refine h (s.take j) t ?_
    rw [show (13 : UInt8) :: 10 :: t = [13, 10] ++ t from rfl, ht, List.take_append_drop]
  unfold Lib.cut
  rw [hi]
  rfl
/-- A line that is cut off ahead of its end is none. -/
theorem cut2_short (l r : List UInt8) (c : Nat) (h : (13 : UInt8) ∉ l) (hc : c < l.length + 2) : Lib.cut ((l ++ 13 :: 10 :: r).take c) [13, 10] = ((l ++ 13 :: 10 :: r).take c, [], false) := by
  refine cut2_no _ fun a q e => ?_
  have hl := congrArg List.length e
  rw [List.length_take, List.length_append] at hl
  simp only [List.length_append, List.length_cons] at hl
  have ha : a.length < l.length := by omega
  have h1 : (a ++ 13 :: 10 :: q)[a.length]? = some 13 := by
    rw [List.getElem?_append_right (Nat.le_refl _), Nat.sub_self]
    rfl
  rw [← e, List.getElem?_take, if_pos (by omega), List.getElem?_append_left ha] at h1
  exact h (List.mem_of_getElem? h1)
theorem trim_f (l : List UInt8) (h : l.length ≤ 140737488351232) : strings_Trim.f (B l) (B [32]) = some (B (Lib.trimB l 32)) := by
  unfold strings_Trim.f
  rw [if_pos (by rw [B_size]; exact h), if_pos (by rw [data_B]), data_B]
  rfl
def okN (c : UInt8) : Bool := (decide (65 ≤ c.toNat) && decide (c.toNat ≤ 90)) || (decide (97 ≤ c.toNat) && decide (c.toNat ≤ 122)) || (decide (48 ≤ c.toNat) && decide (c.toNat ≤ 57)) || decide (c.toNat = 45)
theorem letter1 (c : UInt8) : Ev (fun k => head_letters.f k (B [c])) (okN c) := by
  have hb : bt (B [c]) 0 = (c.toNat : Int) := bt_B [c] 0 (by simp)
  have hz : ((B [c]).size : Int) = 1 := by rw [B_size]; rfl
  have hw : wrap64 ((0 : Int) + 1) = 1 := w64 (by omega) (by omega) (by omega)
  have e : Ev (fun k => head_letters.l0 k (B [c]) 1 1) true := Ev.step (f := fun _ => some true) (fun k => by simp only [head_letters.l0]; rw [if_neg (by omega)]) (Ev.now _)
  unfold head_letters.f
  rw [hz]
  refine Ev.step (f := fun k => if okN c = true then head_letters.l0 k (B [c]) 1 1 else some false) (fun k => ?_) ?_
  · simp only [head_letters.l0]
    rw [if_pos (by omega), if_pos (by omega), if_pos (by omega), hb, hw]
    generalize head_letters.l0 k (B [c]) 1 1 = E
    generalize hn : c.toNat = n
    have ho : okN c = ((decide (65 ≤ n) && decide (n ≤ 90)) || (decide (97 ≤ n) && decide (n ≤ 122)) || (decide (48 ≤ n) && decide (n ≤ 57)) || decide (n = 45)) := by rw [← hn]; rfl
    rw [ho]
    simp only [Bool.or_eq_true, Bool.and_eq_true, decide_eq_true_eq]
    repeat' split
    all_goals first | rfl | (exfalso; omega)
  · by_cases h : okN c = true
    · rw [h]
      simp only [if_true]
      exact e
    · rw [Bool.not_eq_true] at h
      rw [h]
      exact Ev.now _
theorem name1 (c : UInt8) : Ev (fun k => head_Name.f k (B [c])) (okN c) := by
  unfold head_Name.f
  refine Ev.congr (fun k => by rw [if_pos (by rw [B_size]; simp), if_pos (by rw [B_size]; simp)]) ?_
  exact Ev.bind (letter1 c) (Ev.now _)
theorem name_l (l : List UInt8) (hl : l.length ≤ 20) : ∀ (d i : Nat), l.length - i = d → i ≤ l.length → Ev (fun k => reply_name.l0 k (B l) (l.length : Int) (i : Int)) ((l.drop i).all okN) := by
  intro d
  induction d with
  | zero =>
    intro i hd hi
    refine Ev.step (f := fun _ => some true) (fun k => by simp only [reply_name.l0]; rw [if_neg (by omega)]) ?_
    rw [List.drop_eq_nil_of_le (by omega)]
    exact Ev.now _
  | succ d ih =>
    intro i hd hi
    have hlt : i < l.length := by omega
    have hs : l.drop i = l[i] :: l.drop (i + 1) := List.drop_eq_getElem_cons hlt
    have hw : wrap64 ((i : Int) + 1) = ((i + 1 : Nat) : Int) := w64 (by omega) (by omega) (by omega)
    have hx : (B l).extract i (i + 1) = B [l[i]] := by
      rw [B_extract, List.drop_take, hs, Nat.add_sub_cancel_left]
      rfl
    refine Ev.step (fun k => by simp only [reply_name.l0]; rw [if_pos (by omega), if_pos (by omega), hw, if_pos (by omega), if_pos (by rw [B_size]; omega), Int.toNat_natCast, Int.toNat_natCast, hx]) ?_
    refine Ev.bind (name1 l[i]) ?_
    rw [hs, List.all_cons]
    by_cases h : okN l[i] = true
    · rw [h]
      simp only [if_true, Bool.true_and]
      exact ih (i + 1) (by omega) (by omega)
    · rw [Bool.not_eq_true] at h
      rw [h]
      exact Ev.now _
def nameS (l : List UInt8) : Bool := decide (1 ≤ l.length) && decide (l.length ≤ 20) && l.all okN
theorem name_f (l : List UInt8) : Ev (fun k => reply_name.f k (B l)) (nameS l) := by
  unfold nameS
  by_cases h1 : l.length < 1
  · refine Ev.congr (f := fun k => reply_name.j0 k (B l) true) (fun k => by unfold reply_name.f; rw [B_size, if_pos (by omega)]) ?_
    rw [decide_eq_false (by omega : ¬ 1 ≤ l.length)]
    exact Ev.step (f := fun _ => some false) (fun k => by simp only [reply_name.j0, if_true]) (Ev.now _)
  · by_cases h2 : l.length ≤ 20
    · refine Ev.congr (f := fun k => reply_name.j0 k (B l) false) (fun k => by unfold reply_name.f; rw [B_size, if_neg (by omega), decide_eq_false (by omega)]) ?_
      refine Ev.step (f := fun k => reply_name.l0 k (B l) (l.length : Int) ((0 : Nat) : Int)) (fun k => by simp only [reply_name.j0]; rw [if_neg (by simp), B_size]; rfl) ?_
      have := name_l l h2 l.length 0 (by omega) (by omega)
      rw [decide_eq_true (by omega : 1 ≤ l.length), decide_eq_true h2]
      exact this
    · refine Ev.congr (f := fun k => reply_name.j0 k (B l) true) (fun k => by unfold reply_name.f; rw [B_size, if_neg (by omega), decide_eq_true (by omega)]) ?_
      rw [decide_eq_false h2, Bool.and_false]
      exact Ev.step (f := fun _ => some false) (fun k => by simp only [reply_name.j0, if_true]) (Ev.now _)
def okV (c : UInt8) : Bool := decide (32 ≤ c.toNat) && decide (c.toNat ≤ 126)
theorem value_l (l : List UInt8) (hl : l.length ≤ 40) : ∀ (d i : Nat), l.length - i = d → i ≤ l.length → Ev (fun k => reply_value.l0 k (B l) (l.length : Int) (i : Int)) ((l.drop i).all okV) := by
  intro d
  induction d with
  | zero =>
    intro i hd hi
    refine Ev.step (f := fun _ => some true) (fun k => by simp only [reply_value.l0]; rw [if_neg (by omega)]) ?_
    rw [List.drop_eq_nil_of_le (by omega)]
    exact Ev.now _
  | succ d ih =>
    intro i hd hi
    have hlt : i < l.length := by omega
    have hb := bt_B l i hlt
    have hs : l.drop i = l[i] :: l.drop (i + 1) := List.drop_eq_getElem_cons hlt
    have hw : wrap64 ((i : Int) + 1) = ((i + 1 : Nat) : Int) := w64 (by omega) (by omega) (by omega)
    rw [hs, List.all_cons]
    by_cases g1 : (l[i].toNat : Int) < 32
    · refine Ev.step (f := fun _ => some false) (fun k => by simp only [reply_value.l0]; rw [if_pos (by omega), if_pos (by omega), if_pos (by rw [B_size]; omega), hb, if_pos g1]) ?_
      have : okV l[i] = false := by unfold okV; rw [decide_eq_false (by omega)]; rfl
      rw [this]
      exact Ev.now _
    · by_cases g2 : (l[i].toNat : Int) > 126
      · refine Ev.step (f := fun _ => some false) (fun k => by simp only [reply_value.l0]; rw [if_pos (by omega), if_pos (by omega), if_pos (by rw [B_size]; omega), hb, if_neg g1, if_pos g2]) ?_
        have : okV l[i] = false := by unfold okV; rw [decide_eq_false (by omega : ¬ l[i].toNat ≤ 126), Bool.and_false]
        rw [this]
        exact Ev.now _
      · refine Ev.step (f := fun k => reply_value.l0 k (B l) (l.length : Int) ((i + 1 : Nat) : Int)) (fun k => by simp only [reply_value.l0]; rw [if_pos (by omega), if_pos (by omega), if_pos (by rw [B_size]; omega), hb, if_neg g1, if_neg g2, hw]) ?_
        have : okV l[i] = true := by unfold okV; rw [decide_eq_true (by omega), decide_eq_true (by omega)]; rfl
        rw [this, Bool.true_and]
        exact ih (i + 1) (by omega) (by omega)
def valueS (l : List UInt8) : Bool := decide (l.length ≤ 40) && l.all okV
theorem value_f (l : List UInt8) : Ev (fun k => reply_value.f k (B l)) (valueS l) := by
  unfold valueS reply_value.f
  by_cases h : l.length ≤ 40
  · refine Ev.congr (f := fun k => reply_value.l0 k (B l) (l.length : Int) ((0 : Nat) : Int)) (fun k => by rw [if_neg (by rw [B_size]; omega), B_size]; rfl) ?_
    rw [decide_eq_true h]
    exact value_l l h l.length 0 (by omega) (by omega)
  · refine Ev.congr (f := fun _ => some false) (fun k => by rw [if_pos (by rw [B_size]; omega)]) ?_
    rw [decide_eq_false h]
    exact Ev.now _
/-- A line's header: its name, its value, whether it is one. -/
def oneS (l : List UInt8) : List UInt8 × List UInt8 × Bool :=
  ((Lib.cut l [58]).1, Lib.trimB (Lib.cut l [58]).2.1 32, (Lib.cut l [58]).2.2 && nameS (Lib.cut l [58]).1 && valueS (Lib.trimB (Lib.cut l [58]).2.1 32))
theorem cut2_le (l m : List UInt8) : (Lib.cut l m).2.1.length ≤ l.length := by
  unfold Lib.cut
  split
  · simp
  · simp
theorem one_f (l : List UInt8) (h : l.length < 4294967281) : Ev (fun k => reply_one.f k (B l)) (B (oneS l).1, B (oneS l).2.1, (oneS l).2.2) := by
  unfold reply_one.f oneS
  have e1 : strings_Cut.f (B l) (⟨#[58]⟩ : ByteArray) = _ := cut_f l [58] h
  have hc := cut2_le l [58]
  simp only [e1, Option.bind_some]
  generalize Lib.cut l [58] = c at *
  have e2 : strings_Trim.f (B c.2.1) (⟨#[32]⟩ : ByteArray) = _ := trim_f c.2.1 (by omega)
  simp only [e2, Option.bind_some]
  generalize Lib.trimB c.2.1 32 = t
  by_cases g : c.2.2 = true
  · simp only [if_pos g]
    refine Ev.bind (name_f c.1) ?_
    by_cases gn : nameS c.1 = true
    · simp only [if_pos gn]
      refine Ev.bind (value_f t) ?_
      rw [g, gn]
      simp only [Bool.true_and]
      exact Ev.now _
    · simp only [if_neg gn]
      rw [Bool.not_eq_true] at gn
      rw [gn, Bool.and_false, Bool.false_and]
      exact Ev.now _
  · simp only [if_neg g]
    rw [Bool.not_eq_true] at g
    rw [g, Bool.false_and, Bool.false_and]
    exact Ev.now _
def httpL : List UInt8 := [72, 84, 84, 80, 47, 49, 46, 49, 32]
/-- The code of a first line (0: none). -/
def codeS (l : List UInt8) : Int :=
  if httpL.isPrefixOf l = true then
    (if (l.drop 9).length < 3 then 0 else if (numS ((l.drop 9).take 3)).2 = true ∧ 100 ≤ (numS ((l.drop 9).take 3)).1 ∧ (numS ((l.drop 9).take 3)).1 ≤ 599 then (numS ((l.drop 9).take 3)).1 else 0)
  else 0
theorem code_f (l : List UInt8) : Ev (fun k => reply_code.f k (B l)) (codeS l) := by
  unfold reply_code.f codeS
  have e1 : strings_CutPrefix.f (B l) (⟨#[72, 84, 84, 80, 47, 49, 46, 49, 32]⟩ : ByteArray) = _ := pre_f l httpL
  have nil_ : ∀ x, Ev (fun k => reply_code.j0 k x true) 0 := fun x => Ev.step (f := fun _ => some 0) (fun k => by simp only [reply_code.j0, if_true]) (Ev.now _)
  simp only [e1, Option.bind_some]
  by_cases hp : httpL.isPrefixOf l = true
  · simp only [if_pos hp, if_true]
    rw [show httpL.length = 9 from rfl]
    generalize l.drop 9 = r
    by_cases h3 : r.length < 3
    · rw [if_pos h3, decide_eq_true (by rw [B_size]; omega)]
      exact nil_ _
    · rw [if_neg h3, decide_eq_false (by rw [B_size]; omega)]
      refine Ev.step (fun k => by simp only [reply_code.j0]; rw [if_neg (by decide), if_pos (by omega), if_pos (by rw [B_size]; omega), B_extract, List.drop_zero]) ?_
      refine Ev.bind (number_f (r.take 3)) ?_
      generalize numS (r.take 3) = x
      refine Ev.congr (f := fun _ => some _) (fun k => ?_) (Ev.now _)
      by_cases a : x.2 = true
      · rw [if_pos a]
        by_cases b : x.1 < 100
        · rw [if_pos b, if_neg (by omega)]
        · rw [if_neg b]
          by_cases c : x.1 > 599
          · rw [if_pos c, if_neg (by omega)]
          · rw [if_neg c, if_pos ⟨a, by omega, by omega⟩]
      · rw [if_neg a, if_neg (fun h => a h.1)]
  · simp only [if_neg hp]
    exact nil_ _
/-- The lines of a text, one after the other. -/
theorem lines_none (s : List UInt8) (acc : List S27) (hz : s.length < 4294967281) (h : (Lib.cut s [13, 10]).2.2 = false) : Ev (fun k => reply_lines.l0 k (B s) acc) ([], ⟨#[]⟩, false) := by
  have e1 : strings_Cut.f (B s) (⟨#[13, 10]⟩ : ByteArray) = _ := cut_f s [13, 10] hz
  refine Ev.step (f := fun _ => some ([], ⟨#[]⟩, false)) (fun k => by simp only [reply_lines.l0, e1, Option.bind_some]; rw [if_neg (by rw [h]; decide)]) (Ev.now _)
theorem lines_end (s r : List UInt8) (acc : List S27) (hz : s.length < 4294967281) (h : Lib.cut s [13, 10] = ([], r, true)) : Ev (fun k => reply_lines.l0 k (B s) acc) (acc, B r, true) := by
  have e1 : strings_Cut.f (B s) (⟨#[13, 10]⟩ : ByteArray) = _ := cut_f s [13, 10] hz
  rw [h] at e1
  refine Ev.step (f := fun _ => some (acc, B r, true)) (fun k => by simp only [reply_lines.l0, e1, Option.bind_some, if_true]; rw [if_pos (by rw [B_toList])]) (Ev.now _)
theorem lines_bad (s l r : List UInt8) (acc : List S27) (hz : s.length < 4294967281) (h : Lib.cut s [13, 10] = (l, r, true)) (hl : l ≠ []) (hb : (oneS l).2.2 = false ∨ acc.length = 8) : Ev (fun k => reply_lines.l0 k (B s) acc) ([], ⟨#[]⟩, false) := by
  have e1 : strings_Cut.f (B s) (⟨#[13, 10]⟩ : ByteArray) = _ := cut_f s [13, 10] hz
  have hll := cut1_le s [13, 10]
  rw [h] at e1 hll
  refine Ev.step (fun k => by simp only [reply_lines.l0, e1, Option.bind_some, if_true]; rw [if_neg (by rw [B_toList]; exact hl)]) ?_
  refine Ev.bind (one_f l (by simp only at hll; omega)) ?_
  by_cases g : (oneS l).2.2 = true
  · have h8 := hb.resolve_left (by rw [g]; decide)
    refine Ev.congr (f := fun _ => some ([], ⟨#[]⟩, false)) (fun k => by simp only [if_pos g]; rw [if_pos (by omega)]) (Ev.now _)
  · refine Ev.congr (f := fun _ => some ([], ⟨#[]⟩, false)) (fun k => by simp only [if_neg g]) (Ev.now _)
theorem lines_more (s l r : List UInt8) (acc : List S27) (res : List S27 × ByteArray × Bool) (hz : s.length < 4294967281) (h : Lib.cut s [13, 10] = (l, r, true)) (hl : l ≠ []) (ho : (oneS l).2.2 = true) (h8 : acc.length < 8)
    (he : Ev (fun k => reply_lines.l0 k (B r) (acc ++ [⟨B (oneS l).1, B (oneS l).2.1⟩])) res) : Ev (fun k => reply_lines.l0 k (B s) acc) res := by
  have e1 : strings_Cut.f (B s) (⟨#[13, 10]⟩ : ByteArray) = _ := cut_f s [13, 10] hz
  have hll := cut1_le s [13, 10]
  rw [h] at e1 hll
  refine Ev.step (fun k => by simp only [reply_lines.l0, e1, Option.bind_some, if_true]; rw [if_neg (by rw [B_toList]; exact hl)]) ?_
  refine Ev.bind (one_f l (by simp only at hll; omega)) ?_
  refine Ev.congr (fun k => by simp only [if_pos ho]; rw [if_neg (by omega), if_pos (by omega)]) he
def lensS (hs : List S27) : List ByteArray := (hs.filter fun h => lowerS h.f0.data.toList == [99, 111, 110, 116, 101, 110, 116, 45, 108, 101, 110, 103, 116, 104]).map fun h => h.f1
theorem lengths_l (hs : List S27) (hl : okH hs) (h100 : hs.length ≤ 100) : ∀ (d i : Nat) (acc : List ByteArray), hs.length - i = d → i ≤ hs.length → acc.length ≤ i → Ev (fun k => reply_lengths.l0 k acc hs (hs.length : Int) (i : Int)) (acc ++ lensS (hs.drop i)) := by
  intro d
  induction d with
  | zero =>
    intro i acc hd hi ha
    refine Ev.step (f := fun _ => some acc) (fun k => by simp only [reply_lengths.l0]; rw [if_neg (by omega)]) ?_
    rw [List.drop_eq_nil_of_le (by omega)]
    simp only [lensS, List.filter_nil, List.map_nil, List.append_nil]
    exact Ev.now _
  | succ d ih =>
    intro i acc hd hi ha
    have hlt : i < hs.length := by omega
    have hcs : hs.drop i = hs[i] :: hs.drop (i + 1) := List.drop_eq_getElem_cons hlt
    have hr : rd_T27 hs (i : Int) = hs[i] := by
      unfold rd_T27
      simp [List.getD_eq_getElem?_getD, List.getElem?_eq_getElem hlt]
    have hlen := hl.1
    have hw : wrap64 ((i : Int) + 1) = ((i + 1 : Nat) : Int) := w64 (by omega) (by omega) (by omega)
    have h0 := (hl.2 hs[i] (List.getElem_mem hlt)).1
    have e0 : pct_Lower.f hs[i].f0 = some (B (lowerS hs[i].f0.data.toList)) := by
      have := lower_f hs[i].f0.data.toList (by rw [data_length]; exact h0)
      rw [B_data] at this
      exact this
    rw [hcs]
    by_cases g : lowerS hs[i].f0.data.toList = [99, 111, 110, 116, 101, 110, 116, 45, 108, 101, 110, 103, 116, 104]
    · have e2 : lensS (hs[i] :: hs.drop (i + 1)) = hs[i].f1 :: lensS (hs.drop (i + 1)) := by
        unfold lensS
        rw [List.filter_cons_of_pos (by simpa using g)]
        rfl
      refine Ev.step (f := fun k => reply_lengths.l0 k (acc ++ [hs[i].f1]) hs (hs.length : Int) ((i + 1 : Nat) : Int)) (fun k => by
        simp only [reply_lengths.l0]
        rw [if_pos (by omega), if_pos (by omega), if_pos (by omega), hr, e0]
        simp only [Option.bind_some]
        rw [B_toList, if_pos g, if_pos (by omega), hw]) ?_
      have := ih (i + 1) (acc ++ [hs[i].f1]) (by omega) (by omega) (by rw [List.length_append]; simp only [List.length_singleton]; omega)
      rw [e2]
      simpa using this
    · have e2 : lensS (hs[i] :: hs.drop (i + 1)) = lensS (hs.drop (i + 1)) := by
        unfold lensS
        rw [List.filter_cons_of_neg (by simpa using g)]
      refine Ev.step (f := fun k => reply_lengths.l0 k acc hs (hs.length : Int) ((i + 1 : Nat) : Int)) (fun k => by
        simp only [reply_lengths.l0]
        rw [if_pos (by omega), if_pos (by omega), if_pos (by omega), hr, e0]
        simp only [Option.bind_some]
        rw [B_toList, if_neg g, hw]) ?_
      have := ih (i + 1) acc (by omega) (by omega) (by omega)
      rw [e2]
      exact this
theorem lengths_f (hs : List S27) (hl : okH hs) (h100 : hs.length ≤ 100) : Ev (fun k => reply_lengths.f k hs) (lensS hs) := by
  have := lengths_l hs hl h100 hs.length 0 [] (by omega) (by omega) (by simp)
  simp only [List.nil_append, List.drop_zero] at this
  exact this
def bodyS (hs : List S27) (s : List UInt8) : ByteArray × Bool × Bool :=
  match lensS hs with
  | [] => (B s, false, true)
  | v :: r => if (numS v.data.toList).2 = true ∧ r = [] then (B (s.take (numS v.data.toList).1.toNat), decide ((s.length : Int) < (numS v.data.toList).1), true) else (⟨#[]⟩, false, false)
theorem body_f (hs : List S27) (s : List UInt8) (hl : okH hs) (h100 : hs.length ≤ 100) : Ev (fun k => reply_body.f k hs (B s)) (bodyS hs s) := by
  unfold reply_body.f
  refine Ev.bind (lengths_f hs hl h100) ?_
  unfold bodyS
  rcases lensS hs with _ | ⟨v, r⟩
  · exact Ev.congr (f := fun _ => some (B s, false, true)) (fun k => if_pos (by simp)) (Ev.now _)
  · refine Ev.congr (fun k => by rw [if_neg (by simp; omega), if_pos (by simp)]) ?_
    have hr : rdOf ByteArray.empty (v :: r) 0 = B v.data.toList := rfl
    dsimp only
    rw [hr]
    refine Ev.bind (number_f v.data.toList) ?_
    have hb := numS_bound v.data.toList
    generalize numS v.data.toList = x at *
    refine Ev.congr (f := fun _ => some _) (fun k => ?_) (Ev.now _)
    by_cases a : x.2 = true
    · by_cases b : r = []
      · subst b
        have hm : mn x.1 ((B s).size : Int) = ((min x.1.toNat s.length : Nat) : Int) := by rw [B_size]; unfold mn; split <;> omega
        rw [if_pos a, if_neg (by simp), hm, if_pos (by omega), if_pos (by rw [B_size]; omega), B_extract, if_pos ⟨a, rfl⟩]
        simp only [B_size, Int.toNat_natCast, List.drop_zero]
        by_cases hle : x.1.toNat ≤ s.length
        · rw [Nat.min_eq_left hle]
        · rw [Nat.min_eq_right (by omega), List.take_of_length_le (Nat.le_refl _), List.take_of_length_le (by omega)]
      · rw [if_pos a, if_pos (by rcases r with _ | ⟨b, r⟩; exact absurd rfl (by assumption); simp; omega), if_neg (fun h => b h.2)]
    · rw [if_neg a, if_neg (fun h => a h.1)]
theorem bad_parse (k : Nat) (x5 : ByteArray) (c : Int) (x : ByteArray) (b : Bool) : reply_Parse.j0 (k + 1) x5 true c x b = some (0, ([] : List (S27)), (⟨#[]⟩ : ByteArray), false, 2) := by
  simp only [reply_Parse.j0, if_true]
def badP : Int × List S27 × ByteArray × Bool × Int := (0, [], ⟨#[]⟩, false, 2)
/-- No first line. -/
theorem parse_none (s : List UInt8) (hz : s.length < 4294967281) (h : Lib.cut s [13, 10] = (s, [], false)) : Ev (fun k => reply_Parse.f k (B s)) badP := by
  unfold reply_Parse.f
  have e1 : strings_Cut.f (B s) (⟨#[13, 10]⟩ : ByteArray) = _ := cut_f s [13, 10] hz
  rw [h] at e1
  simp only [e1, Option.bind_some]
  refine Ev.bind (code_f s) ?_
  by_cases g : codeS s = 0
  · exact Ev.congr (fun k => if_pos g) (Ev.step (f := fun _ => some badP) (fun k => bad_parse k _ _ _ _) (Ev.now _))
  · refine Ev.congr (fun k => if_neg g) ?_
    rw [show (((B s).size : Int) == ((B s).size : Int)) = true by simp]
    exact Ev.step (f := fun _ => some badP) (fun k => bad_parse k _ _ _ _) (Ev.now _)
theorem parse_code (s l r : List UInt8) (hz : s.length < 4294967281) (h : Lib.cut s [13, 10] = (l, r, true)) (hc : codeS l = 0) : Ev (fun k => reply_Parse.f k (B s)) badP := by
  unfold reply_Parse.f
  have e1 : strings_Cut.f (B s) (⟨#[13, 10]⟩ : ByteArray) = _ := cut_f s [13, 10] hz
  rw [h] at e1
  simp only [e1, Option.bind_some]
  refine Ev.bind (code_f l) ?_
  exact Ev.congr (fun k => if_pos hc) (Ev.step (f := fun _ => some badP) (fun k => bad_parse k _ _ _ _) (Ev.now _))
theorem parse_lines (s l r : List UInt8) (res : List S27 × ByteArray × Bool) (hz : s.length < 4294967281) (h : Lib.cut s [13, 10] = (l, r, true)) (hl : l.length < s.length) (hc : codeS l ≠ 0) (he : Ev (fun k => reply_lines.f k (B r)) res) (hf : res.2.2 = false) : Ev (fun k => reply_Parse.f k (B s)) badP := by
  unfold reply_Parse.f
  have e1 : strings_Cut.f (B s) (⟨#[13, 10]⟩ : ByteArray) = _ := cut_f s [13, 10] hz
  rw [h] at e1
  simp only [e1, Option.bind_some]
  refine Ev.bind (code_f l) ?_
  refine Ev.congr (fun k => if_neg hc) ?_
  rw [show (((B l).size : Int) == ((B s).size : Int)) = false by rw [B_size, B_size]; simp; omega]
  refine Ev.step (fun k => by simp only [reply_Parse.j0]; rw [if_neg (by decide)]) ?_
  refine Ev.bind he ?_
  rw [hf]
  exact Ev.now _
theorem parse_ok (s l r q : List UInt8) (hs : List S27) (hz : s.length < 4294967281) (h : Lib.cut s [13, 10] = (l, r, true)) (hl : l.length < s.length) (hc : codeS l ≠ 0) (he : Ev (fun k => reply_lines.f k (B r)) (hs, B q, true)) (ho : okH hs) (h100 : hs.length ≤ 100) :
    Ev (fun k => reply_Parse.f k (B s)) (if (bodyS hs q).2.2 = true then (codeS l, hs, (bodyS hs q).1, (bodyS hs q).2.1, 0) else badP) := by
  unfold reply_Parse.f
  have e1 : strings_Cut.f (B s) (⟨#[13, 10]⟩ : ByteArray) = _ := cut_f s [13, 10] hz
  rw [h] at e1
  simp only [e1, Option.bind_some]
  refine Ev.bind (code_f l) ?_
  refine Ev.congr (fun k => if_neg hc) ?_
  rw [show (((B l).size : Int) == ((B s).size : Int)) = false by rw [B_size, B_size]; simp; omega]
  refine Ev.step (fun k => by simp only [reply_Parse.j0]; rw [if_neg (by decide)]) ?_
  refine Ev.bind he ?_
  simp only [if_true]
  refine Ev.bind (body_f hs q ho h100) ?_
  refine Ev.congr (f := fun _ => some _) (fun k => ?_) (Ev.now _)
  split <;> rfl
theorem same_l (l : List S27) (hl : l.length ≤ 140737488351232) : ∀ (d i : Nat), l.length - i = d → i ≤ l.length → Ev (fun k => api_Head.l0 k l l (i : Int)) true := by
  intro d
  induction d with
  | zero =>
    intro i hd hi
    exact Ev.step (f := fun _ => some true) (fun k => by simp only [api_Head.l0]; rw [if_neg (by omega)]) (Ev.now _)
  | succ d ih =>
    intro i hd hi
    have hw : wrap64 ((i : Int) + 1) = ((i + 1 : Nat) : Int) := w64 (by omega) (by omega) (by omega)
    refine Ev.step (f := fun k => api_Head.l0 k l l ((i + 1 : Nat) : Int)) (fun k => by simp only [api_Head.l0]; rw [if_pos (by omega), if_pos (by omega), if_pos (by omega), if_neg (by simp), hw]) (ih (i + 1) (by omega) (by omega))
theorem same_f (l : List S27) (hl : l.length ≤ 140737488351232) : Ev (fun k => api_Head.f k l l) true := by
  refine Ev.congr (f := fun k => api_Head.l0 k l l ((0 : Nat) : Int)) (fun k => by unfold api_Head.f; rw [if_pos rfl]; rfl) (same_l l hl l.length 0 (by omega) (by omega))
/-- Lines of headers, an empty one, a body. -/
def textL (body : List UInt8) : List (List UInt8) → List UInt8
  | [] => 13 :: 10 :: body
  | l :: ls => l ++ 13 :: 10 :: textL body ls
def headOf (l : List UInt8) : S27 := ⟨B (oneS l).1, B (oneS l).2.1⟩
def goodL (l : List UInt8) : Prop := (13 : UInt8) ∉ l ∧ l ≠ [] ∧ (oneS l).2.2 = true
theorem textL_cons (body l : List UInt8) (ls : List (List UInt8)) : (textL body (l :: ls)).length = l.length + 2 + (textL body ls).length := by
  simp only [textL, List.length_append, List.length_cons]
  omega
theorem cut_empty (r : List UInt8) : Lib.cut (13 :: 10 :: r) [13, 10] = ([], r, true) := cut2_yes [] r (by simp)
theorem lines_all (body : List UInt8) : ∀ (ls : List (List UInt8)) (acc : List S27), (∀ l ∈ ls, goodL l) → (textL body ls).length < 4294967281 → acc.length + ls.length ≤ 8 →
    Ev (fun k => reply_lines.l0 k (B (textL body ls)) acc) (acc ++ ls.map headOf, B body, true) := by
  intro ls
  induction ls with
  | nil =>
    intro acc _ hz _
    rw [List.map_nil, List.append_nil]
    exact lines_end _ body acc hz (cut_empty body)
  | cons l ls ih =>
    intro acc hg hz h8
    obtain ⟨h1, h2, h3⟩ := hg l List.mem_cons_self
    have hlen := textL_cons body l ls
    simp only [List.length_cons] at h8
    have := ih (acc ++ [headOf l]) (fun x hx => hg x (List.mem_cons_of_mem _ hx)) (by omega) (by rw [List.length_append]; simp only [List.length_singleton]; omega)
    rw [List.append_assoc, List.singleton_append] at this
    exact lines_more _ l (textL body ls) acc _ hz (cut2_yes l _ h1) h2 h3 (by omega) this
theorem lines_over (body : List UInt8) : ∀ (ls : List (List UInt8)) (acc : List S27), (∀ l ∈ ls, goodL l) → (textL body ls).length < 4294967281 → acc.length ≤ 8 → 8 < acc.length + ls.length →
    Ev (fun k => reply_lines.l0 k (B (textL body ls)) acc) ([], ⟨#[]⟩, false) := by
  intro ls
  induction ls with
  | nil =>
    intro acc _ hz _ h
    simp only [List.length_nil] at h
    omega
  | cons l ls ih =>
    intro acc hg hz h8 h9
    obtain ⟨h1, h2, h3⟩ := hg l List.mem_cons_self
    have hlen := textL_cons body l ls
    simp only [List.length_cons] at h9
    by_cases he : acc.length = 8
    · exact lines_bad _ l (textL body ls) acc hz (cut2_yes l _ h1) h2 (.inr he)
    · have := ih (acc ++ [headOf l]) (fun x hx => hg x (List.mem_cons_of_mem _ hx)) (by omega) (by rw [List.length_append]; simp only [List.length_singleton]; omega) (by rw [List.length_append]; simp only [List.length_singleton]; omega)
      exact lines_more _ l (textL body ls) acc _ hz (cut2_yes l _ h1) h2 h3 (by omega) this
theorem nameS_le {l : List UInt8} (h : nameS l = true) : l.length ≤ 20 := by
  unfold nameS at h
  simp only [Bool.and_eq_true, decide_eq_true_eq] at h
  exact h.1.2
theorem valueS_le {l : List UInt8} (h : valueS l = true) : l.length ≤ 40 := by
  unfold valueS at h
  simp only [Bool.and_eq_true, decide_eq_true_eq] at h
  exact h.1
theorem good_ok {ls : List (List UInt8)} (h : ∀ l ∈ ls, goodL l) (h8 : ls.length ≤ 100) : okH (ls.map headOf) := by
  refine ⟨by rw [List.length_map]; omega, fun x hx => ?_⟩
  obtain ⟨l, hl, rfl⟩ := List.mem_map.1 hx
  have h3 := (h l hl).2.2
  unfold oneS at h3
  simp only [Bool.and_eq_true] at h3
  have a := nameS_le h3.1.2
  have b := valueS_le h3.2
  refine ⟨?_, ?_⟩
  · show (B (oneS l).1).size ≤ _
    rw [B_size]
    unfold oneS
    simp only
    omega
  · show (B (oneS l).2.1).size ≤ _
    rw [B_size]
    unfold oneS
    simp only
    omega
theorem parse_all (l0 body : List UInt8) (ls : List (List UInt8)) (h0 : (13 : UInt8) ∉ l0) (hc : codeS l0 ≠ 0) (hg : ∀ l ∈ ls, goodL l) (h8 : ls.length ≤ 8) (hz : (l0 ++ 13 :: 10 :: textL body ls).length < 4294967281) :
    Ev (fun k => reply_Parse.f k (B (l0 ++ 13 :: 10 :: textL body ls))) (if (bodyS (ls.map headOf) body).2.2 = true then (codeS l0, ls.map headOf, (bodyS (ls.map headOf) body).1, (bodyS (ls.map headOf) body).2.1, 0) else badP) := by
  have hl : (l0 ++ 13 :: 10 :: textL body ls).length = l0.length + 2 + (textL body ls).length := textL_cons body l0 ls
  have := lines_all body ls [] hg (by omega) (by simpa using h8)
  rw [List.nil_append] at this
  exact parse_ok _ l0 (textL body ls) body _ hz (cut2_yes l0 _ h0) (by omega) hc this (good_ok hg (by omega)) (by rw [List.length_map]; omega)
theorem parse_over (l0 body : List UInt8) (ls : List (List UInt8)) (h0 : (13 : UInt8) ∉ l0) (hc : codeS l0 ≠ 0) (hg : ∀ l ∈ ls, goodL l) (h8 : 8 < ls.length) (hz : (l0 ++ 13 :: 10 :: textL body ls).length < 4294967281) :
    Ev (fun k => reply_Parse.f k (B (l0 ++ 13 :: 10 :: textL body ls))) badP := by
  have hl : (l0 ++ 13 :: 10 :: textL body ls).length = l0.length + 2 + (textL body ls).length := textL_cons body l0 ls
  exact parse_lines _ l0 (textL body ls) _ hz (cut2_yes l0 _ h0) (by omega) hc (lines_over body ls [] hg (by omega) (by simp) (by simpa using h8)) rfl
theorem wakes09_f : Ev (fun k => postilionlaw09_wakes.f k) true := by
  unfold postilionlaw09_wakes.f
  have := parse_all [72, 84, 84, 80, 47, 49, 46, 49, 32, 50, 48, 48, 32, 45] [] [] (by decide) (by decide) (fun l hl => by cases hl) (by simp) (by decide)
  have hc : codeS [72, 84, 84, 80, 47, 49, 46, 49, 32, 50, 48, 48, 32, 45] = 200 := by decide
  have hb : bodyS [] [] = (B [], false, true) := rfl
  rw [List.map_nil, hc, hb] at this
  simp only [if_true] at this
  refine Ev.bind this ?_
  refine Ev.congr (f := fun _ => some true) (fun k => ?_) (Ev.now _)
  simp [B_toList]
/-- An answer's text. -/
def headL (h : S27) : List UInt8 := h.f0.data.toList ++ 58 :: 32 :: h.f1.data.toList
def firstL (c : Int) : List UInt8 := httpL ++ Lib.itoa c ++ [32, 45]
def printS (c : Int) (hs : List S27) (body : List UInt8) : List UInt8 := firstL c ++ 13 :: 10 :: textL body (hs.map headL)
theorem B_nil : (B [] : ByteArray) = ⟨#[]⟩ := rfl
theorem print_l (c : Int) (b : Bool) (body : List UInt8) (hb : body.length ≤ 1099511627776) (hs : List S27) (hl : hs.length ≤ 1000) (hh : ∀ h ∈ hs, h.f0.size ≤ 1099511627776 ∧ h.f1.size ≤ 1099511627776) :
    ∀ (d i : Nat) (s : List UInt8), hs.length - i = d → i ≤ hs.length → s.length ≤ 1099511627776 + i * 3298534883328 →
    Ev (fun k => reply_Print.l0 k (B s) hs (hs.length : Int) (i : Int) c hs (B body) b) (B (s ++ textL body ((hs.drop i).map headL))) := by
  intro d
  induction d with
  | zero =>
    intro i s hd hi hz
    have hi2 : i ≤ 1000 := by omega
    rw [List.drop_eq_nil_of_le (by omega)]
    refine Ev.step (f := fun _ => some _) (fun k => by
      simp only [reply_Print.l0]
      rw [if_neg (by omega), if_pos (by rw [B_size]; omega), if_pos (by rw [B_size, B_size]; omega)]) ?_
    rw [show (⟨#[13, 10]⟩ : ByteArray) = B [13, 10] from rfl, B_append, B_append, List.append_assoc]
    exact Ev.now _
  | succ d ih =>
    intro i s hd hi hz
    have hlt : i < hs.length := by omega
    have hi2 : i ≤ 1000 := by omega
    have hw : wrap64 ((i : Int) + 1) = ((i + 1 : Nat) : Int) := w64 (by omega) (by omega) (by omega)
    have hr : rd_T27 hs (i : Int) = hs[i] := by
      unfold rd_T27
      simp [List.getD_eq_getElem?_getD, List.getElem?_eq_getElem hlt]
    obtain ⟨p1, p2⟩ := hh hs[i] (List.getElem_mem hlt)
    have hs1 : hs.drop i = hs[i] :: hs.drop (i + 1) := List.drop_eq_getElem_cons hlt
    generalize hs[i] = x at *
    obtain ⟨⟨n⟩, ⟨v⟩⟩ := x
    obtain ⟨n, rfl⟩ : ∃ l : List UInt8, n = l.toArray := ⟨n.toList, rfl⟩
    obtain ⟨v, rfl⟩ : ∃ l : List UInt8, v = l.toArray := ⟨v.toList, rfl⟩
    change (B n).size ≤ _ at p1
    change (B v).size ≤ _ at p2
    rw [B_size] at p1 p2
    have q1 : (B s).size + (B n).size ≤ 9223372036854775807 := by rw [B_size, B_size]; omega
    have q2 : (B s).size + (B n).size + 2 ≤ 9223372036854775807 := by rw [B_size, B_size]; omega
    have q3 : (B s).size + (B n).size + 2 + (B v).size ≤ 9223372036854775807 := by rw [B_size, B_size, B_size]; omega
    have q4 : (B s).size + (B n).size + 2 + (B v).size + 2 ≤ 9223372036854775807 := by rw [B_size, B_size, B_size]; omega
    refine Ev.step (f := fun k => reply_Print.l0 k (B (s ++ (n ++ 58 :: 32 :: v ++ [13, 10]))) hs (hs.length : Int) ((i + 1 : Nat) : Int) c hs (B body) b) (fun k => by
      simp only [reply_Print.l0]
      rw [if_pos (by omega), if_pos (by omega), if_pos (by omega), hr]
      show (if (B s).size + (B n).size ≤ 9223372036854775807 then (if (B s).size + (B n).size + 2 ≤ 9223372036854775807 then (if (B s).size + (B n).size + 2 + (B v).size ≤ 9223372036854775807 then (if (B s).size + (B n).size + 2 + (B v).size + 2 ≤ 9223372036854775807 then reply_Print.l0 k ((((B s ++ B n) ++ B [58, 32]) ++ B v) ++ B [13, 10]) hs (hs.length : Int) (wrap64 ((i : Int) + 1)) c hs (B body) b else none) else none) else none) else none) = _
      rw [if_pos q1, if_pos q2, if_pos q3, if_pos q4, hw, B_append, B_append, B_append, B_append]
      congr 2
      simp) ?_
    have := ih (i + 1) (s ++ (n ++ 58 :: 32 :: v ++ [13, 10])) (by omega) (by omega) (by
      simp only [List.length_append, List.length_cons, List.length_nil]
      omega)
    rw [hs1, List.map_cons]
    refine Ev.congr (fun k => rfl) ?_
    have e : s ++ (n ++ 58 :: 32 :: v ++ [13, 10]) ++ textL body ((hs.drop (i + 1)).map headL) = s ++ textL body (headL ⟨⟨n.toArray⟩, ⟨v.toArray⟩⟩ :: (hs.drop (i + 1)).map headL) := by
      simp [textL, headL]
    rw [← e]
    exact this
theorem itoa_len (c : Int) (h0 : 0 ≤ c) (h1 : c < 1000000) : (Lib.itoa c).length ≤ 6 := by
  have : Lib.itoa c = Lib.decDigits c.toNat := by
    unfold Lib.itoa
    rw [if_neg (by omega)]
  rw [this]
  exact Giv.dec_len 6 c.toNat (by omega)
theorem print_f (c : Int) (h0 : 0 ≤ c) (h1 : c < 1000000) (b : Bool) (body : List UInt8) (hb : body.length ≤ 1099511627776) (hs : List S27) (hl : hs.length ≤ 1000) (hh : ∀ h ∈ hs, h.f0.size ≤ 1099511627776 ∧ h.f1.size ≤ 1099511627776) :
    Ev (fun k => reply_Print.f k c hs (B body) b) (B (printS c hs body)) := by
  have hi := itoa_len c h0 h1
  unfold reply_Print.f strconv_Itoa.f
  rw [if_pos (by omega), if_pos (by omega)]
  simp only [Option.bind_some]
  have hz : (⟨(Lib.itoa c).toArray⟩ : ByteArray).size = (Lib.itoa c).length := B_size _
  rw [hz]
  refine Ev.congr (f := fun k => reply_Print.l0 k (B (firstL c ++ [13, 10])) hs (hs.length : Int) ((0 : Nat) : Int) c hs (B body) b) (fun k => ?_) ?_
  · rw [if_pos (by omega), if_pos (by omega), if_pos (by omega)]
    show reply_Print.l0 k (((B httpL ++ B (Lib.itoa c)) ++ B [32, 45]) ++ B [13, 10]) hs (hs.length : Int) 0 c hs (B body) b = _
    rw [B_append, B_append, B_append]
    rfl
  · have := print_l c b body hb hs hl hh hs.length 0 (firstL c ++ [13, 10]) (by omega) (by omega) (by
      unfold firstL
      simp only [List.length_append, List.length_cons, List.length_nil, show httpL.length = 9 from rfl]
      omega)
    rw [List.drop_zero] at this
    unfold printS
    rw [show firstL c ++ 13 :: 10 :: textL body (hs.map headL) = firstL c ++ [13, 10] ++ textL body (hs.map headL) by simp]
    exact this
def clL : List UInt8 := [67, 111, 110, 116, 101, 110, 116, 45, 76, 101, 110, 103, 116, 104]
def clens : List (List UInt8) := [clL, [99, 111, 110, 116, 101, 110, 116, 45, 108, 101, 110, 103, 116, 104], [67, 79, 78, 84, 69, 78, 84, 45, 76, 69, 78, 71, 84, 72]]
theorem trim_mid (D : List UInt8) (p q : Nat) (h1 : D = [] ∨ ∃ a r, D = a :: r ∧ a ≠ 32) (h2 : D = [] ∨ ∃ r a, D = r ++ [a] ∧ a ≠ 32) : Lib.trimB (List.replicate p 32 ++ D ++ List.replicate q 32) 32 = D := by
  have hr : Lib.trimRightB (List.replicate p 32 ++ D ++ List.replicate q 32) 32 = (if D = [] then [] else List.replicate p 32 ++ D) := by
    split
    · rename_i h
      subst h
      rw [List.append_nil, List.replicate_append_replicate]
      have := Lib.trimRightB_take (List.replicate (p + q) 32) 32 0 (Nat.zero_le _) (fun j b hj hb => by
        have := List.mem_of_getElem? hb
        exact (List.mem_replicate.1 this).2) (fun b hb _ => by omega)
      simpa using this
    · rename_i h
      obtain ⟨r, a, rfl, ha⟩ := h2.resolve_left h
      have hl : (List.replicate p 32 ++ (r ++ [a])).length = p + r.length + 1 := by simp; omega
      have := Lib.trimRightB_take (List.replicate p 32 ++ (r ++ [a]) ++ List.replicate q 32) 32 (p + r.length + 1) (by simp; omega) (fun j b hj hb => by
        rw [List.getElem?_append_right (by omega)] at hb
        have := List.mem_of_getElem? hb
        exact (List.mem_replicate.1 this).2) (fun b hb hc => by
        rw [Nat.add_sub_cancel, List.getElem?_append_left (by omega), List.getElem?_append_right (by simp)] at hc
        simp at hc
        rw [← hc]
        exact ha)
      rw [this, ← hl, List.take_left]
  unfold Lib.trimB
  rw [hr]
  split
  · rename_i h
    subst h
    rfl
  · rename_i h
    obtain ⟨a, r, rfl, ha⟩ := h1.resolve_left h
    have := Lib.trimLeftB_drop (List.replicate p 32 ++ a :: r) 32 p (by simp) (fun j b hj hb => by
      rw [List.getElem?_append_left (by simpa using hj)] at hb
      have := List.mem_of_getElem? hb
      exact (List.mem_replicate.1 this).2) (fun b hb => by
      rw [List.getElem?_append_right (by simp)] at hb
      simp at hb
      rw [← hb]
      exact ha)
    rw [this]
    have hp : (List.replicate p (32 : UInt8)).length = p := List.length_replicate
    exact List.drop_left' hp
theorem okN_58 {n : List UInt8} (h : n.all okN = true) : (58 : UInt8) ∉ n := fun hm => by
  have := List.all_eq_true.1 h 58 hm
  revert this
  decide
theorem nameS_all {n : List UInt8} (h : nameS n = true) : n.all okN = true := by
  unfold nameS at h
  rw [Bool.and_eq_true] at h
  exact h.2
theorem valueS_all {n : List UInt8} (h : valueS n = true) : n.all okV = true := by
  unfold valueS at h
  rw [Bool.and_eq_true] at h
  exact h.2
/-- A header's line: its name, a colon, blanks, its value, blanks. -/
theorem one_mid (n v : List UInt8) (p q : Nat) (hn : nameS n = true) (hv : valueS v = true) (h1 : v = [] ∨ ∃ a r, v = a :: r ∧ a ≠ 32) (h2 : v = [] ∨ ∃ r a, v = r ++ [a] ∧ a ≠ 32) :
    oneS (n ++ 58 :: (List.replicate p 32 ++ v ++ List.replicate q 32)) = (n, v, true) := by
  unfold oneS
  rw [cut_yes n _ 58 (okN_58 (nameS_all hn))]
  dsimp only
  rw [trim_mid v p q h1 h2, hn, hv]
  rfl
theorem all_13 {f : UInt8 → Bool} {n : List UInt8} (h : n.all f = true) (h13 : f 13 = false) : (13 : UInt8) ∉ n := fun hm => by
  have := List.all_eq_true.1 h 13 hm
  rw [h13] at this
  cases this
theorem good_mid (n v : List UInt8) (p q : Nat) (hn : nameS n = true) (hv : valueS v = true) (h1 : v = [] ∨ ∃ a r, v = a :: r ∧ a ≠ 32) (h2 : v = [] ∨ ∃ r a, v = r ++ [a] ∧ a ≠ 32) :
    goodL (n ++ 58 :: (List.replicate p 32 ++ v ++ List.replicate q 32)) := by
  refine ⟨fun hm => ?_, by simp, by rw [one_mid n v p q hn hv h1 h2]⟩
  rcases List.mem_append.1 hm with hm | hm
  · exact all_13 (nameS_all hn) (by decide) hm
  · rcases List.mem_cons.1 hm with hm | hm
    · revert hm; decide
    · rcases List.mem_append.1 hm with hm | hm
      · rcases List.mem_append.1 hm with hm | hm
        · have := (List.mem_replicate.1 hm).2
          revert this; decide
        · exact all_13 (valueS_all hv) (by decide) hm
      · have := (List.mem_replicate.1 hm).2
        revert this; decide
theorem headL_mid (n v : List UInt8) : n ++ 58 :: 32 :: v = n ++ 58 :: (List.replicate 1 32 ++ v ++ List.replicate 0 32) := by simp
theorem dig_ends (D : List UInt8) (h : ∀ c ∈ D, isD c = true) : (D = [] ∨ ∃ a r, D = a :: r ∧ a ≠ 32) ∧ (D = [] ∨ ∃ r a, D = r ++ [a] ∧ a ≠ 32) := by
  have hn : ∀ a ∈ D, a ≠ 32 := fun a ha e => by
    have := h a ha
    rw [e] at this
    revert this
    decide
  rcases List.eq_nil_or_concat D with rfl | ⟨r, a, rfl⟩
  · exact ⟨.inl rfl, .inl rfl⟩
  · refine ⟨?_, .inr ⟨r, a, by simp, hn a (by simp)⟩⟩
    rcases r with _ | ⟨b, r⟩
    · exact .inr ⟨a, [], by simp, hn a (by simp)⟩
    · exact .inr ⟨b, r ++ [a], by simp, hn b (by simp)⟩
theorem dig_value (D : List UInt8) (h : ∀ c ∈ D, isD c = true) (hl : D.length ≤ 40) : valueS D = true := by
  unfold valueS
  rw [decide_eq_true hl, Bool.true_and, List.all_eq_true]
  intro c hc
  have := h c hc
  unfold isD at this
  unfold okV
  simp only [Bool.and_eq_true, decide_eq_true_eq] at this ⊢
  omega
theorem code_first (c : Int) (h0 : 100 ≤ c) (h1 : c ≤ 599) : codeS (firstL c) = c ∧ (13 : UInt8) ∉ firstL c := by
  have hi : Lib.itoa c = Lib.decDigits c.toNat := by
    unfold Lib.itoa
    rw [if_neg (by omega)]
  have hd := dec_isD c.toNat
  have l3 := Giv.dec_len 3 c.toNat (by omega)
  have g3 := dec_ge 2 c.toNat (by omega)
  have hn := numS_dec c.toNat
  rw [if_pos (by omega)] at hn
  unfold firstL
  rw [hi]
  generalize Lib.decDigits c.toNat = D at *
  have hl : D.length = 3 := by omega
  refine ⟨?_, fun hm => ?_⟩
  · unfold codeS
    have hp : httpL.isPrefixOf (httpL ++ D ++ [32, 45]) = true := by
      rw [List.isPrefixOf_iff_prefix, List.append_assoc]
      exact List.prefix_append _ _
    have hdr : (httpL ++ D ++ [32, 45]).drop 9 = D ++ [32, 45] := by
      rw [List.append_assoc]
      exact List.drop_left' rfl
    rw [if_pos hp, hdr, if_neg (by rw [List.length_append]; omega), List.take_left' hl, hn]
    rw [if_pos ⟨rfl, by dsimp only; omega, by dsimp only; omega⟩]
    dsimp only
    omega
  · rcases List.mem_append.1 hm with hm | hm
    · rcases List.mem_append.1 hm with hm | hm
      · revert hm; decide
      · have := hd 13 hm
        revert this
        decide
    · revert hm; decide
theorem figures_l (l : List UInt8) (hl : l.length ≤ 6) : ∀ (d i : Nat) (n : Int), l.length - i = d → i ≤ l.length → 0 ≤ n → n < 10 ^ i →
    Ev (fun k => postilionref01_Figures.l0 k (B l) n (i : Int)) (if (l.drop i).all isD = true then (numV n (l.drop i), true) else (0, false)) := by
  intro d
  induction d with
  | zero =>
    intro i n hd hi h0 h1
    refine Ev.step (f := fun _ => some (n, true)) (fun k => by simp only [postilionref01_Figures.l0]; rw [if_neg (by rw [B_size]; omega)]) ?_
    rw [List.drop_eq_nil_of_le (by omega)]
    exact Ev.now _
  | succ d ih =>
    intro i n hd hi h0 h1
    have hlt : i < l.length := by omega
    have hb := bt_B l i hlt
    have hc : (l[i].toNat : Int) < 256 := by have := l[i].toNat_lt; omega
    have h6 : (10 : Int) ^ i ≤ 100000 := by
      have : i = 0 ∨ i = 1 ∨ i = 2 ∨ i = 3 ∨ i = 4 ∨ i = 5 := by omega
      rcases this with rfl | rfl | rfl | rfl | rfl | rfl <;> decide
    have hs : l.drop i = l[i] :: l.drop (i + 1) := List.drop_eq_getElem_cons hlt
    by_cases h2 : (l[i].toNat : Int) < 48
    · refine Ev.step (f := fun _ => some (0, false)) (fun k => by simp only [postilionref01_Figures.l0]; rw [if_pos (by rw [B_size]; omega), if_pos (by omega), hb, if_pos h2]) ?_
      rw [hs, if_neg (by rw [List.all_cons, isD_no (.inl (by omega))]; simp)]
      exact Ev.now _
    · by_cases h3 : (l[i].toNat : Int) > 57
      · refine Ev.step (f := fun _ => some (0, false)) (fun k => by simp only [postilionref01_Figures.l0]; rw [if_pos (by rw [B_size]; omega), if_pos (by omega), hb, if_neg h2, if_pos h3]) ?_
        rw [hs, if_neg (by rw [List.all_cons, isD_no (.inr (by omega))]; simp)]
        exact Ev.now _
      · have hw : wrap64 (wrap64 (10 * n) + ((l[i].toNat : Int) - 48) % 256) = 10 * n + ((l[i].toNat : Int) - 48) := by unfold wrap64; omega
        have hw2 : wrap64 ((i : Int) + 1) = ((i + 1 : Nat) : Int) := by unfold wrap64; omega
        refine Ev.step (f := fun k => postilionref01_Figures.l0 k (B l) (10 * n + ((l[i].toNat : Int) - 48)) ((i + 1 : Nat) : Int)) (fun k => by simp only [postilionref01_Figures.l0]; rw [if_pos (by rw [B_size]; omega), if_pos (by omega), hb, if_neg h2, if_neg h3, hw, hw2]) ?_
        have := ih (i + 1) (10 * n + ((l[i].toNat : Int) - 48)) (by omega) (by omega) (by omega) (by rw [Int.pow_succ]; omega)
        rw [hs]
        have hd : isD l[i] = true := isD_yes (by omega) (by omega)
        simp only [List.all_cons, hd, Bool.true_and]
        exact this
theorem figures_f (l : List UInt8) : Ev (fun k => postilionref01_Figures.f k (B l) 1 6) (numS l) := by
  by_cases h1 : l.length < 1
  · refine Ev.congr (f := fun k => postilionref01_Figures.j0 k (B l) true) (fun k => by unfold postilionref01_Figures.f; rw [B_size, if_pos (by omega)]) ?_
    refine Ev.step (f := fun _ => some (0, false)) (fun k => by simp only [postilionref01_Figures.j0, if_true]) ?_
    unfold numS
    rw [if_neg (by omega)]
    exact Ev.now _
  · by_cases h2 : l.length ≤ 6
    · refine Ev.congr (f := fun k => postilionref01_Figures.j0 k (B l) false) (fun k => by unfold postilionref01_Figures.f; rw [B_size, if_neg (by omega), decide_eq_false (by omega)]) ?_
      refine Ev.step (f := fun k => postilionref01_Figures.l0 k (B l) 0 ((0 : Nat) : Int)) (fun k => by simp only [postilionref01_Figures.j0]; rw [if_neg (by simp)]; rfl) ?_
      have := figures_l l h2 l.length 0 0 (by omega) (by omega) (by omega) (by decide)
      simp only [List.drop_zero] at this
      unfold numS
      by_cases h3 : l.all isD = true
      · rw [if_pos h3] at this
        rw [if_pos ⟨by omega, h2, h3⟩]
        exact this
      · rw [if_neg h3] at this
        rw [if_neg (fun h => h3 h.2.2)]
        exact this
    · refine Ev.congr (f := fun k => postilionref01_Figures.j0 k (B l) true) (fun k => by unfold postilionref01_Figures.f; rw [B_size, if_neg (by omega), decide_eq_true (by omega)]) ?_
      refine Ev.step (f := fun _ => some (0, false)) (fun k => by simp only [postilionref01_Figures.j0, if_true]) ?_
      unfold numS
      rw [if_neg (by omega)]
      exact Ev.now _
def untilS (c : UInt8) (l : List UInt8) : List UInt8 × List UInt8 := (l.takeWhile (· != c), l.dropWhile (· != c))
theorem until_l (l : List UInt8) (c : UInt8) (hl : l.length ≤ 140737488351232) : ∀ (d i : Nat), l.length - i = d → i ≤ l.length →
    Ev (fun k => postilionref01_until.l0 k (B l) (B [c]) (i : Int)) (B (l.take i ++ (untilS c (l.drop i)).1), B (untilS c (l.drop i)).2) := by
  intro d
  induction d with
  | zero =>
    intro i hd hi
    refine Ev.step (f := fun _ => some (B l, ⟨#[]⟩)) (fun k => by simp only [postilionref01_until.l0]; rw [if_neg (by rw [B_size]; omega)]) ?_
    rw [List.drop_eq_nil_of_le (by omega), List.take_of_length_le (by omega)]
    have e : (B (l ++ (untilS c []).1), B (untilS c []).2) = (B l, (⟨#[]⟩ : ByteArray)) := by simp [untilS]; rfl
    rw [e]
    exact Ev.now _
  | succ d ih =>
    intro i hd hi
    have hlt : i < l.length := by omega
    have hb := bt_B l i hlt
    have hc : bt (B [c]) 0 = (c.toNat : Int) := bt_B [c] 0 (by simp)
    have hs : l.drop i = l[i] :: l.drop (i + 1) := List.drop_eq_getElem_cons hlt
    have hw : wrap64 ((i : Int) + 1) = ((i + 1 : Nat) : Int) := by unfold wrap64; omega
    have hw1 : wrap64 ((0 : Int) + 1) = 1 := by unfold wrap64; decide
    have hz : ((B [c]).size : Int) = 1 := by rw [B_size]; rfl
    refine Ev.step (f := fun k => postilionref01_until.l1 k (B l) (B [c]) (i : Int) 0) (fun k => by simp only [postilionref01_until.l0]; rw [if_pos (by rw [B_size]; omega)]) ?_
    by_cases h : l[i] = c
    · refine Ev.step (f := fun _ => some (B (l.take i), B (l.drop i))) (fun k => by
        simp only [postilionref01_until.l1]
        rw [hz, if_pos (by omega), if_pos (by omega), if_pos (by rw [B_size]; omega), if_pos (by omega), hb, hc, h, if_pos rfl, if_pos (by rw [B_size]; omega), B_extract, B_extract, B_size]
        simp) ?_
      rw [hs]
      have e1 : (untilS c (l[i] :: l.drop (i + 1))).1 = [] := by simp [untilS, h]
      have e2 : (untilS c (l[i] :: l.drop (i + 1))).2 = l[i] :: l.drop (i + 1) := by simp [untilS, h]
      rw [e1, e2, List.append_nil]
      exact Ev.now _
    · refine Ev.step (f := fun k => postilionref01_until.l1 k (B l) (B [c]) (i : Int) 1) (fun k => by
        simp only [postilionref01_until.l1]
        rw [hz, if_pos (by omega), if_pos (by omega), if_pos (by rw [B_size]; omega), if_pos (by omega), hb, hc, if_neg (by
          intro e
          apply h
          apply UInt8.toNat_inj.1
          omega), hw1]) ?_
      refine Ev.step (f := fun k => postilionref01_until.l0 k (B l) (B [c]) ((i + 1 : Nat) : Int)) (fun k => by
        simp only [postilionref01_until.l1]
        rw [hz, if_neg (by omega), hw]) ?_
      have := ih (i + 1) (by omega) (by omega)
      rw [hs]
      have hb2 : (l[i] != c) = true := by simp [h]
      have e1 : (untilS c (l[i] :: l.drop (i + 1))).1 = l[i] :: (untilS c (l.drop (i + 1))).1 := List.takeWhile_cons_of_pos (p := (· != c)) hb2
      have e2 : (untilS c (l[i] :: l.drop (i + 1))).2 = (untilS c (l.drop (i + 1))).2 := List.dropWhile_cons_of_pos (p := (· != c)) hb2
      rw [e1, e2]
      rw [List.take_succ_eq_append_getElem hlt, List.append_assoc] at this
      exact this
theorem until_f (l : List UInt8) (c : UInt8) (hl : l.length ≤ 140737488351232) : Ev (fun k => postilionref01_until.f k (B l) (B [c])) (B (untilS c l).1, B (untilS c l).2) := by
  have := until_l l c hl l.length 0 (by omega) (by omega)
  simp only [List.take_zero, List.drop_zero, List.nil_append] at this
  exact this
theorem begins_f (l m : List UInt8) : postilionref01_begins.f (B l) (B m) = some (m.isPrefixOf l) := by
  unfold postilionref01_begins.f
  rw [B_size, B_size]
  by_cases h : m.length ≤ l.length
  · rw [if_pos (by omega), if_pos (by omega), if_pos (by omega)]
    rw [B_extract, B_toList, B_toList]
    have e : ((l.take (m.length : Int).toNat).drop 0 == m) = (m.isPrefixOf l) := by
      rw [Bool.eq_iff_iff, List.drop_zero, beq_iff_eq, List.isPrefixOf_iff_prefix, List.prefix_iff_eq_take]
      simp only [Int.toNat_natCast]
      exact ⟨fun h => h.symm, fun h => h.symm⟩
    rw [e]
  · rw [if_neg (by omega)]
    have h2 : ¬ m.isPrefixOf l = true := by
      rw [List.isPrefixOf_iff_prefix]
      intro hp
      exact h hp.length_le
    rw [Bool.not_eq_true] at h2
    rw [h2]
theorem until_no (c : UInt8) (l : List UInt8) (h : c ∉ l) : untilS c l = (l, []) := by
  have h1 : ∀ x ∈ l, (x != c) = true := fun x hx => by simp; rintro rfl; exact h hx
  unfold untilS
  have e1 : l.takeWhile (· != c) = l := by
    have := List.takeWhile_append_of_pos (l₂ := []) h1
    simpa using this
  have e2 : l.dropWhile (· != c) = [] := by
    have := List.dropWhile_append_of_pos (l₂ := []) h1
    simpa using this
  rw [e1, e2]
theorem until_yes (c : UInt8) (l r : List UInt8) (h : c ∉ l) : untilS c (l ++ c :: r) = (l, c :: r) := by
  have h1 : ∀ x ∈ l, (x != c) = true := fun x hx => by simp; rintro rfl; exact h hx
  unfold untilS
  rw [List.takeWhile_append_of_pos h1, List.dropWhile_append_of_pos h1]
  simp
theorem first_at (c : UInt8) (l : List UInt8) (h : c ∈ l) : ∃ a r, l = a ++ c :: r ∧ c ∉ a := by
  induction l with
  | nil => cases h
  | cons b l ih =>
    by_cases hb : b = c
    · exact ⟨[], l, by simp [hb], by simp⟩
    · obtain ⟨a, r, e, hn⟩ := ih (by rcases List.mem_cons.1 h with h | h; exact absurd h.symm hb; exact h)
      exact ⟨b :: a, r, by simp [e], by simp [hn]; exact fun e => hb e.symm⟩
/-- The span that the reference tells: the same. -/
theorem rlower_f (l : List UInt8) (h : l.length ≤ 140737488351232) : postilionref01_Lower.f (B l) = some (B (lowerS l)) := by
  unfold postilionref01_Lower.f
  rw [if_pos (by rw [B_size]; exact h), data_B]
  rfl
/-- The first line of a text, and what is behind its end. -/
def lineS : List UInt8 → Option (List UInt8 × List UInt8)
  | [] => none
  | [_] => none
  | a :: b :: s => if a = 13 ∧ b = 10 then some ([], s) else (lineS (b :: s)).map fun x => (a :: x.1, x.2)
theorem occ_succ (a : UInt8) (t m : List UInt8) (j : Nat) : Lib.occAt (a :: t) m (j + 1) = Lib.occAt t m j := rfl
theorem occ_zero (a b : UInt8) (s : List UInt8) (h : ¬ (a = 13 ∧ b = 10)) : Lib.occAt (a :: b :: s) [13, 10] 0 = false := by
  unfold Lib.occAt
  simp only [List.drop_zero, List.isPrefixOf, Bool.and_true]
  rw [Bool.eq_false_iff]
  intro h2
  rw [Bool.and_eq_true, beq_iff_eq, beq_iff_eq] at h2
  exact h ⟨h2.1.symm, h2.2.symm⟩
theorem occ_nil (j : Nat) : Lib.occAt [] [13, 10] j = false := by
  unfold Lib.occAt
  simp
theorem occ_one (a : UInt8) (j : Nat) : Lib.occAt [a] [13, 10] j = false := by
  rcases j with _ | j
  · unfold Lib.occAt
    simp [List.isPrefixOf]
  · exact occ_nil j
theorem lineS_spec : ∀ s : List UInt8, match lineS s with
    | some x => s = x.1 ++ 13 :: 10 :: x.2 ∧ ∀ j, j < x.1.length → Lib.occAt s [13, 10] j = false
    | none => ∀ j, Lib.occAt s [13, 10] j = false
  | [] => occ_nil
  | [a] => occ_one a
  | a :: b :: s => by
    have ih := lineS_spec (b :: s)
    unfold lineS
    by_cases h : a = 13 ∧ b = 10
    · rw [if_pos h]
      obtain ⟨rfl, rfl⟩ := h
      exact ⟨rfl, fun j hj => by simp at hj⟩
    · rw [if_neg h]
      have h0 := occ_zero a b s h
      rcases hl : lineS (b :: s) with _ | x
      · rw [hl] at ih
        intro j
        rcases j with _ | j
        · exact h0
        · exact ih j
      · rw [hl] at ih
        refine ⟨by show a :: b :: s = a :: (x.1 ++ 13 :: 10 :: x.2); rw [ih.1], fun j hj => ?_⟩
        rcases j with _ | j
        · exact h0
        · exact ih.2 j (by simpa using hj)
theorem cut_line_some {s l r : List UInt8} (h : lineS s = some (l, r)) : Lib.cut s [13, 10] = (l, r, true) ∧ s.length = l.length + 2 + r.length := by
  have hs := lineS_spec s
  rw [h] at hs
  obtain ⟨h1, h2⟩ := hs
  have hlen : s.length = l.length + 2 + r.length := by rw [h1]; simp; omega
  refine ⟨?_, hlen⟩
  have hi : Lib.index s [13, 10] = (l.length : Int) := by
    refine Lib.index_first (i := l.length) (by omega) ?_ h2
    unfold Lib.occAt
    rw [h1, List.drop_left]
    simp
  unfold Lib.cut
  rw [hi, if_pos (by omega), h1]
  simp
theorem cut_line_none {s : List UInt8} (h : lineS s = none) : Lib.cut s [13, 10] = (s, [], false) := by
  have hs := lineS_spec s
  rw [h] at hs
  have hi : Lib.index s [13, 10] = -1 := Lib.index_none fun j _ => hs j
  unfold Lib.cut
  rw [hi]
  rfl
def lineR (p : List UInt8) : Option (List UInt8 × List UInt8) → ByteArray × ByteArray × Bool
  | some x => (B (p ++ x.1), B x.2, true)
  | none => (⟨#[]⟩, ⟨#[]⟩, false)
theorem lineR_map (p : List UInt8) (a : UInt8) (o : Option (List UInt8 × List UInt8)) : lineR p (o.map fun x => (a :: x.1, x.2)) = lineR (p ++ [a]) o := by
  cases o <;> simp [lineR]
theorem rline_l (s : List UInt8) (hz : s.length ≤ 140737488351232) : ∀ (d i : Nat), s.length - i = d → i ≤ s.length → Ev (fun k => postilionref01_line.l0 k (B s) (i : Int)) (lineR (s.take i) (lineS (s.drop i))) := by
  intro d
  induction d with
  | zero =>
    intro i hd hi
    have hw : wrap64 ((i : Int) + 1) = ((i + 1 : Nat) : Int) := w64 (by omega) (by omega) (by omega)
    refine Ev.step (f := fun _ => some (⟨#[]⟩, ⟨#[]⟩, false)) (fun k => by simp only [postilionref01_line.l0]; rw [hw, if_neg (by rw [B_size]; omega)]) ?_
    rw [List.drop_eq_nil_of_le (by omega)]
    exact Ev.now _
  | succ d ih =>
    intro i hd hi
    have hw : wrap64 ((i : Int) + 1) = ((i + 1 : Nat) : Int) := w64 (by omega) (by omega) (by omega)
    have hw2 : wrap64 ((i : Int) + 2) = ((i + 2 : Nat) : Int) := w64 (by omega) (by omega) (by omega)
    have hlt : i < s.length := by omega
    have hs : s.drop i = s[i] :: s.drop (i + 1) := List.drop_eq_getElem_cons hlt
    have hb := bt_B s i hlt
    have ih1 := ih (i + 1) (by omega) (by omega)
    by_cases g : i + 1 < s.length
    · have hs2 : s.drop (i + 1) = s[i + 1] :: s.drop (i + 2) := List.drop_eq_getElem_cons g
      have hb2 := bt_B s (i + 1) g
      have key : ∀ h : ¬ (s[i] = 13 ∧ s[i + 1] = 10), lineR (s.take i) (lineS (s.drop i)) = lineR (s.take (i + 1)) (lineS (s.drop (i + 1))) := fun h => by
        rw [hs, hs2]
        show lineR (s.take i) (if s[i] = 13 ∧ s[i + 1] = 10 then some ([], s.drop (i + 2)) else (lineS (s[i + 1] :: s.drop (i + 2))).map fun x => (s[i] :: x.1, x.2)) = _
        rw [if_neg h, lineR_map, List.take_succ_eq_append_getElem hlt]
      by_cases g1 : s[i] = 13
      · by_cases g2 : s[i + 1] = 10
        · refine Ev.step (f := fun _ => some (B (s.take i), B (s.drop (i + 2)), true)) (fun k => by
            simp only [postilionref01_line.l0]
            rw [hw, hw2, if_pos (by rw [B_size]; omega), if_pos (by omega), if_pos (by rw [B_size]; omega), hb, hb2, g1, g2, if_pos (show ((13 : UInt8).toNat : Int) = 13 by decide), if_pos (by omega), if_pos (show ((10 : UInt8).toNat : Int) = 10 by decide), if_pos (by rw [B_size]; omega), if_pos (by omega), if_pos (by rw [B_size]; omega), B_extract, B_extract, B_size]
            simp only [Int.toNat_natCast, List.drop_zero, List.take_length]) ?_
          rw [hs, hs2]
          show Ev _ (lineR (s.take i) (if s[i] = 13 ∧ s[i + 1] = 10 then some ([], s.drop (i + 2)) else (lineS (s[i + 1] :: s.drop (i + 2))).map fun x => (s[i] :: x.1, x.2)))
          rw [if_pos ⟨g1, g2⟩]
          simp only [lineR, List.append_nil]
          exact Ev.now _
        · rw [key (fun h => g2 h.2)]
          refine Ev.step (fun k => by
            simp only [postilionref01_line.l0]
            rw [hw, if_pos (by rw [B_size]; omega), if_pos (by omega), if_pos (by rw [B_size]; omega), hb, hb2, g1, if_pos (show ((13 : UInt8).toNat : Int) = 13 by decide), if_pos (by omega), if_neg (fun e => g2 (UInt8.toNat_inj.1 (by simp; omega)))]) ih1
      · rw [key (fun h => g1 h.1)]
        refine Ev.step (fun k => by
          simp only [postilionref01_line.l0]
          rw [hw, if_pos (by rw [B_size]; omega), if_pos (by omega), if_pos (by rw [B_size]; omega), hb, if_neg (fun e => g1 (UInt8.toNat_inj.1 (by simp; omega)))]) ih1
    · refine Ev.step (f := fun _ => some (⟨#[]⟩, ⟨#[]⟩, false)) (fun k => by simp only [postilionref01_line.l0]; rw [hw, if_neg (by rw [B_size]; omega)]) ?_
      rw [hs, List.drop_eq_nil_of_le (by omega)]
      exact Ev.now _
theorem rline_f (s : List UInt8) (hz : s.length ≤ 140737488351232) : Ev (fun k => postilionref01_line.f k (B s)) (lineR [] (lineS s)) := by
  have := rline_l s hz s.length 0 (by omega) (by omega)
  rw [List.take_zero, List.drop_zero] at this
  exact this
/-- Blanks at the ends of a text. -/
theorem lead_dec (c : UInt8) : ∀ l : List UInt8, ∃ p X, l = List.replicate p c ++ X ∧ (X = [] ∨ ∃ a r, X = a :: r ∧ a ≠ c)
  | [] => ⟨0, [], rfl, .inl rfl⟩
  | a :: l => by
    by_cases h : a = c
    · subst h
      obtain ⟨p, X, h1, h2⟩ := lead_dec a l
      exact ⟨p + 1, X, by rw [List.replicate_succ, List.cons_append, ← h1], h2⟩
    · exact ⟨0, a :: l, rfl, .inr ⟨a, l, rfl, h⟩⟩
theorem blanks_dec (l : List UInt8) : ∃ p D q, l = List.replicate p 32 ++ D ++ List.replicate q 32 ∧ (D = [] ∨ ∃ a r, D = a :: r ∧ a ≠ 32) ∧ (D = [] ∨ ∃ r a, D = r ++ [a] ∧ a ≠ 32) ∧ (D = [] → q = 0) := by
  obtain ⟨p, X, rfl, hX⟩ := lead_dec 32 l
  rcases hX with rfl | ⟨a, r, rfl, ha⟩
  · exact ⟨p, [], 0, by simp, .inl rfl, .inl rfl, fun _ => rfl⟩
  · obtain ⟨q, Y, hY, hY2⟩ := lead_dec 32 (a :: r).reverse
    have hr : a :: r = Y.reverse ++ List.replicate q 32 := by
      have := congrArg List.reverse hY
      rwa [List.reverse_reverse, List.reverse_append, List.reverse_replicate] at this
    rcases hY2 with rfl | ⟨b, t, rfl, hb⟩
    · exfalso
      have hm : a ∈ List.replicate q (32 : UInt8) := by
        rw [List.reverse_nil, List.nil_append] at hr
        rw [← hr]
        exact List.mem_cons_self
      exact ha (List.mem_replicate.1 hm).2
    · have hD : (b :: t).reverse ≠ [] := by simp
      refine ⟨p, (b :: t).reverse, q, by rw [hr, List.append_assoc], .inr ?_, .inr ⟨t.reverse, b, by simp, hb⟩, fun h => absurd h hD⟩
      rcases hc : (b :: t).reverse with _ | ⟨c, s⟩
      · exact absurd hc hD
      · rw [hc, List.cons_append] at hr
        injection hr with h1 _
        exact ⟨c, s, rfl, h1 ▸ ha⟩
theorem bt_first (a : UInt8) (l : List UInt8) : bt (B (a :: l)) 0 = (a.toNat : Int) := bt_B (a :: l) 0 (by simp)
theorem bt_last (a : UInt8) (m : List UInt8) : bt (B (m ++ [a])) (m.length : Int) = (a.toNat : Int) := by
  rw [bt_B (m ++ [a]) m.length (by simp)]
  simp
theorem blanks_right (D : List UInt8) (h2 : D = [] ∨ ∃ r a, D = r ++ [a] ∧ a ≠ 32) : ∀ q : Nat, (D = [] → q = 0) → D.length + q ≤ 140737488351232 → Ev (fun k => postilionref01_blanks.l1 k (B (D ++ List.replicate q 32))) (B D) := by
  intro q
  induction q with
  | zero =>
    intro _ hz
    rw [List.replicate_zero, List.append_nil]
    rcases h2 with rfl | ⟨r, a, rfl, ha⟩
    · exact Ev.step (f := fun _ => some (B [])) (fun k => by simp only [postilionref01_blanks.l1]; rw [if_neg (by rw [B_size]; simp)]) (Ev.now _)
    · have hl : (r ++ [a]).length = r.length + 1 := by simp
      have hw : wrap64 (((B (r ++ [a])).size : Int) - 1) = (r.length : Int) := by rw [B_size, hl]; exact w64 (by omega) (by omega) (by omega)
      exact Ev.step (f := fun _ => some (B (r ++ [a]))) (fun k => by
        simp only [postilionref01_blanks.l1]
        rw [hw, if_pos (by rw [B_size, hl]; omega), if_pos (by omega), if_pos (by rw [B_size, hl]; omega), bt_last, if_neg (fun e => ha (UInt8.toNat_inj.1 (by simp; omega)))]) (Ev.now _)
  | succ q ih =>
    intro hq hz
    have hs : D ++ List.replicate (q + 1) (32 : UInt8) = (D ++ List.replicate q 32) ++ [32] := by rw [List.replicate_succ', List.append_assoc]
    have hl : ((D ++ List.replicate q (32 : UInt8)) ++ [32]).length = (D ++ List.replicate q (32 : UInt8)).length + 1 := by rw [List.length_append, List.length_singleton]
    have hl2 : (D ++ List.replicate q (32 : UInt8)).length = D.length + q := by simp
    have hw : wrap64 (((B ((D ++ List.replicate q 32) ++ [32])).size : Int) - 1) = ((D ++ List.replicate q (32 : UInt8)).length : Int) := by rw [B_size, hl]; exact w64 (by omega) (by omega) (by omega)
    rw [hs]
    refine Ev.step (f := fun k => postilionref01_blanks.l1 k (B (D ++ List.replicate q 32))) (fun k => by
      simp only [postilionref01_blanks.l1]
      rw [hw, if_pos (by rw [B_size, hl]; omega), if_pos (by omega), if_pos (by rw [B_size, hl]; omega), bt_last, if_pos (show ((32 : UInt8).toNat : Int) = 32 by decide), if_pos (by rw [B_size, hl]; omega), B_extract, Int.toNat_natCast, List.drop_zero, List.take_left]) (ih (fun h => by have := hq h; omega) (by omega))
theorem blanks_left (X : List UInt8) (h1 : X = [] ∨ ∃ a r, X = a :: r ∧ a ≠ 32) (res : ByteArray) (he : Ev (fun k => postilionref01_blanks.j1 k (B X)) res) : ∀ p : Nat, Ev (fun k => postilionref01_blanks.l0 k (B (List.replicate p 32 ++ X))) res := by
  intro p
  induction p with
  | zero =>
    rw [List.replicate_zero, List.nil_append]
    rcases h1 with rfl | ⟨a, r, rfl, ha⟩
    · exact Ev.step (fun k => by simp only [postilionref01_blanks.l0]; rw [if_neg (by rw [B_size]; simp)]) he
    · exact Ev.step (fun k => by
        simp only [postilionref01_blanks.l0]
        rw [if_pos (by rw [B_size, List.length_cons]; omega), if_pos (by rw [B_size, List.length_cons]; omega), bt_first, if_neg (fun e => ha (UInt8.toNat_inj.1 (by simp; omega)))]) he
  | succ p ih =>
    rw [List.replicate_succ, List.cons_append]
    exact Ev.step (fun k => by
      simp only [postilionref01_blanks.l0]
      rw [if_pos (by rw [B_size, List.length_cons]; omega), if_pos (by rw [B_size, List.length_cons]; omega), bt_first, if_pos (show ((32 : UInt8).toNat : Int) = 32 by decide), if_pos (by rw [B_size, List.length_cons]; omega), B_extract, B_size, List.take_length, List.drop_succ_cons, List.drop_zero]) ih
theorem blanks_f (l : List UInt8) (hz : l.length ≤ 140737488351232) : Ev (fun k => postilionref01_blanks.f k (B l)) (B (Lib.trimB l 32)) := by
  obtain ⟨p, D, q, rfl, h1, h2, h3⟩ := blanks_dec l
  rw [trim_mid D p q h1 h2]
  have hl : D.length + q ≤ 140737488351232 := by
    simp only [List.length_append, List.length_replicate] at hz
    omega
  have e1 : Ev (fun k => postilionref01_blanks.j1 k (B (D ++ List.replicate q 32))) (B D) :=
    Ev.step (fun k => by simp only [postilionref01_blanks.j1]) (blanks_right D h2 q h3 hl)
  have h1' : D ++ List.replicate q (32 : UInt8) = [] ∨ ∃ a r, D ++ List.replicate q (32 : UInt8) = a :: r ∧ a ≠ 32 := by
    rcases h1 with rfl | ⟨a, r, rfl, ha⟩
    · left
      rw [h3 rfl]
      rfl
    · exact .inr ⟨a, r ++ List.replicate q 32, rfl, ha⟩
  have := blanks_left (D ++ List.replicate q 32) h1' (B D) e1 p
  rw [← List.append_assoc] at this
  exact this
theorem trim_ends (l : List UInt8) : (Lib.trimB l 32 = [] ∨ ∃ a r, Lib.trimB l 32 = a :: r ∧ a ≠ 32) ∧ (Lib.trimB l 32 = [] ∨ ∃ r a, Lib.trimB l 32 = r ++ [a] ∧ a ≠ 32) ∧ (Lib.trimB l 32).length ≤ l.length := by
  obtain ⟨p, D, q, rfl, h1, h2, h3⟩ := blanks_dec l
  rw [trim_mid D p q h1 h2]
  exact ⟨h1, h2, by simp only [List.length_append, List.length_replicate]; omega⟩
theorem nameByte_f (c : UInt8) : postilionref01_nameByte.f (c.toNat : Int) = some (okN c) := by
  unfold postilionref01_nameByte.f okN
  generalize c.toNat = n
  repeat' split
  all_goals (congr 1; rw [Bool.eq_iff_iff]; simp only [Bool.or_eq_true, Bool.and_eq_true, decide_eq_true_eq, beq_iff_eq, true_iff]; omega)
theorem named_l (l : List UInt8) (hz : l.length ≤ 140737488351232) : ∀ (d i : Nat), l.length - i = d → i ≤ l.length → Ev (fun k => postilionref01_Named.l0 k (B l) 20 (i : Int)) (decide (1 ≤ l.length) && decide (l.length ≤ 20) && (l.drop i).all okN) := by
  intro d
  induction d with
  | zero =>
    intro i hd hi
    rw [List.drop_eq_nil_of_le (by omega), List.all_nil, Bool.and_true]
    by_cases g : 1 ≤ l.length
    · rw [decide_eq_true g, Bool.true_and]
      refine Ev.step (f := fun _ => some (decide (l.length ≤ 20))) (fun k => by
        simp only [postilionref01_Named.l0]
        rw [if_neg (by rw [B_size]; omega), if_pos (by rw [B_size]; omega)]
        congr 1
        rw [B_size, decide_eq_decide]
        omega) (Ev.now _)
    · rw [decide_eq_false g, Bool.false_and]
      exact Ev.step (f := fun _ => some false) (fun k => by
        simp only [postilionref01_Named.l0]
        rw [if_neg (by rw [B_size]; omega), if_neg (by rw [B_size]; omega)]) (Ev.now _)
  | succ d ih =>
    intro i hd hi
    have hlt : i < l.length := by omega
    have hs : l.drop i = l[i] :: l.drop (i + 1) := List.drop_eq_getElem_cons hlt
    have hb := bt_B l i hlt
    have hw : wrap64 ((i : Int) + 1) = ((i + 1 : Nat) : Int) := w64 (by omega) (by omega) (by omega)
    refine Ev.step (fun k => by simp only [postilionref01_Named.l0]; rw [if_pos (by rw [B_size]; omega), if_pos (by omega), hb, nameByte_f, hw, Option.bind_some]) ?_
    rw [hs, List.all_cons]
    by_cases h : okN l[i] = true
    · rw [h]
      simp only [if_true, Bool.true_and]
      exact ih (i + 1) (by omega) (by omega)
    · rw [Bool.not_eq_true] at h
      rw [h, Bool.false_and, Bool.and_false]
      exact Ev.now _
theorem named_f (l : List UInt8) (hz : l.length ≤ 140737488351232) : Ev (fun k => postilionref01_Named.f k (B l) 20) (nameS l) := named_l l hz l.length 0 (by omega) (by omega)
theorem valued_l (l : List UInt8) (hz : l.length ≤ 140737488351232) (h1 : l = [] ∨ ∃ a r, l = a :: r ∧ a ≠ 32) (h2 : l = [] ∨ ∃ r a, l = r ++ [a] ∧ a ≠ 32) : ∀ (d i : Nat), l.length - i = d → i ≤ l.length → Ev (fun k => postilionref01_Valued.l0 k (B l) 40 (i : Int)) (decide (l.length ≤ 40) && (l.drop i).all okV) := by
  intro d
  induction d with
  | zero =>
    intro i hd hi
    rw [List.drop_eq_nil_of_le (by omega), List.all_nil, Bool.and_true]
    by_cases g : l.length ≤ 40
    · rw [decide_eq_true g]
      rcases h1 with rfl | ⟨a, r, hl, ha⟩
      · exact Ev.step (f := fun _ => some true) (fun k => by
          simp only [postilionref01_Valued.l0]
          rw [if_neg (by rw [B_size]; omega), if_pos (by rw [B_size]; omega), if_pos (by rw [B_toList])]) (Ev.now _)
      · rcases h2 with rfl | ⟨r2, a2, hl2, ha2⟩
        · cases hl
        · have hz2 : l.length = r2.length + 1 := by rw [hl2]; simp
          have hw : wrap64 (((B l).size : Int) - 1) = (r2.length : Int) := by rw [B_size]; exact w64 (by omega) (by omega) (by omega)
          have b1 : bt (B l) 0 = (a.toNat : Int) := by rw [hl]; exact bt_first a r
          have b2 : bt (B l) (r2.length : Int) = (a2.toNat : Int) := by rw [hl2]; exact bt_last a2 r2
          exact Ev.step (f := fun _ => some true) (fun k => by
            simp only [postilionref01_Valued.l0]
            rw [if_neg (by rw [B_size]; omega), if_pos (by rw [B_size]; omega), if_neg (by rw [B_toList, hl]; simp), if_pos (by rw [B_size]; omega), b1, if_neg (fun e => ha (UInt8.toNat_inj.1 (by simp; omega))), hw, if_pos (by omega), if_pos (by rw [B_size]; omega), b2]
            congr 1
            rw [bne_iff_ne]
            intro e
            exact ha2 (UInt8.toNat_inj.1 (by simp; omega))) (Ev.now _)
    · rw [decide_eq_false g]
      exact Ev.step (f := fun _ => some false) (fun k => by
        simp only [postilionref01_Valued.l0]
        rw [if_neg (by rw [B_size]; omega), if_neg (by rw [B_size]; omega)]) (Ev.now _)
  | succ d ih =>
    intro i hd hi
    have hlt : i < l.length := by omega
    have hs : l.drop i = l[i] :: l.drop (i + 1) := List.drop_eq_getElem_cons hlt
    have hb := bt_B l i hlt
    have hw : wrap64 ((i : Int) + 1) = ((i + 1 : Nat) : Int) := w64 (by omega) (by omega) (by omega)
    rw [hs, List.all_cons]
    by_cases g1 : (l[i].toNat : Int) < 32
    · have : okV l[i] = false := by unfold okV; rw [decide_eq_false (by omega)]; rfl
      rw [this, Bool.false_and, Bool.and_false]
      exact Ev.step (f := fun _ => some false) (fun k => by simp only [postilionref01_Valued.l0]; rw [if_pos (by rw [B_size]; omega), if_pos (by omega), hb, if_pos g1]) (Ev.now _)
    · by_cases g2 : (l[i].toNat : Int) > 126
      · have : okV l[i] = false := by unfold okV; rw [decide_eq_false (by omega : ¬ l[i].toNat ≤ 126), Bool.and_false]
        rw [this, Bool.false_and, Bool.and_false]
        exact Ev.step (f := fun _ => some false) (fun k => by simp only [postilionref01_Valued.l0]; rw [if_pos (by rw [B_size]; omega), if_pos (by omega), hb, if_neg g1, if_pos g2]) (Ev.now _)
      · have : okV l[i] = true := by unfold okV; rw [decide_eq_true (by omega), decide_eq_true (by omega)]; rfl
        rw [this, Bool.true_and]
        exact Ev.step (fun k => by simp only [postilionref01_Valued.l0]; rw [if_pos (by rw [B_size]; omega), if_pos (by omega), hb, if_neg g1, if_neg g2, hw]) (ih (i + 1) (by omega) (by omega))
theorem valued_f (l : List UInt8) (hz : l.length ≤ 140737488351232) (h1 : l = [] ∨ ∃ a r, l = a :: r ∧ a ≠ 32) (h2 : l = [] ∨ ∃ r a, l = r ++ [a] ∧ a ≠ 32) : Ev (fun k => postilionref01_Valued.f k (B l) 40) (valueS l) := valued_l l hz h1 h2 l.length 0 (by omega) (by omega)
theorem figures3_f (l : List UInt8) (h : l.length = 3) : Ev (fun k => postilionref01_Figures.f k (B l) 3 3) (numS l) := by
  refine Ev.congr (f := fun k => postilionref01_Figures.j0 k (B l) false) (fun k => by unfold postilionref01_Figures.f; rw [B_size, if_neg (by omega), decide_eq_false (by omega)]) ?_
  refine Ev.step (f := fun k => postilionref01_Figures.l0 k (B l) 0 ((0 : Nat) : Int)) (fun k => by simp only [postilionref01_Figures.j0]; rw [if_neg (by simp)]; rfl) ?_
  have := figures_l l (by omega) l.length 0 0 (by omega) (by omega) (by omega) (by decide)
  simp only [List.drop_zero] at this
  unfold numS
  by_cases h3 : l.all isD = true
  · rw [if_pos h3] at this
    rw [if_pos ⟨by omega, by omega, h3⟩]
    exact this
  · rw [if_neg h3] at this
    rw [if_neg (fun h => h3 h.2.2)]
    exact this
def badQ : Int × List S27 × ByteArray × Bool × Bool := (0, [], ⟨#[]⟩, false, false)
/-- Lengths that can't be told. -/
def doomed (L : List ByteArray) : Prop := ∃ v r, L = v :: r ∧ ¬ ((numS v.data.toList).2 = true ∧ r = [])
theorem doomed_append {L M : List ByteArray} (h : doomed L) : doomed (L ++ M) := by
  obtain ⟨v, r, rfl, hn⟩ := h
  refine ⟨v, r ++ M, rfl, fun h2 => hn ⟨h2.1, ?_⟩⟩
  have := h2.2
  rw [List.append_eq_nil_iff] at this
  exact this.1
theorem doomed_body {hs : List S27} (h : doomed (lensS hs)) (q : List UInt8) : (bodyS hs q).2.2 = false := by
  obtain ⟨v, r, hl, hn⟩ := h
  unfold bodyS
  rw [hl]
  dsimp only
  rw [if_neg hn]
theorem lensS_snoc (acc : List S27) (h : S27) : lensS (acc ++ [h]) = lensS acc ++ lensS [h] := by
  unfold lensS
  rw [List.filter_append, List.map_append]
/-- What the lines of the program and of the document's reader agree on. -/
def okAcc (acc : List S27) : Prop := acc.length ≤ 8 ∧ ∀ h ∈ acc, h.f0.size ≤ 20 ∧ h.f1.size ≤ 40
theorem okAcc_okH {acc : List S27} (h : okAcc acc) : okH acc := ⟨by have := h.1; omega, fun x hx => by have := h.2 x hx; omega⟩
theorem okAcc_snoc {acc : List S27} (h : okAcc acc) (l : List UInt8) (h8 : acc.length ≠ 8) (hl : (oneS l).2.2 = true) : okAcc (acc ++ [headOf l]) := by
  refine ⟨by rw [List.length_append]; have := h.1; simp only [List.length_singleton]; omega, fun x hx => ?_⟩
  rcases List.mem_append.1 hx with hx | hx
  · exact h.2 x hx
  · rw [List.mem_singleton.1 hx]
    unfold oneS at hl
    simp only [Bool.and_eq_true] at hl
    have a := nameS_le hl.1.2
    have b := valueS_le hl.2
    refine ⟨?_, ?_⟩
    · show (B (oneS l).1).size ≤ _
      rw [B_size]
      exact a
    · show (B (oneS l).2.1).size ≤ _
      rw [B_size]
      exact b
def badL : List S27 × ByteArray × Bool := ([], ⟨#[]⟩, false)
/-- Behind lengths that can't be told nothing helps. -/
theorem lines_doomed : ∀ (n : Nat) (s : List UInt8) (acc : List S27), s.length ≤ n → s.length < 4294967281 → okAcc acc → doomed (lensS acc) →
    ∃ res, Ev (fun k => reply_lines.l0 k (B s) acc) res ∧ (res = badL ∨ ∃ hs q, res = (hs, B q, true) ∧ okAcc hs ∧ doomed (lensS hs)) := by
  intro n
  induction n with
  | zero =>
    intro s acc hn hz ho hd
    have : s = [] := List.eq_nil_of_length_eq_zero (by omega)
    subst this
    refine ⟨badL, lines_none [] acc hz (by decide), .inl rfl⟩
  | succ n ih =>
    intro s acc hn hz ho hd
    rcases hl : lineS s with _ | ⟨l, r⟩
    · exact ⟨badL, lines_none s acc hz (by rw [cut_line_none hl]), .inl rfl⟩
    · obtain ⟨hc, hlen⟩ := cut_line_some hl
      by_cases g0 : l = []
      · subst g0
        exact ⟨_, lines_end s r acc hz hc, .inr ⟨acc, r, rfl, ho, hd⟩⟩
      · by_cases g1 : (oneS l).2.2 = true ∧ acc.length ≠ 8
        · obtain ⟨res, he, hr⟩ := ih r (acc ++ [headOf l]) (by omega) (by omega) (okAcc_snoc ho l g1.2 g1.1) (by rw [lensS_snoc]; exact doomed_append hd)
          exact ⟨res, lines_more s l r acc res hz hc g0 g1.1 (by have := ho.1; omega) he, hr⟩
        · refine ⟨badL, lines_bad s l r acc hz hc g0 ?_, .inl rfl⟩
          by_cases g2 : acc.length = 8
          · exact .inr g2
          · left
            rw [← Bool.not_eq_true]
            exact fun h => g1 ⟨h, g2⟩
def clS : List UInt8 := [99, 111, 110, 116, 101, 110, 116, 45, 108, 101, 110, 103, 116, 104]
theorem lensS_one (h : S27) : lensS [h] = if lowerS h.f0.data.toList = clS then [h.f1] else [] := by
  unfold lensS
  by_cases g : lowerS h.f0.data.toList = clS
  · rw [if_pos g, List.filter_cons_of_pos (by rw [g]; rfl)]
    rfl
  · rw [if_neg g, List.filter_cons_of_neg (by
      simp only [Bool.not_eq_true]
      rw [beq_eq_false_iff_ne]
      exact g)]
    rfl
/-- What is known of the length. -/
def told (had : Bool) (n : Int) (acc : List S27) : Prop := (had = false ∧ lensS acc = []) ∨ (had = true ∧ ∃ v, lensS acc = [v] ∧ numS v.data.toList = (n, true))
theorem told_bound {had : Bool} {n : Int} {acc : List S27} (h : told had n acc) (hh : had = true) : 0 ≤ n ∧ n < 1000000 := by
  rcases h with ⟨h, _⟩ | ⟨_, v, _, hv⟩
  · rw [h] at hh; cases hh
  · have := numS_bound v.data.toList
    rw [hv] at this
    exact this
/-- A reader's end agrees with the other's. -/
def lineEnds (code : Int) (res : List S27 × ByteArray × Bool) (Q : Int × List S27 × ByteArray × Bool × Bool) : Prop :=
  (∃ hs q, res = (hs, B q, true) ∧ okAcc hs ∧ (bodyS hs q).2.2 = true ∧ Q = (code, hs, (bodyS hs q).1, (bodyS hs q).2.1, true)) ∨
  (Q = badQ ∧ (res = badL ∨ ∃ hs q, res = (hs, B q, true) ∧ okAcc hs ∧ doomed (lensS hs)))
theorem until_58 (l : List UInt8) : (((58 : UInt8) ∉ l) ∧ untilS 58 l = (l, []) ∧ (oneS l).2.2 = false) ∨ ∃ a r, l = a ++ 58 :: r ∧ (58 : UInt8) ∉ a ∧ untilS 58 l = (a, 58 :: r) ∧ oneS l = (a, Lib.trimB r 32, nameS a && valueS (Lib.trimB r 32)) := by
  by_cases h : (58 : UInt8) ∈ l
  · obtain ⟨a, r, rfl, ha⟩ := first_at 58 l h
    refine .inr ⟨a, r, rfl, ha, until_yes 58 a r ha, ?_⟩
    unfold oneS
    rw [cut_yes a r 58 ha, Bool.true_and]
  · refine .inl ⟨h, until_no 58 l h, ?_⟩
    unfold oneS
    rw [cut_no l 58 h, Bool.false_and, Bool.false_and]
theorem rlines : ∀ (n : Nat) (s : List UInt8) (acc : List S27) (had : Bool) (len code : Int), s.length ≤ n → s.length < 4294967281 → okAcc acc → told had len acc →
    ∃ res Q, Ev (fun k => reply_lines.l0 k (B s) acc) res ∧ Ev (fun k => postilionref01_ParseReply.l0 k (B s) len had code acc (⟨#[]⟩ : ByteArray) false) Q ∧ lineEnds code res Q := by
  intro n
  induction n with
  | zero =>
    intro s acc had len code hn hz ho ht
    have : s = [] := List.eq_nil_of_length_eq_zero (by omega)
    subst this
    refine ⟨badL, badQ, lines_none [] acc hz (by decide), ?_, .inr ⟨rfl, .inl rfl⟩⟩
    refine Ev.step (fun k => by simp only [postilionref01_ParseReply.l0]; exact rfl) ?_
    exact Ev.bind (rline_f [] (by simp)) (Ev.now _)
  | succ n ih =>
    intro s acc had len code hn hz ho ht
    have hr := rline_f s (by omega)
    rcases hl : lineS s with _ | ⟨l, r⟩
    · rw [hl] at hr
      refine ⟨badL, badQ, lines_none s acc hz (by rw [cut_line_none hl]), ?_, .inr ⟨rfl, .inl rfl⟩⟩
      refine Ev.step (fun k => by simp only [postilionref01_ParseReply.l0]; exact rfl) ?_
      exact Ev.bind hr (Ev.now _)
    · rw [hl] at hr
      change Ev _ (B ([] ++ l), B r, true) at hr
      rw [List.nil_append] at hr
      obtain ⟨hc, hlen⟩ := cut_line_some hl
      by_cases g0 : l = []
      · subst g0
        rcases ht with ⟨rfl, hL⟩ | ⟨rfl, v, hL, hv⟩
        · have hb : bodyS acc r = (B r, false, true) := by unfold bodyS; rw [hL]
          refine ⟨(acc, B r, true), (code, acc, B r, false, true), lines_end s r acc hz hc, ?_, .inl ⟨acc, r, rfl, ho, by rw [hb], by rw [hb]⟩⟩
          refine Ev.step (fun k => by simp only [postilionref01_ParseReply.l0]; exact rfl) ?_
          refine Ev.bind hr ?_
          exact Ev.congr (f := fun _ => some (code, acc, B r, false, true)) (fun k => by rw [if_pos rfl, if_pos (by rw [B_toList]), if_neg (by decide)]) (Ev.now _)
        · have hbd := told_bound (.inr ⟨rfl, v, hL, hv⟩ : told true len acc) rfl
          have hb : bodyS acc r = (B (r.take len.toNat), decide ((r.length : Int) < len), true) := by
            unfold bodyS
            rw [hL]
            dsimp only
            rw [hv, if_pos ⟨rfl, rfl⟩]
          have hm : mn len ((B r).size : Int) = ((min len.toNat r.length : Nat) : Int) := by rw [B_size]; unfold mn; split <;> omega
          have hx : (B r).extract 0 (min len.toNat r.length) = B (r.take len.toNat) := by
            rw [B_extract, List.drop_zero]
            rcases Nat.le_total len.toNat r.length with h | h
            · rw [Nat.min_eq_left h]
            · rw [Nat.min_eq_right h, List.take_of_length_le (Nat.le_refl _), List.take_of_length_le h]
          refine ⟨(acc, B r, true), (code, acc, B (r.take len.toNat), decide ((r.length : Int) < len), true), lines_end s r acc hz hc, ?_, .inl ⟨acc, r, rfl, ho, by rw [hb], by rw [hb]⟩⟩
          refine Ev.step (fun k => by simp only [postilionref01_ParseReply.l0]; exact rfl) ?_
          refine Ev.bind hr ?_
          refine Ev.congr (f := fun _ => some _) (fun k => ?_) (Ev.now _)
          rw [if_pos rfl, if_pos (by rw [B_toList])]
          dsimp only
          rw [if_pos trivial, hm, if_pos (by omega), if_pos (by rw [B_size]; omega), Int.toNat_natCast, hx, B_size]
      · have hq0 : ∀ Q, Ev (fun k => (postilionref01_until.f k (B l) (B [58])).bind fun bt228 => (if bt228.2.toList = ([] : List UInt8) then (some (0, ([] : List (S27)), (⟨#[]⟩ : ByteArray), false, false)) else (if 1 ≤ (bt228.2.size : Int) then ((postilionref01_blanks.f k (bt228.2.extract 1 bt228.2.size)).bind fun t230 => ((postilionref01_Named.f k bt228.1 20).bind fun t231 => (if t231 = true then ((postilionref01_Valued.f k t230 40).bind fun t232 => (if t232 = true then (postilionref01_ParseReply.j3 k (B r) len had bt228.1 t230 ((acc.length : Int) == 8) code acc ⟨#[]⟩ false) else (postilionref01_ParseReply.j3 k (B r) len had bt228.1 t230 true code acc ⟨#[]⟩ false))) else (postilionref01_ParseReply.j3 k (B r) len had bt228.1 t230 true code acc ⟨#[]⟩ false)))) else (none)))) Q →
            Ev (fun k => postilionref01_ParseReply.l0 k (B s) len had code acc (⟨#[]⟩ : ByteArray) false) Q := fun Q he => by
          refine Ev.step (fun k => by simp only [postilionref01_ParseReply.l0]; exact rfl) ?_
          refine Ev.bind hr ?_
          exact Ev.congr (fun k => by rw [if_pos rfl, if_neg (by rw [B_toList]; exact g0)]; rfl) he
        have hu := until_f l 58 (by omega)
        rcases until_58 l with ⟨_, hu2, ho2⟩ | ⟨a, v, hla, h58, hu2, ho2⟩
        · rw [hu2] at hu
          refine ⟨badL, badQ, lines_bad s l r acc hz hc g0 (.inl ho2), hq0 _ ?_, .inr ⟨rfl, .inl rfl⟩⟩
          refine Ev.bind hu ?_
          exact Ev.congr (f := fun _ => some badQ) (fun k => by rw [if_pos (by rw [B_toList])]; rfl) (Ev.now _)
        · rw [hu2] at hu
          have hal : l.length = a.length + 1 + v.length := by rw [hla]; simp; omega
          have hbl := blanks_f v (by omega)
          have hna := named_f a (by omega)
          obtain ⟨t1, t2, t3⟩ := trim_ends v
          have hva := valued_f (Lib.trimB v 32) (by omega) t1 t2
          have hX : (B (58 :: v)).extract 1 (B (58 :: v)).size = B v := by
            rw [B_extract, B_size, List.take_length, List.drop_succ_cons, List.drop_zero]
          have bad3 : Ev (fun k => postilionref01_ParseReply.j3 k (B r) len had (B a) (B (Lib.trimB v 32)) true code acc (⟨#[]⟩ : ByteArray) false) badQ :=
            Ev.step (f := fun _ => some badQ) (fun k => by simp only [postilionref01_ParseReply.j3, if_true]; rfl) (Ev.now _)
          have hq1 : ∀ Q, Ev (fun k => postilionref01_ParseReply.j3 k (B r) len had (B a) (B (Lib.trimB v 32)) (!(nameS a && valueS (Lib.trimB v 32)) || ((acc.length : Int) == 8)) code acc (⟨#[]⟩ : ByteArray) false) Q →
              Ev (fun k => postilionref01_ParseReply.l0 k (B s) len had code acc (⟨#[]⟩ : ByteArray) false) Q := fun Q he => by
            refine hq0 Q ?_
            refine Ev.bind hu ?_
            refine Ev.congr (fun k => by rw [if_neg (by rw [B_toList]; simp), if_pos (by rw [B_size, List.length_cons]; omega), hX]) ?_
            refine Ev.bind hbl ?_
            refine Ev.bind hna ?_
            by_cases gn : nameS a = true
            · rw [gn] at he ⊢
              simp only [if_true]
              refine Ev.bind hva ?_
              by_cases gv : valueS (Lib.trimB v 32) = true
              · rw [gv] at he ⊢
                simp only [if_true]
                simpa using he
              · rw [Bool.not_eq_true] at gv
                rw [gv] at he ⊢
                simpa using he
            · rw [Bool.not_eq_true] at gn
              rw [gn] at he ⊢
              simpa using he
          by_cases g1 : (nameS a && valueS (Lib.trimB v 32)) = true ∧ acc.length ≠ 8
          · obtain ⟨g1, g8⟩ := g1
            have ho3 : (oneS l).2.2 = true := by rw [ho2]; exact g1
            have hhd : headOf l = ⟨B a, B (Lib.trimB v 32)⟩ := by unfold headOf; rw [ho2]
            have ho4 := okAcc_snoc ho l g8 ho3
            have h8 := ho.1
            have hfl : (!(nameS a && valueS (Lib.trimB v 32)) || ((acc.length : Int) == 8)) = false := by
              rw [g1, Bool.not_true, Bool.false_or, beq_eq_false_iff_ne]
              omega
            rw [hfl] at hq1
            have hlow := rlower_f a (by omega)
            have hfig := figures_f (Lib.trimB v 32)
            have hls : lensS (acc ++ [headOf l]) = lensS acc ++ if lowerS a = clS then [B (Lib.trimB v 32)] else [] := by
              rw [lensS_snoc, lensS_one, hhd, data_B]
            have hmore : ∀ res, Ev (fun k => reply_lines.l0 k (B r) (acc ++ [headOf l])) res → Ev (fun k => reply_lines.l0 k (B s) acc) res := fun res he =>
              lines_more s l r acc res hz hc g0 ho3 (by omega) he
            have hj : ∀ Q, Ev (fun k => if lowerS a = clS then ((postilionref01_Figures.f k (B (Lib.trimB v 32)) 1 6).bind fun bt237 => (if bt237.2 = true then (if had = true then (some badQ) else (postilionref01_ParseReply.l0 k (B r) bt237.1 true code (acc ++ [headOf l]) ⟨#[]⟩ false)) else (some badQ))) else (postilionref01_ParseReply.l0 k (B r) len had code (acc ++ [headOf l]) ⟨#[]⟩ false)) Q →
                Ev (fun k => postilionref01_ParseReply.l0 k (B s) len had code acc (⟨#[]⟩ : ByteArray) false) Q := fun Q he => by
              refine hq1 Q ?_
              refine Ev.step (fun k => by
                simp only [postilionref01_ParseReply.j3]
                rw [if_neg (by decide), if_pos (by omega)]) ?_
              simp only [Option.bind_some, hlow, B_toList]
              rw [hhd] at he
              exact he
            by_cases gc : lowerS a = clS
            · rw [if_pos gc] at hls
              by_cases gn : (numS (Lib.trimB v 32)).2 = true
              · rcases ht with ⟨hh, hL⟩ | ⟨hh, v0, hL, hv0⟩
                · have ht2 : told true (numS (Lib.trimB v 32)).1 (acc ++ [headOf l]) := by
                    refine .inr ⟨rfl, B (Lib.trimB v 32), by rw [hls, hL]; rfl, ?_⟩
                    rw [data_B]
                    exact Prod.ext rfl gn
                  obtain ⟨res, Q, e1, e2, e3⟩ := ih r (acc ++ [headOf l]) true (numS (Lib.trimB v 32)).1 code (by omega) (by omega) ho4 ht2
                  refine ⟨res, Q, hmore res e1, hj Q ?_, e3⟩
                  refine Ev.congr (fun k => if_pos gc) ?_
                  refine Ev.bind hfig ?_
                  rw [hh]
                  refine Ev.congr (fun k => by rw [if_pos gn, if_neg (by decide)]) e2
                · have hd : doomed (lensS (acc ++ [headOf l])) := by
                    rw [hls, hL]
                    exact ⟨v0, [B (Lib.trimB v 32)], rfl, fun h => by cases h.2⟩
                  obtain ⟨res, e1, e2⟩ := lines_doomed r.length r _ (Nat.le_refl _) (by omega) ho4 hd
                  refine ⟨res, badQ, hmore res e1, hj badQ ?_, .inr ⟨rfl, e2⟩⟩
                  refine Ev.congr (fun k => if_pos gc) ?_
                  refine Ev.bind hfig ?_
                  rw [hh]
                  exact Ev.congr (f := fun _ => some badQ) (fun k => by rw [if_pos gn, if_pos rfl]) (Ev.now _)
              · have hd : doomed (lensS (acc ++ [headOf l])) := by
                  rw [hls]
                  rcases ht with ⟨hh, hL⟩ | ⟨hh, v0, hL, hv0⟩
                  · rw [hL]
                    exact ⟨B (Lib.trimB v 32), [], rfl, fun h => gn (by have := h.1; rwa [data_B] at this)⟩
                  · rw [hL]
                    exact ⟨v0, [B (Lib.trimB v 32)], rfl, fun h => by cases h.2⟩
                obtain ⟨res, e1, e2⟩ := lines_doomed r.length r _ (Nat.le_refl _) (by omega) ho4 hd
                refine ⟨res, badQ, hmore res e1, hj badQ ?_, .inr ⟨rfl, e2⟩⟩
                refine Ev.congr (fun k => if_pos gc) ?_
                refine Ev.bind hfig ?_
                exact Ev.congr (f := fun _ => some badQ) (fun k => by rw [if_neg gn]) (Ev.now _)
            · rw [if_neg gc, List.append_nil] at hls
              have ht2 : told had len (acc ++ [headOf l]) := by
                unfold told
                rw [hls]
                exact ht
              obtain ⟨res, Q, e1, e2, e3⟩ := ih r (acc ++ [headOf l]) had len code (by omega) (by omega) ho4 ht2
              exact ⟨res, Q, hmore res e1, hj Q (Ev.congr (fun k => if_neg gc) e2), e3⟩
          · have hfl : (!(nameS a && valueS (Lib.trimB v 32)) || ((acc.length : Int) == 8)) = true := by
              rw [Bool.or_eq_true, beq_iff_eq]
              by_cases g2 : acc.length = 8
              · right; omega
              · left
                rw [Bool.not_eq_true', ← Bool.not_eq_true]
                exact fun h => g1 ⟨h, g2⟩
            rw [hfl] at hq1
            refine ⟨badL, badQ, lines_bad s l r acc hz hc g0 ?_, hq1 _ bad3, .inr ⟨rfl, .inl rfl⟩⟩
            by_cases g2 : acc.length = 8
            · exact .inr g2
            · left
              rw [ho2]
              show (nameS a && valueS (Lib.trimB v 32)) = false
              rw [← Bool.not_eq_true]
              exact fun h => g1 ⟨h, g2⟩
/-- The two readers agree. -/
def agree (R : Int × List S27 × ByteArray × Bool × Int) (Q : Int × List S27 × ByteArray × Bool × Bool) : Prop :=
  (∃ c hs b t, R = (c, hs, b, t, 0) ∧ Q = (c, hs, b, t, true) ∧ hs.length ≤ 8) ∨ (R = badP ∧ Q = badQ)
theorem both_f (s : List UInt8) (hz : s.length < 4294967281) : ∃ R Q, Ev (fun k => reply_Parse.f k (B s)) R ∧ Ev (fun k => postilionref01_ParseReply.f k (B s)) Q ∧ agree R Q := by
  have hr := rline_f s (by omega)
  rcases hl : lineS s with _ | ⟨l, r⟩
  · rw [hl] at hr
    refine ⟨badP, badQ, parse_none s hz (cut_line_none hl), ?_, .inr ⟨rfl, rfl⟩⟩
    unfold postilionref01_ParseReply.f
    refine Ev.bind hr ?_
    exact Ev.congr (f := fun k => postilionref01_ParseReply.j0 k (⟨#[]⟩ : ByteArray) ⟨#[]⟩ true) (fun k => rfl) (Ev.step (f := fun _ => some badQ) (fun k => by simp only [postilionref01_ParseReply.j0, if_true]; rfl) (Ev.now _))
  · rw [hl] at hr
    change Ev _ (B ([] ++ l), B r, true) at hr
    rw [List.nil_append] at hr
    obtain ⟨hc, hlen⟩ := cut_line_some hl
    have bad0 : ∀ x y, Ev (fun k => postilionref01_ParseReply.j0 k x y true) badQ := fun x y => Ev.step (f := fun _ => some badQ) (fun k => by simp only [postilionref01_ParseReply.j0, if_true]; rfl) (Ev.now _)
    have bad1 : ∀ x y, Ev (fun k => postilionref01_ParseReply.j1 k x y true) badQ := fun x y => Ev.step (f := fun _ => some badQ) (fun k => by simp only [postilionref01_ParseReply.j1, if_true]; rfl) (Ev.now _)
    have hq : ∀ Q, Ev (fun k => if httpL.isPrefixOf l = true then postilionref01_ParseReply.j0 k (B r) (B l) (decide (((B l).size : Int) < 12)) else postilionref01_ParseReply.j0 k (B r) (B l) true) Q → Ev (fun k => postilionref01_ParseReply.f k (B s)) Q := fun Q he => by
      unfold postilionref01_ParseReply.f
      refine Ev.bind hr ?_
      refine Ev.congr (fun k => ?_) he
      have e := begins_f l httpL
      change postilionref01_begins.f (B l) (⟨#[72, 84, 84, 80, 47, 49, 46, 49, 32]⟩ : ByteArray) = _ at e
      rw [if_pos rfl, e, Option.bind_some]
    have none_ : codeS l = 0 → Ev (fun k => postilionref01_ParseReply.f k (B s)) badQ → ∃ R Q, Ev (fun k => reply_Parse.f k (B s)) R ∧ Ev (fun k => postilionref01_ParseReply.f k (B s)) Q ∧ agree R Q := fun h0 he =>
      ⟨badP, badQ, parse_code s l r hz hc h0, he, .inr ⟨rfl, rfl⟩⟩
    by_cases g1 : httpL.isPrefixOf l = true
    · by_cases g2 : (l.drop 9).length < 3
      · refine none_ (by unfold codeS; rw [if_pos g1, if_pos g2]) (hq _ ?_)
        rw [List.length_drop] at g2
        refine Ev.congr (f := fun k => postilionref01_ParseReply.j0 k (B r) (B l) true) (fun k => ?_) (bad0 _ _)
        rw [if_pos g1, decide_eq_true (by rw [B_size]; omega)]
      · have hx : (B l).extract 9 12 = B ((l.drop 9).take 3) := by
          rw [B_extract]
          congr 1
          rw [List.drop_take]
        have h3 : ((l.drop 9).take 3).length = 3 := by rw [List.length_take]; omega
        have hf := figures3_f _ h3
        have hq2 : ∀ Q, Ev (fun k => if (numS ((l.drop 9).take 3)).2 = true then (if (numS ((l.drop 9).take 3)).1 < 100 then postilionref01_ParseReply.j1 k (B r) (numS ((l.drop 9).take 3)).1 true else postilionref01_ParseReply.j1 k (B r) (numS ((l.drop 9).take 3)).1 (decide ((numS ((l.drop 9).take 3)).1 > 599))) else postilionref01_ParseReply.j1 k (B r) (numS ((l.drop 9).take 3)).1 true) Q → Ev (fun k => postilionref01_ParseReply.f k (B s)) Q := fun Q he => by
          refine hq Q ?_
          have hl12 : 12 ≤ l.length := by rw [List.length_drop] at g2; omega
          refine Ev.congr (f := fun k => postilionref01_ParseReply.j0 k (B r) (B l) false) (fun k => ?_) ?_
          · rw [if_pos g1, decide_eq_false (by rw [B_size]; omega)]
          · refine Ev.step (fun k => by
              simp only [postilionref01_ParseReply.j0]
              rw [if_neg (by decide), if_pos (by omega), if_pos (by rw [B_size]; omega), hx]) ?_
            exact Ev.bind hf he
        have hcode : codeS l = if (numS ((l.drop 9).take 3)).2 = true ∧ 100 ≤ (numS ((l.drop 9).take 3)).1 ∧ (numS ((l.drop 9).take 3)).1 ≤ 599 then (numS ((l.drop 9).take 3)).1 else 0 := by
          unfold codeS
          rw [if_pos g1, if_neg g2]
        generalize numS ((l.drop 9).take 3) = x at *
        by_cases g3 : x.2 = true ∧ 100 ≤ x.1 ∧ x.1 ≤ 599
        · rw [if_pos g3] at hcode
          obtain ⟨res, Q, e1, e2, e3⟩ := rlines r.length r [] false 0 x.1 (Nat.le_refl _) (by omega) ⟨by simp, fun h hm => by cases hm⟩ (.inl ⟨rfl, rfl⟩)
          have hQ : Ev (fun k => postilionref01_ParseReply.f k (B s)) Q := by
            refine hq2 Q ?_
            refine Ev.congr (f := fun k => postilionref01_ParseReply.j1 k (B r) x.1 false) (fun k => ?_) ?_
            · rw [if_pos g3.1, if_neg (by omega), decide_eq_false (by omega)]
            · exact Ev.step (fun k => by simp only [postilionref01_ParseReply.j1]; rw [if_neg (by decide)]) e2
          have hbad : res.2.2 = false → Ev (fun k => reply_Parse.f k (B s)) badP := fun h => parse_lines s l r res hz hc (by omega) (by omega) e1 h
          have hok : ∀ hs q, res = (hs, B q, true) → okAcc hs → Ev (fun k => reply_Parse.f k (B s)) (if (bodyS hs q).2.2 = true then (codeS l, hs, (bodyS hs q).1, (bodyS hs q).2.1, 0) else badP) := fun hs q h ho => by
            rw [h] at e1
            exact parse_ok s l r q hs hz hc (by omega) (by omega) e1 (okAcc_okH ho) (by have := ho.1; omega)
          rcases e3 with ⟨hs, q, h1, h2, h3, h4⟩ | ⟨h1, h2 | ⟨hs, q, h2, h3, h4⟩⟩
          · have := hok hs q h1 h2
            rw [if_pos h3, hcode] at this
            exact ⟨_, Q, this, hQ, .inl ⟨_, _, _, _, rfl, h4, h2.1⟩⟩
          · exact ⟨badP, Q, hbad (by rw [h2]; rfl), hQ, .inr ⟨rfl, h1⟩⟩
          · have := hok hs q h2 h3
            rw [doomed_body h4, if_neg (by decide)] at this
            exact ⟨badP, Q, this, hQ, .inr ⟨rfl, h1⟩⟩
        · rw [if_neg g3] at hcode
          refine none_ hcode (hq2 _ ?_)
          refine Ev.congr (f := fun k => postilionref01_ParseReply.j1 k (B r) x.1 true) (fun k => ?_) (bad1 _ _)
          by_cases a : x.2 = true
          · rw [if_pos a]
            by_cases b : x.1 < 100
            · rw [if_pos b]
            · rw [if_neg b, decide_eq_true (by
                rcases Int.lt_or_le 599 x.1 with h | h
                · exact h
                · exact absurd ⟨a, by omega, h⟩ g3)]
          · rw [if_neg a]
    · refine none_ (by unfold codeS; rw [if_neg g1]) (hq _ ?_)
      exact Ev.congr (f := fun k => postilionref01_ParseReply.j0 k (B r) (B l) true) (fun k => if_neg g1) (bad0 _ _)
theorem rprint_l (c : Int) (b : Bool) (body : List UInt8) (hb : body.length ≤ 1099511627776) (hs : List S27) (hl : hs.length ≤ 1000) (hh : ∀ h ∈ hs, h.f0.size ≤ 1099511627776 ∧ h.f1.size ≤ 1099511627776) :
    ∀ (d i : Nat) (s : List UInt8), hs.length - i = d → i ≤ hs.length → s.length ≤ 1099511627776 + i * 3298534883328 →
    Ev (fun k => postilionref01_PrintReply.l0 k (B s) hs (hs.length : Int) (i : Int) c hs (B body) b) (B (s ++ textL body ((hs.drop i).map headL))) := by
  intro d
  induction d with
  | zero =>
    intro i s hd hi hz
    have hi2 : i ≤ 1000 := by omega
    rw [List.drop_eq_nil_of_le (by omega)]
    refine Ev.step (f := fun _ => some _) (fun k => by
      simp only [postilionref01_PrintReply.l0]
      rw [if_neg (by omega), if_pos (by rw [B_size]; omega), if_pos (by rw [B_size, B_size]; omega)]) ?_
    rw [show (⟨#[13, 10]⟩ : ByteArray) = B [13, 10] from rfl, B_append, B_append, List.append_assoc]
    exact Ev.now _
  | succ d ih =>
    intro i s hd hi hz
    have hlt : i < hs.length := by omega
    have hi2 : i ≤ 1000 := by omega
    have hw : wrap64 ((i : Int) + 1) = ((i + 1 : Nat) : Int) := w64 (by omega) (by omega) (by omega)
    have hr : rd_T27 hs (i : Int) = hs[i] := by
      unfold rd_T27
      simp [List.getD_eq_getElem?_getD, List.getElem?_eq_getElem hlt]
    obtain ⟨p1, p2⟩ := hh hs[i] (List.getElem_mem hlt)
    have hs1 : hs.drop i = hs[i] :: hs.drop (i + 1) := List.drop_eq_getElem_cons hlt
    generalize hs[i] = x at *
    obtain ⟨⟨n⟩, ⟨v⟩⟩ := x
    obtain ⟨n, rfl⟩ : ∃ l : List UInt8, n = l.toArray := ⟨n.toList, rfl⟩
    obtain ⟨v, rfl⟩ : ∃ l : List UInt8, v = l.toArray := ⟨v.toList, rfl⟩
    change (B n).size ≤ _ at p1
    change (B v).size ≤ _ at p2
    rw [B_size] at p1 p2
    have q1 : (B n).size + 2 ≤ 9223372036854775807 := by rw [B_size]; omega
    have q2 : (B n).size + 2 + (B v).size ≤ 9223372036854775807 := by rw [B_size, B_size]; omega
    have q3 : (B n).size + 2 + (B v).size + 2 ≤ 9223372036854775807 := by rw [B_size, B_size]; omega
    have q4 : (B s).size + (B n).size + 2 + (B v).size + 2 ≤ 9223372036854775807 := by rw [B_size, B_size, B_size]; omega
    refine Ev.step (f := fun k => postilionref01_PrintReply.l0 k (B (s ++ (n ++ 58 :: 32 :: v ++ [13, 10]))) hs (hs.length : Int) ((i + 1 : Nat) : Int) c hs (B body) b) (fun k => by
      simp only [postilionref01_PrintReply.l0]
      rw [if_pos (by omega), if_pos (by omega), if_pos (by omega), hr]
      show (if (B n).size + 2 ≤ 9223372036854775807 then (if (B n).size + 2 + (B v).size ≤ 9223372036854775807 then (if (B n).size + 2 + (B v).size + 2 ≤ 9223372036854775807 then (if (B s).size + (B n).size + 2 + (B v).size + 2 ≤ 9223372036854775807 then postilionref01_PrintReply.l0 k (B s ++ (((B n ++ B [58, 32]) ++ B v) ++ B [13, 10])) hs (hs.length : Int) (wrap64 ((i : Int) + 1)) c hs (B body) b else none) else none) else none) else none) = _
      rw [if_pos q1, if_pos q2, if_pos q3, if_pos q4, hw, B_append, B_append, B_append, B_append]
      congr 2
      simp) ?_
    have := ih (i + 1) (s ++ (n ++ 58 :: 32 :: v ++ [13, 10])) (by omega) (by omega) (by
      simp only [List.length_append, List.length_cons, List.length_nil]
      omega)
    rw [hs1, List.map_cons]
    refine Ev.congr (fun k => rfl) ?_
    have e : s ++ (n ++ 58 :: 32 :: v ++ [13, 10]) ++ textL body ((hs.drop (i + 1)).map headL) = s ++ textL body (headL ⟨⟨n.toArray⟩, ⟨v.toArray⟩⟩ :: (hs.drop (i + 1)).map headL) := by
      simp [textL, headL]
    rw [← e]
    exact this
theorem itoa_dec (c : Int) (h0 : 0 ≤ c) : Lib.itoa c = Lib.decDigits c.toNat := by
  unfold Lib.itoa
  rw [if_neg (by omega)]
theorem rprint_f (c : Int) (h0 : 0 ≤ c) (h1 : c < 1000000) (b : Bool) (body : List UInt8) (hb : body.length ≤ 1099511627776) (hs : List S27) (hl : hs.length ≤ 1000) (hh : ∀ h ∈ hs, h.f0.size ≤ 1099511627776 ∧ h.f1.size ≤ 1099511627776) :
    Ev (fun k => postilionref01_PrintReply.f k c hs (B body) b) (B (printS c hs body)) := by
  have hi := itoa_len c h0 h1
  rw [itoa_dec c h0] at hi
  unfold postilionref01_PrintReply.f postilionref01_Digits.f
  rw [if_pos (by omega)]
  simp only [Option.bind_some]
  have hz : (⟨(Lib.decDigits c.toNat).toArray⟩ : ByteArray).size = (Lib.decDigits c.toNat).length := B_size _
  rw [hz]
  refine Ev.congr (f := fun k => postilionref01_PrintReply.l0 k (B (firstL c ++ [13, 10])) hs (hs.length : Int) ((0 : Nat) : Int) c hs (B body) b) (fun k => ?_) ?_
  · rw [if_pos (by omega), if_pos (by omega), if_pos (by omega)]
    show postilionref01_PrintReply.l0 k (((B httpL ++ B (Lib.decDigits c.toNat)) ++ B [32, 45]) ++ B [13, 10]) hs (hs.length : Int) 0 c hs (B body) b = _
    rw [B_append, B_append, B_append, ← itoa_dec c h0]
    rfl
  · have := rprint_l c b body hb hs hl hh hs.length 0 (firstL c ++ [13, 10]) (by omega) (by omega) (by
      unfold firstL
      rw [itoa_dec c h0]
      simp only [List.length_append, List.length_cons, List.length_nil, show httpL.length = 9 from rfl]
      omega)
    rw [List.drop_zero] at this
    unfold printS
    rw [show firstL c ++ 13 :: 10 :: textL body (hs.map headL) = firstL c ++ [13, 10] ++ textL body (hs.map headL) by simp]
    exact this
theorem bytes_l (x : Int) (n : Nat) (hn : n ≤ 140737488351232) : ∀ (d i : Nat) (xs : List Int), n - i = d → i ≤ n → xs.length = n →
    ∃ ys : List Int, ys.length = n ∧ Ev (fun k => postilionplay_Bytes.l0 k x xs (n : Int) (i : Int)) ys := by
  intro d
  induction d with
  | zero =>
    intro i xs hd hi hx
    exact ⟨xs, hx, Ev.step (f := fun _ => some xs) (fun k => by simp only [postilionplay_Bytes.l0]; rw [if_neg (by omega)]) (Ev.now _)⟩
  | succ d ih =>
    intro i xs hd hi hx
    have hw : wrap64 ((i : Int) + 1) = ((i + 1 : Nat) : Int) := by unfold wrap64; omega
    obtain ⟨ys, hy, he⟩ := ih (i + 1) (xs.set (i : Int).toNat ((wrap64 (x + (wrap64 ((i : Int) * (Go.bits .or .i64 (wrap64 (Int.tdiv x 5)) 1))))) % 256)) (by omega) (by omega) (by rw [List.length_set]; exact hx)
    exact ⟨ys, hy, Ev.step (f := fun k => postilionplay_Bytes.l0 k x _ (n : Int) ((i + 1 : Nat) : Int)) (fun k => by simp only [postilionplay_Bytes.l0]; rw [if_pos (by omega), if_pos (by omega), if_pos (by omega), hw]) he⟩
theorem bytes_f (x : Int) (n : Nat) (hn : n ≤ 140737488351232) : ∃ ys : List Int, ys.length = n ∧ Ev (fun k => postilionplay_Bytes.f k x (n : Int)) ys := by
  have hm : mx (n : Int) 0 = n := by unfold mx; omega
  obtain ⟨ys, hy, he⟩ := bytes_l x n hn n 0 (List.replicate n 0) (by omega) (by omega) (by simp)
  refine ⟨ys, hy, Ev.congr (f := fun k => postilionplay_Bytes.l0 k x (List.replicate n 0) (n : Int) ((0 : Nat) : Int)) (fun k => ?_) he⟩
  unfold postilionplay_Bytes.f
  rw [hm, if_pos (by omega), if_pos (by omega), Option.bind_some, List.length_replicate]
  rfl
def small (h : ByteArray × ByteArray) : Prop := h.1.size ≤ 100 ∧ h.2.size ≤ 100
def smallH (l : List S27) : Prop := ∀ h ∈ l, h.f0.size ≤ 100 ∧ h.f1.size ≤ 100
def smallB (l : List S27) : Bool := l.all fun h => decide (h.f0.size ≤ 100) && decide (h.f1.size ≤ 100)
theorem smallB_at {l : List S27} (h : smallB l = true) (i : Int) : small ((rd_T27 l i).f0, (rd_T27 l i).f1) := by
  unfold rd_T27
  rw [List.getD_eq_getElem?_getD]
  rcases hq : l[i.toNat]? with _ | x
  · exact ⟨by decide, by decide⟩
  · have := List.all_eq_true.1 h x (List.mem_of_getElem? hq)
    simpa [small] using this
theorem head_play (n : Int) : ∃ h : ByteArray × ByteArray, postilionplay_head.f n (⟨#[]⟩ : ByteArray) = some h ∧ small h := by
  unfold postilionplay_head.f
  simp only [Option.bind_some]
  generalize hy : ([_, _, _, _, _, _, _, _, _, _, _, _, _, _, _, _, _, _, _, _, _, _, _, _] : List S27) = y
  have hl : y.length = 24 := by rw [← hy]; rfl
  have hs : smallB y = true := by rw [← hy]; decide
  rw [hl]
  have b := Int.emod_nonneg n (show (24 : Int) ≠ 0 by decide)
  have c := Int.emod_lt_of_pos n (show (0 : Int) < 24 by decide)
  have e : postilionkeep_Within.f n ((24 : Nat) : Int) = some (n % 24) := within_f n 24 (by decide) (by decide)
  rw [e]
  simp only [Option.bind_some]
  rw [if_pos b, if_pos (by omega)]
  exact ⟨_, rfl, smallB_at hs _⟩
def goodR (x2 : ByteArray) (c : Int) (r : Int × List S27 × ByteArray × Bool) : Prop := r.2.1.length ≤ 10 ∧ smallH r.2.1 ∧ r.1 = c ∧ (r.2.2.1.size ≤ 60 ∨ r.2.2.1 = x2)
theorem reply_j2 (x0 : Int) (x2 : ByteArray) (c : Int) (h : List S27) (b : ByteArray) (t : Bool) (hl : h.length ≤ 10) (hs : smallH h) :
    ∃ r, goodR x2 c r ∧ Ev (fun k => postilionplay_Reply.j2 k x0 x2 c h b t) r := by
  have b1 := Int.emod_nonneg (wrap64 (Int.tdiv x0 5)) (show (7 : Int) ≠ 0 by decide)
  have c1 := Int.emod_lt_of_pos (wrap64 (Int.tdiv x0 5)) (show (0 : Int) < 7 by decide)
  have e1 := within_f (wrap64 (Int.tdiv x0 5)) 7 (by decide) (by decide)
  have e2 := within_f x0 50 (by decide) (by decide)
  generalize wrap64 (Int.tdiv x0 5) % 7 = t1 at *
  obtain ⟨n, hn, hr⟩ : ∃ n : Nat, n ≤ 60 ∧ rd [0, 5, 8, 3, 30, 49, 60] t1 = (n : Int) := by
    have : t1 = 0 ∨ t1 = 1 ∨ t1 = 2 ∨ t1 = 3 ∨ t1 = 4 ∨ t1 = 5 ∨ t1 = 6 := by omega
    rcases this with rfl | rfl | rfl | rfl | rfl | rfl | rfl
    · exact ⟨0, by decide, rfl⟩
    · exact ⟨5, by decide, rfl⟩
    · exact ⟨8, by decide, rfl⟩
    · exact ⟨3, by decide, rfl⟩
    · exact ⟨30, by decide, rfl⟩
    · exact ⟨49, by decide, rfl⟩
    · exact ⟨60, by decide, rfl⟩
  obtain ⟨ys, hy, he⟩ := bytes_f 99 n (by omega)
  by_cases g : x0 % 50 = 49
  · refine ⟨(c, h, x2, t), ⟨hl, hs, rfl, .inr rfl⟩, ?_⟩
    refine Ev.step (fun k => by simp only [postilionplay_Reply.j2]; exact rfl) ?_
    simp only [Option.bind_some, e1, e2]
    refine Ev.congr (fun k => by rw [if_pos b1, if_pos (by simp; omega), hr]) ?_
    refine Ev.bind he ?_
    simp only [if_pos g]
    exact Ev.now _
  · refine ⟨(c, h, strOfNums ys, t), ⟨hl, hs, rfl, .inl (by show (strOfNums ys).size ≤ 60; rw [strOfNums_size]; omega)⟩, ?_⟩
    refine Ev.step (fun k => by simp only [postilionplay_Reply.j2]; exact rfl) ?_
    simp only [Option.bind_some, e1, e2]
    refine Ev.congr (fun k => by rw [if_pos b1, if_pos (by simp; omega), hr]) ?_
    refine Ev.bind he ?_
    simp only [if_neg g]
    exact Ev.now _
theorem reply_j1 (x0 : Int) (x2 : ByteArray) (c : Int) (h : List S27) (b : ByteArray) (t : Bool) (hl : h.length ≤ 9) (hs : smallH h) :
    ∃ r, goodR x2 c r ∧ Ev (fun k => postilionplay_Reply.j1 k x0 x2 c h b t) r := by
  have e1 := within_f (wrap64 (Int.tdiv x0 7)) 3 (by decide) (by decide)
  by_cases g : wrap64 (Int.tdiv x0 7) % 3 > 0
  · obtain ⟨r, hr, he⟩ := reply_j2 x0 x2 c (h ++ [(⟨(⟨#[97, 108, 108, 111, 119, 45, 111, 114, 105, 103, 105, 110]⟩ : ByteArray), (⟨#[42]⟩ : ByteArray)⟩ : S27)]) b t (by rw [List.length_append]; simp only [List.length_singleton]; omega) (by
      intro x hx
      rcases List.mem_append.1 hx with hx | hx
      · exact hs x hx
      · have := List.mem_singleton.1 hx
        subst this
        exact ⟨by decide, by decide⟩)
    exact ⟨r, hr, Ev.step (f := fun k => postilionplay_Reply.j2 k x0 x2 c _ b t) (fun k => by simp only [postilionplay_Reply.j1, e1, Option.bind_some]; rw [if_pos g, if_pos (by omega)]) he⟩
  · obtain ⟨r, hr, he⟩ := reply_j2 x0 x2 c h b t (by omega) hs
    exact ⟨r, hr, Ev.step (f := fun k => postilionplay_Reply.j2 k x0 x2 c h b t) (fun k => by simp only [postilionplay_Reply.j1, e1, Option.bind_some]; rw [if_neg g]) he⟩
theorem reply_l0 (x0 : Int) (l1 : List Int) (x2 : ByteArray) (c : Int) (b : ByteArray) (t : Bool) (_hL : l1.length ≤ 140737488351232) : ∀ (d i : Nat) (h : List S27), 6 - i = d → i ≤ l1.length → h.length ≤ i → i ≤ 6 → smallH h →
    ∃ r, goodR x2 c r ∧ Ev (fun k => postilionplay_Reply.l0 k x0 l1 x2 (i : Int) c h b t) r := by
  have e1 := within_f (wrap64 (Int.tdiv x0 21)) 6 (by decide) (by decide)
  have c1 := Int.emod_lt_of_pos (wrap64 (Int.tdiv x0 21)) (show (0 : Int) < 6 by decide)
  generalize wrap64 (Int.tdiv x0 21) % 6 = m at *
  intro d
  induction d with
  | zero =>
    intro i h hd hi hl h6 hs
    obtain ⟨r, hr, he⟩ := reply_j1 x0 x2 c h b t (by omega) hs
    refine ⟨r, hr, Ev.step (f := fun k => postilionplay_Reply.j1 k x0 x2 c h b t) (fun k => ?_) he⟩
    simp only [postilionplay_Reply.l0, e1, Option.bind_some]
    by_cases g : (i : Int) < (l1.length : Int)
    · rw [if_pos g, if_neg (by omega)]
    · rw [if_neg g]
  | succ d ih =>
    intro i h hd hi hl h6 hs
    by_cases g : (i : Int) < (l1.length : Int)
    · by_cases g2 : (i : Int) < m
      · obtain ⟨hd2, e2, hs2⟩ := head_play (rd l1 (i : Int))
        obtain ⟨r, hr, he⟩ := ih (i + 1) (h ++ [⟨hd2.1, hd2.2⟩]) (by omega) (by omega) (by rw [List.length_append]; simp only [List.length_singleton]; omega) (by omega) (by
          intro x hx
          rcases List.mem_append.1 hx with hx | hx
          · exact hs x hx
          · have := List.mem_singleton.1 hx
            subst this
            exact hs2)
        have hw : wrap64 ((i : Int) + 1) = ((i + 1 : Nat) : Int) := w64 (by omega) (by omega) (by omega)
        exact ⟨r, hr, Ev.step (f := fun k => postilionplay_Reply.l0 k x0 l1 x2 ((i + 1 : Nat) : Int) c _ b t) (fun k => by
          simp only [postilionplay_Reply.l0, e1, e2, Option.bind_some]
          rw [if_pos g, if_pos g2, if_pos (by omega), if_pos (by omega), hw]) he⟩
      · obtain ⟨r, hr, he⟩ := reply_j1 x0 x2 c h b t (by omega) hs
        exact ⟨r, hr, Ev.step (f := fun k => postilionplay_Reply.j1 k x0 x2 c h b t) (fun k => by
          simp only [postilionplay_Reply.l0, e1, Option.bind_some]
          rw [if_pos g, if_neg g2]) he⟩
    · obtain ⟨r, hr, he⟩ := reply_j1 x0 x2 c h b t (by omega) hs
      exact ⟨r, hr, Ev.step (f := fun k => postilionplay_Reply.j1 k x0 x2 c h b t) (fun k => by
        simp only [postilionplay_Reply.l0, e1, Option.bind_some]
        rw [if_neg g]) he⟩
theorem reply_play (x0 : Int) (l1 : List Int) (x2 : ByteArray) (hL : l1.length ≤ 140737488351232) : ∃ c r, 100 ≤ c ∧ c ≤ 599 ∧ goodR x2 c r ∧ Ev (fun k => postilionplay_Reply.f k x0 l1 x2) r := by
  have b1 := Int.emod_nonneg x0 (show (21 : Int) ≠ 0 by decide)
  have c1 := Int.emod_lt_of_pos x0 (show (0 : Int) < 21 by decide)
  have e1 := within_f x0 21 (by decide) (by decide)
  have hc : 100 ≤ rd [200, 200, 200, 206, 301, 302, 303, 307, 308, 404, 416, 429, 500, 503, 204, 100, 599, 400, 201, 416, 206] (x0 % 21) ∧ rd [200, 200, 200, 206, 301, 302, 303, 307, 308, 404, 416, 429, 500, 503, 204, 100, 599, 400, 201, 416, 206] (x0 % 21) ≤ 599 := by
    obtain ⟨n, hn⟩ : ∃ n : Nat, (n : Int) = x0 % 21 := ⟨(x0 % 21).toNat, by omega⟩
    rw [← hn] at c1 ⊢
    have hn2 : n < 21 := by omega
    have : ∀ n : Fin 21, 100 ≤ rd [200, 200, 200, 206, 301, 302, 303, 307, 308, 404, 416, 429, 500, 503, 204, 100, 599, 400, 201, 416, 206] ((n.val : Nat) : Int) ∧ rd [200, 200, 200, 206, 301, 302, 303, 307, 308, 404, 416, 429, 500, 503, 204, 100, 599, 400, 201, 416, 206] ((n.val : Nat) : Int) ≤ 599 := by decide
    exact this ⟨n, hn2⟩
  obtain ⟨r, hr, he⟩ := reply_l0 x0 l1 x2 (rd [200, 200, 200, 206, 301, 302, 303, 307, 308, 404, 416, 429, 500, 503, 204, 100, 599, 400, 201, 416, 206] (x0 % 21)) (⟨#[]⟩ : ByteArray) false hL 6 0 [] (by omega) (by omega) (by simp) (by omega) (fun x hx => by cases hx)
  refine ⟨_, r, hc.1, hc.2, hr, Ev.congr (fun k => ?_) he⟩
  unfold postilionplay_Reply.f
  simp only [e1, Option.bind_some]
  rw [if_pos b1, if_pos (by simp; omega)]
  rfl
theorem text_len (body : List UInt8) : ∀ l : List S27, smallH l → (textL body (l.map headL)).length ≤ 2 + body.length + 204 * l.length := by
  intro l
  induction l with
  | nil => intro _; simp [textL]; omega
  | cons x l ih =>
    intro hx
    have a := hx x List.mem_cons_self
    have := ih fun h hm => hx h (List.mem_cons_of_mem _ hm)
    have l1 : (headL x).length = x.f0.size + 2 + x.f1.size := by
      unfold headL
      simp only [List.length_append, List.length_cons, data_length]
      omega
    rw [List.map_cons, textL_cons, l1]
    simp only [List.length_cons]
    omega
theorem answer_f (a0 : Int) (l1 : List Int) (hL : l1.length ≤ 140737488351232) (s : List UInt8) (u2 : s.length ≤ 1048576) : ∃ t : List UInt8, t.length ≤ 4000000 ∧ Ev (fun k => postilionplay_Answer.f k a0 l1 (B s)) (B t) := by
  obtain ⟨c, r, h0, h1, ⟨g1, g2, g3, g4⟩, he⟩ := reply_play a0 l1 (B s) hL
  obtain ⟨body, hbody⟩ := ex_B r.2.2.1
  have hbl : body.length ≤ 1048576 := by
    rcases g4 with g4 | g4
    · rw [hbody, B_size] at g4; omega
    · rw [hbody] at g4; rw [B_inj g4]; exact u2
  have hp := rprint_f c (by omega) (by omega) r.2.2.2 body (by omega) r.2.1 (by omega) (fun h hm => by have := g2 h hm; omega)
  rw [← g3, ← hbody] at hp
  have hpl : (printS r.1 r.2.1 body).length ≤ 2000000 := by
    have a := text_len body r.2.1 g2
    have b := itoa_len c (by omega) (by omega)
    unfold printS firstL
    rw [g3]
    simp only [List.length_append, List.length_cons, List.length_nil, show httpL.length = 9 from rfl]
    omega
  generalize printS r.1 r.2.1 body = T at *
  have hw : wrap64 (((B T).size : Int) + 1) = ((T.length + 1 : Nat) : Int) := by rw [B_size]; exact w64 (by omega) (by omega) (by omega)
  have e24 := within_f (wrap64 (Int.tdiv a0 3)) 24 (by decide) (by decide)
  have eT := within_f a0 ((T.length + 1 : Nat) : Int) (by omega) (by omega)
  have b9 := Int.emod_nonneg a0 (show ((T.length + 1 : Nat) : Int) ≠ 0 by omega)
  have c9 := Int.emod_lt_of_pos a0 (show (0 : Int) < ((T.length + 1 : Nat) : Int) by omega)
  have key : ∀ t, Ev (fun _ => if wrap64 (Int.tdiv a0 3) % 24 = 20 then some (B s) else if wrap64 (Int.tdiv a0 3) % 24 = 21 then some (B (T.take (a0 % ((T.length + 1 : Nat) : Int)).toNat)) else if wrap64 (Int.tdiv a0 3) % 24 = 22 then some (B (httpL ++ s ++ [13, 10, 13, 10])) else if wrap64 (Int.tdiv a0 3) % 24 = 23 then some (B (T ++ s)) else some (B T)) t → Ev (fun k => postilionplay_Answer.f k a0 l1 (B s)) t := fun t ht => by
    unfold postilionplay_Answer.f
    refine Ev.bind he ?_
    refine Ev.bind hp ?_
    refine Ev.congr (fun k => ?_) ht
    rw [e24, hw, eT]
    simp only [Option.bind_some]
    generalize wrap64 (Int.tdiv a0 3) % 24 = m
    by_cases m0 : m = 20
    · rw [if_pos m0, if_pos m0]
    · rw [if_neg m0, if_neg m0]
      by_cases m1 : m = 21
      · rw [if_pos m1, if_pos m1, if_pos b9, if_pos (by rw [B_size]; omega), B_extract, List.drop_zero]
      · rw [if_neg m1, if_neg m1]
        by_cases m2 : m = 22
        · rw [if_pos m2, if_pos m2, if_pos (by rw [B_size]; omega), if_pos (by rw [B_size]; omega)]
          show some ((B httpL ++ B s) ++ B [13, 10, 13, 10]) = _
          rw [B_append, B_append]
        · rw [if_neg m2, if_neg m2]
          by_cases m3 : m = 23
          · rw [if_pos m3, if_pos m3, if_pos (by rw [B_size, B_size]; omega), B_append]
          · rw [if_neg m3, if_neg m3]
  generalize wrap64 (Int.tdiv a0 3) % 24 = m at *
  by_cases m0 : m = 20
  · exact ⟨s, by omega, key _ (Ev.congr (f := fun _ => some (B s)) (fun _ => if_pos m0) (Ev.now _))⟩
  · by_cases m1 : m = 21
    · exact ⟨_, by rw [List.length_take]; omega, key _ (Ev.congr (f := fun _ => some (B (T.take (a0 % ((T.length + 1 : Nat) : Int)).toNat))) (fun _ => by rw [if_neg m0, if_pos m1]) (Ev.now _))⟩
    · by_cases m2 : m = 22
      · exact ⟨httpL ++ s ++ [13, 10, 13, 10], by simp only [List.length_append, List.length_cons, List.length_nil, show httpL.length = 9 from rfl]; omega, key _ (Ev.congr (f := fun _ => some (B (httpL ++ s ++ [13, 10, 13, 10]))) (fun _ => by rw [if_neg m0, if_neg m1, if_pos m2]) (Ev.now _))⟩
      · by_cases m3 : m = 23
        · exact ⟨T ++ s, by rw [List.length_append]; omega, key _ (Ev.congr (f := fun _ => some (B (T ++ s))) (fun _ => by rw [if_neg m0, if_neg m1, if_neg m2, if_pos m3]) (Ev.now _))⟩
        · exact ⟨T, by omega, key _ (Ev.congr (f := fun _ => some (B T)) (fun _ => by rw [if_neg m0, if_neg m1, if_neg m2, if_neg m3]) (Ev.now _))⟩
theorem same09_f (c : Int) (hs : List S27) (b : ByteArray) (t : Bool) (h8 : hs.length ≤ 100) : Ev (fun k => postilionlaw09_Same.f k c hs b t c hs b t) true := by
  unfold postilionlaw09_Same.f
  refine Ev.congr (fun k => if_pos rfl) ?_
  refine Ev.bind (same_f hs (by omega)) ?_
  exact Ev.congr (f := fun _ => some true) (fun k => by rw [if_pos rfl, if_pos rfl, beq_self_eq_true]) (Ev.now _)
theorem tells_j1 (a0 : Int) (l1 : List Int) (hL : l1.length ≤ 140737488351232) (s : List UInt8) (u2 : s.length ≤ 1048576) : Ev (fun k => postilionlaw09_ReplyTells.j1 k a0 l1 (B s) false) true := by
  obtain ⟨c, r, h0, h1, ⟨g1, g2, g3, g4⟩, he⟩ := reply_play a0 l1 (B s) hL
  obtain ⟨body, hbody⟩ := ex_B r.2.2.1
  have hbl : body.length ≤ 1048576 := by
    rcases g4 with g4 | g4
    · rw [hbody, B_size] at g4; omega
    · rw [hbody] at g4; rw [B_inj g4]; exact u2
  have hp := rprint_f c (by omega) (by omega) r.2.2.2 body (by omega) r.2.1 (by omega) (fun h hm => by have := g2 h hm; omega)
  have hq := print_f c (by omega) (by omega) false body (by omega) r.2.1 (by omega) (fun h hm => by have := g2 h hm; omega)
  rw [← g3, ← hbody] at hp hq
  refine Ev.step (fun k => by simp only [postilionlaw09_ReplyTells.j1]; rw [if_neg (by decide)]) ?_
  refine Ev.bind he ?_
  refine Ev.bind (number_f s) ?_
  refine Ev.bind (figures_f s) ?_
  refine Ev.congr (fun k => by rw [if_pos rfl, if_pos (by simp)]) ?_
  refine Ev.bind hq ?_
  refine Ev.bind hp ?_
  refine Ev.congr (fun k => if_pos rfl) ?_
  exact Ev.bind wakes09_f (Ev.now _)
theorem tells_j0 (a0 : Int) (l1 : List Int) (hL : l1.length ≤ 140737488351232) (s : List UInt8) (u2 : s.length ≤ 1048576) (t : List UInt8) (ht : t.length ≤ 4000000) : Ev (fun k => postilionlaw09_ReplyTells.j0 k a0 l1 (B s) (B t)) true := by
  obtain ⟨R, Q, e1, e2, hA⟩ := both_f t (by omega)
  refine Ev.step (fun k => by simp only [postilionlaw09_ReplyTells.j0]; exact rfl) ?_
  refine Ev.bind e1 ?_
  refine Ev.bind e2 ?_
  rcases hA with ⟨c, hs, b, t, rfl, rfl, h8⟩ | ⟨rfl, rfl⟩
  · refine Ev.congr (fun k => by rw [if_neg (show ¬ ((((0 : Int) == 0) != true) = true) by decide), if_pos rfl]) ?_
    refine Ev.bind (same09_f c hs b t (by omega)) ?_
    exact tells_j1 a0 l1 hL s u2
  · refine Ev.congr (fun k => by rw [if_neg (by decide), if_neg (by decide), if_pos (show badP.2.2.2.2 = 2 from rfl)]) ?_
    refine Ev.bind (same09_f 0 [] ⟨#[]⟩ false (by simp)) ?_
    exact tells_j1 a0 l1 hL s u2
theorem ReplyTells (a0 : Int) (l1 : List Int) (a2 : ByteArray) (a3 : Bool) (_w0 : (Lit.int .i64 a0).wf = true) (_m1 : l1.length ≤ maxLen) (_b1 : l1.length * 8 ≤ 140737488351232) (_w1 : ∀ x ∈ l1, (Lit.int .i64 x).wf = true) (_u1 : l1.length ≤ 1048576) (_m2 : a2.size ≤ 140737488351232) (u2 : a2.size ≤ 1048576) :
    ∃ k, postilionlaw09_ReplyTells.f k a0 l1 a2 a3 = some true := by
  refine Ev.rounds ?_
  obtain ⟨s, rfl⟩ := ex_B a2
  rw [B_size] at u2
  unfold postilionlaw09_ReplyTells.f
  obtain ⟨t, ht, he⟩ := answer_f a0 l1 (by omega) s u2
  refine Ev.bind he ?_
  by_cases g : a3 = true
  · exact Ev.congr (fun k => if_pos g) (tells_j0 a0 l1 (by omega) s u2 s (by omega))
  · exact Ev.congr (fun k => if_neg g) (tells_j0 a0 l1 (by omega) s u2 t ht)
end Go.Proofs.YtllblgjhoeopjaaDoor.Pure
