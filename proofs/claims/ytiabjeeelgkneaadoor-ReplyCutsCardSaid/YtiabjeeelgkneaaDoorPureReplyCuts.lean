/- What the printed functions of ReplyCuts answer, in plain words. -/
import Derived.Test.YtiabjeeelgkneaaDoorBas
import Derived.Test.YtiabjeeelgkneaaDoorGReplyCutsx
namespace Go.Proofs.YtiabjeeelgkneaaDoor.Pure
open Go.RowKit Go.Proofs.YtiabjeeelgkneaaDoorW.PrintWords Go.Proofs.YtiabjeeelgkneaaDoorW.PrintLast Go.Proofs.YtiabjeeelgkneaaDoorW.PrintMore
open Go.Proofs.YtiabjeeelgkneaaDoor.GReplyCuts Go.Proofs.YtiabjeeelgkneaaDoor.GivR Go.Proofs.YtiabjeeelgkneaaDoor.Bas Go.Proofs.YtiabjeeelgkneaaDoor.Giv
theorem within_f (a n : Int) (h : 1 ≤ n) (hn : n ≤ 4611686018427387904) : postilionkeep_Within.f a n = some (a % n) := by
  unfold postilionkeep_Within.f
  rw [if_neg (by omega), if_neg (by omega), ← tmod_emod a n h hn]
  split <;> rfl
theorem w64 {x y : Int} (h : x = y) (h1 : -9223372036854775808 ≤ x) (h2 : x ≤ 9223372036854775807) : wrap64 x = y := by
  subst h
  unfold wrap64
  omega
theorem number_l (l : List UInt8) (hl : l.length ≤ 6) : ∀ (d i : Nat) (n : Int), l.length - i = d → i ≤ l.length → 0 ≤ n → n < 10 ^ i →
    Ev (fun k => reply_Number.l0 k (B l) n (l.length : Int) (i : Int)) (if (l.drop i).all isD = true then (numV n (l.drop i), true) else (0, false)) := by
  intro d
  induction d with
  | zero =>
    intro i n hd hi h0 h1
    refine Ev.step (f := fun _ => some (n, true)) (fun k => by simp only [reply_Number.l0]; rw [if_neg (by omega)]) ?_
    rw [List.drop_eq_nil_of_le (by omega)]
    exact Ev.now _
  | succ d ih =>
    intro i n hd hi h0 h1
    have hlt : i < l.length := by omega
    have hb := bt_B l i hlt
    have hc : (l[i].toNat : Int) < 256 := by have := l[i].toNat_lt; omega
    have h6 : (10 : Int) ^ i ≤ 100000 := by
      have : i = 0 ∨ i = 1 ∨ i = 2 ∨ i = 3 ∨ i = 4 ∨ i = 5 := by omega
      rcases this with rfl | rfl | rfl | rfl | rfl | rfl <;> decide
    have hs : l.drop i = l[i] :: l.drop (i + 1) := List.drop_eq_getElem_cons hlt
    by_cases h2 : (l[i].toNat : Int) < 48
    · refine Ev.step (f := fun _ => some (0, false)) (fun k => by simp only [reply_Number.l0]; rw [if_pos (by omega), if_pos (by omega), if_pos (by rw [B_size]; omega), hb, if_pos h2]) ?_
      rw [hs, if_neg (by rw [List.all_cons, isD_no (.inl (by omega))]; simp)]
      exact Ev.now _
    · by_cases h3 : (l[i].toNat : Int) > 57
      · refine Ev.step (f := fun _ => some (0, false)) (fun k => by simp only [reply_Number.l0]; rw [if_pos (by omega), if_pos (by omega), if_pos (by rw [B_size]; omega), hb, if_neg h2, if_pos h3]) ?_
        rw [hs, if_neg (by rw [List.all_cons, isD_no (.inr (by omega))]; simp)]
        exact Ev.now _
      · have hw : wrap64 (wrap64 (10 * n) + ((l[i].toNat : Int) - 48) % 256) = 10 * n + ((l[i].toNat : Int) - 48) := by unfold wrap64; omega
        have hw2 : wrap64 ((i : Int) + 1) = ((i + 1 : Nat) : Int) := by unfold wrap64; omega
        refine Ev.step (f := fun k => reply_Number.l0 k (B l) (10 * n + ((l[i].toNat : Int) - 48)) (l.length : Int) ((i + 1 : Nat) : Int)) (fun k => by simp only [reply_Number.l0]; rw [if_pos (by omega), if_pos (by omega), if_pos (by rw [B_size]; omega), hb, if_neg h2, if_neg h3, hw, hw2]) ?_
        have := ih (i + 1) (10 * n + ((l[i].toNat : Int) - 48)) (by omega) (by omega) (by omega) (by rw [Int.pow_succ]; omega)
        rw [hs]
        have hd : isD l[i] = true := isD_yes (by omega) (by omega)
        simp only [List.all_cons, hd, Bool.true_and]
        exact this
theorem number_f (l : List UInt8) : Ev (fun k => reply_Number.f k (B l)) (numS l) := by
  by_cases h1 : l.length < 1
  · refine Ev.congr (f := fun k => reply_Number.j0 k (B l) true) (fun k => by unfold reply_Number.f; rw [B_size, if_pos (by omega)]) ?_
    refine Ev.step (f := fun _ => some (0, false)) (fun k => by simp only [reply_Number.j0, if_true]) ?_
    unfold numS
    rw [if_neg (by omega)]
    exact Ev.now _
  · by_cases h2 : l.length ≤ 6
    · refine Ev.congr (f := fun k => reply_Number.j0 k (B l) false) (fun k => by unfold reply_Number.f; rw [B_size, if_neg (by omega), decide_eq_false (by omega)]) ?_
      refine Ev.step (f := fun k => reply_Number.l0 k (B l) 0 (l.length : Int) ((0 : Nat) : Int)) (fun k => by simp only [reply_Number.j0]; rw [if_neg (by simp), B_size]; rfl) ?_
      have := number_l l h2 l.length 0 0 (by omega) (by omega) (by omega) (by decide)
      simp only [List.drop_zero] at this
      unfold numS
      by_cases h3 : l.all isD = true
      · rw [if_pos h3] at this
        rw [if_pos ⟨by omega, h2, h3⟩]
        exact this
      · rw [if_neg h3] at this
        rw [if_neg (fun h => h3 h.2.2)]
        exact this
    · refine Ev.congr (f := fun k => reply_Number.j0 k (B l) true) (fun k => by unfold reply_Number.f; rw [B_size, if_neg (by omega), decide_eq_true (by omega)]) ?_
      refine Ev.step (f := fun _ => some (0, false)) (fun k => by simp only [reply_Number.j0, if_true]) ?_
      unfold numS
      rw [if_neg (by omega)]
      exact Ev.now _
theorem numV_bound : ∀ (l : List UInt8) (n : Int) (i : Nat), l.all isD = true → 0 ≤ n → n < 10 ^ i → 0 ≤ numV n l ∧ numV n l < 10 ^ (i + l.length) := by
  intro l
  induction l with
  | nil => intro n i _ h0 h1; exact ⟨h0, h1⟩
  | cons c l ih =>
    intro n i h h0 h1
    rw [List.all_cons, Bool.and_eq_true] at h
    have hc : 48 ≤ c.toNat ∧ c.toNat ≤ 57 := by
      have := h.1
      unfold isD at this
      simpa using this
    have := ih (10 * n + ((c.toNat : Int) - 48)) (i + 1) h.2 (by omega) (by rw [Int.pow_succ]; omega)
    rw [show i + 1 + l.length = i + (c :: l).length by simp; omega] at this
    exact this
theorem numS_bound (l : List UInt8) : 0 ≤ (numS l).1 ∧ (numS l).1 < 1000000 := by
  unfold numS
  split
  · rename_i h
    have := numV_bound l 0 0 h.2.2 (by decide) (by decide)
    have h6 : (10 : Int) ^ (0 + l.length) ≤ 1000000 := by
      have : l.length = 1 ∨ l.length = 2 ∨ l.length = 3 ∨ l.length = 4 ∨ l.length = 5 ∨ l.length = 6 := by omega
      rcases this with h | h | h | h | h | h <;> rw [h] <;> decide
    exact ⟨this.1, by simp only; omega⟩
  · exact ⟨by decide, by decide⟩
theorem cut_f (l m : List UInt8) (h : l.length < 4294967281) : strings_Cut.f (B l) (B m) = some (B (Lib.cut l m).1, B (Lib.cut l m).2.1, (Lib.cut l m).2.2) := by
  unfold strings_Cut.f
  rw [if_pos (by rw [B_size]; exact h), data_B, data_B]
  rfl
theorem pre_f (l m : List UInt8) : strings_CutPrefix.f (B l) (B m) = some (if m.isPrefixOf l = true then (B (l.drop m.length), true) else (B l, false)) := by
  unfold strings_CutPrefix.f stringslite_CutPrefix.f stringslite_HasPrefix.f
  rw [B_size, B_size]
  by_cases h : m.length ≤ l.length
  · rw [if_pos (by omega), if_pos (by omega), if_pos (by omega)]
    simp only [Option.bind_some]
    rw [B_extract, B_toList, B_toList]
    have e : (((l.take (m.length : Int).toNat).drop 0 == m) = true) = (m.isPrefixOf l = true) := by
      rw [List.drop_zero, beq_iff_eq, List.isPrefixOf_iff_prefix, List.prefix_iff_eq_take]
      simp only [Int.toNat_natCast]
      exact propext ⟨fun h => h.symm, fun h => h.symm⟩
    by_cases h2 : m.isPrefixOf l = true
    · rw [if_pos (by rw [e]; exact h2), if_pos (by omega), if_pos (by omega), if_pos h2, B_extract]
      simp
    · rw [if_neg (by rw [e]; exact h2), if_neg h2]
      rfl
  · rw [if_neg (by omega)]
    have h2 : ¬ m.isPrefixOf l = true := by
      rw [List.isPrefixOf_iff_prefix]
      intro hp
      exact h hp.length_le
    rw [if_neg h2]
    rfl
theorem cut1_le (l m : List UInt8) : (Lib.cut l m).1.length ≤ l.length := by
  unfold Lib.cut
  split
  · simp; omega
  · exact Nat.le_refl _
def lowerS (l : List UInt8) : List UInt8 := l.map lowerB
theorem lower_f (l : List UInt8) (h : l.length ≤ 140737488351232) : pct_Lower.f (B l) = some (B (lowerS l)) := by
  unfold pct_Lower.f
  rw [if_pos (by rw [B_size]; exact h), data_B]
  rfl
def okH (l : List S26) : Prop := l.length ≤ 140737488351232 ∧ ∀ h ∈ l, h.f0.size ≤ 140737488351232 ∧ h.f1.size ≤ 140737488351232
theorem cut2_yes (l r : List UInt8) (h : (13 : UInt8) ∉ l) : Lib.cut (l ++ 13 :: 10 :: r) [13, 10] = (l, r, true) := by
  have hi : Lib.index (l ++ 13 :: 10 :: r) [13, 10] = (l.length : Int) := by
    refine Lib.index_first (i := l.length) (by simp) ?_ fun j hj => ?_
    · unfold Lib.occAt
      simp [List.isPrefixOf]
    · unfold Lib.occAt
      rw [List.drop_append_of_le_length (by omega)]
      cases hd : l.drop j with
      | nil => have := congrArg List.length hd; simp at this; omega
      | cons b q =>
        have hb : b ∈ l := List.mem_of_mem_drop (by rw [hd]; exact List.mem_cons_self)
        have : ((13 : UInt8) == b) = false := by
          rw [beq_eq_false_iff_ne]
          intro e
          exact h (e ▸ hb)
        simp [List.isPrefixOf, this]
  unfold Lib.cut
  rw [hi, if_pos (by omega)]
  simp
theorem cut2_no (s : List UInt8) (h : ∀ a r, s = a ++ 13 :: 10 :: r → False) : Lib.cut s [13, 10] = (s, [], false) := by
  have hi : Lib.index s [13, 10] = -1 := by
    refine Lib.index_none fun j hj => ?_
    rw [Bool.eq_false_iff]
    intro ho
    unfold Lib.occAt at ho
    rw [List.isPrefixOf_iff_prefix] at ho
    obtain ⟨t, ht⟩ := ho
    refine h (s.take j) t ?_
    rw [show (13 : UInt8) :: 10 :: t = [13, 10] ++ t from rfl, ht, List.take_append_drop]
  unfold Lib.cut
  rw [hi]
  rfl
/-- A line that is cut off ahead of its end is none. -/
theorem cut2_short (l r : List UInt8) (c : Nat) (h : (13 : UInt8) ∉ l) (hc : c < l.length + 2) : Lib.cut ((l ++ 13 :: 10 :: r).take c) [13, 10] = ((l ++ 13 :: 10 :: r).take c, [], false) := by
  refine cut2_no _ fun a q e => ?_
  have hl := congrArg List.length e
  rw [List.length_take, List.length_append] at hl
  simp only [List.length_append, List.length_cons] at hl
  have ha : a.length < l.length := by omega
  have h1 : (a ++ 13 :: 10 :: q)[a.length]? = some 13 := by
    rw [List.getElem?_append_right (Nat.le_refl _), Nat.sub_self]
    rfl
  rw [← e, List.getElem?_take, if_pos (by omega), List.getElem?_append_left ha] at h1
  exact h (List.mem_of_getElem? h1)
theorem trim_f (l : List UInt8) (h : l.length ≤ 140737488351232) : strings_Trim.f (B l) (B [32]) = some (B (Lib.trimB l 32)) := by
  unfold strings_Trim.f
  rw [if_pos (by rw [B_size]; exact h), if_pos (by rw [data_B]), data_B]
  rfl
def okN (c : UInt8) : Bool := (decide (65 ≤ c.toNat) && decide (c.toNat ≤ 90)) || (decide (97 ≤ c.toNat) && decide (c.toNat ≤ 122)) || (decide (48 ≤ c.toNat) && decide (c.toNat ≤ 57)) || decide (c.toNat = 45)
theorem letter1 (c : UInt8) : Ev (fun k => head_letters.f k (B [c])) (okN c) := by
  have hb : bt (B [c]) 0 = (c.toNat : Int) := bt_B [c] 0 (by simp)
  have hz : ((B [c]).size : Int) = 1 := by rw [B_size]; rfl
  have hw : wrap64 ((0 : Int) + 1) = 1 := w64 (by omega) (by omega) (by omega)
  have e : Ev (fun k => head_letters.l0 k (B [c]) 1 1) true := Ev.step (f := fun _ => some true) (fun k => by simp only [head_letters.l0]; rw [if_neg (by omega)]) (Ev.now _)
  unfold head_letters.f
  rw [hz]
  refine Ev.step (f := fun k => if okN c = true then head_letters.l0 k (B [c]) 1 1 else some false) (fun k => ?_) ?_
  · simp only [head_letters.l0]
    rw [if_pos (by omega), if_pos (by omega), if_pos (by omega), hb, hw]
    generalize head_letters.l0 k (B [c]) 1 1 = E
    generalize hn : c.toNat = n
    have ho : okN c = ((decide (65 ≤ n) && decide (n ≤ 90)) || (decide (97 ≤ n) && decide (n ≤ 122)) || (decide (48 ≤ n) && decide (n ≤ 57)) || decide (n = 45)) := by rw [← hn]; rfl
    rw [ho]
    simp only [Bool.or_eq_true, Bool.and_eq_true, decide_eq_true_eq]
    repeat' split
    all_goals first | rfl | (exfalso; omega)
  · by_cases h : okN c = true
    · rw [h]
      simp only [if_true]
      exact e
    · rw [Bool.not_eq_true] at h
      rw [h]
      exact Ev.now _
theorem name1 (c : UInt8) : Ev (fun k => head_Name.f k (B [c])) (okN c) := by
  unfold head_Name.f
  refine Ev.congr (fun k => by rw [if_pos (by rw [B_size]; simp), if_pos (by rw [B_size]; simp)]) ?_
  exact Ev.bind (letter1 c) (Ev.now _)
theorem name_l (l : List UInt8) (hl : l.length ≤ 20) : ∀ (d i : Nat), l.length - i = d → i ≤ l.length → Ev (fun k => reply_name.l0 k (B l) (l.length : Int) (i : Int)) ((l.drop i).all okN) := by
  intro d
  induction d with
  | zero =>
    intro i hd hi
    refine Ev.step (f := fun _ => some true) (fun k => by simp only [reply_name.l0]; rw [if_neg (by omega)]) ?_
    rw [List.drop_eq_nil_of_le (by omega)]
    exact Ev.now _
  | succ d ih =>
    intro i hd hi
    have hlt : i < l.length := by omega
    have hs : l.drop i = l[i] :: l.drop (i + 1) := List.drop_eq_getElem_cons hlt
    have hw : wrap64 ((i : Int) + 1) = ((i + 1 : Nat) : Int) := w64 (by omega) (by omega) (by omega)
    have hx : (B l).extract i (i + 1) = B [l[i]] := by
      rw [B_extract, List.drop_take, hs, Nat.add_sub_cancel_left]
      rfl
    refine Ev.step (fun k => by simp only [reply_name.l0]; rw [if_pos (by omega), if_pos (by omega), hw, if_pos (by omega), if_pos (by rw [B_size]; omega), Int.toNat_natCast, Int.toNat_natCast, hx]) ?_
    refine Ev.bind (name1 l[i]) ?_
    rw [hs, List.all_cons]
    by_cases h : okN l[i] = true
    · rw [h]
      simp only [if_true, Bool.true_and]
      exact ih (i + 1) (by omega) (by omega)
    · rw [Bool.not_eq_true] at h
      rw [h]
      exact Ev.now _
def nameS (l : List UInt8) : Bool := decide (1 ≤ l.length) && decide (l.length ≤ 20) && l.all okN
theorem name_f (l : List UInt8) : Ev (fun k => reply_name.f k (B l)) (nameS l) := by
  unfold nameS
  by_cases h1 : l.length < 1
  · refine Ev.congr (f := fun k => reply_name.j0 k (B l) true) (fun k => by unfold reply_name.f; rw [B_size, if_pos (by omega)]) ?_
    rw [decide_eq_false (by omega : ¬ 1 ≤ l.length)]
    exact Ev.step (f := fun _ => some false) (fun k => by simp only [reply_name.j0, if_true]) (Ev.now _)
  · by_cases h2 : l.length ≤ 20
    · refine Ev.congr (f := fun k => reply_name.j0 k (B l) false) (fun k => by unfold reply_name.f; rw [B_size, if_neg (by omega), decide_eq_false (by omega)]) ?_
      refine Ev.step (f := fun k => reply_name.l0 k (B l) (l.length : Int) ((0 : Nat) : Int)) (fun k => by simp only [reply_name.j0]; rw [if_neg (by simp), B_size]; rfl) ?_
      have := name_l l h2 l.length 0 (by omega) (by omega)
      rw [decide_eq_true (by omega : 1 ≤ l.length), decide_eq_true h2]
      exact this
    · refine Ev.congr (f := fun k => reply_name.j0 k (B l) true) (fun k => by unfold reply_name.f; rw [B_size, if_neg (by omega), decide_eq_true (by omega)]) ?_
      rw [decide_eq_false h2, Bool.and_false]
      exact Ev.step (f := fun _ => some false) (fun k => by simp only [reply_name.j0, if_true]) (Ev.now _)
def okV (c : UInt8) : Bool := decide (32 ≤ c.toNat) && decide (c.toNat ≤ 126)
theorem value_l (l : List UInt8) (hl : l.length ≤ 40) : ∀ (d i : Nat), l.length - i = d → i ≤ l.length → Ev (fun k => reply_value.l0 k (B l) (l.length : Int) (i : Int)) ((l.drop i).all okV) := by
  intro d
  induction d with
  | zero =>
    intro i hd hi
    refine Ev.step (f := fun _ => some true) (fun k => by simp only [reply_value.l0]; rw [if_neg (by omega)]) ?_
    rw [List.drop_eq_nil_of_le (by omega)]
    exact Ev.now _
  | succ d ih =>
    intro i hd hi
    have hlt : i < l.length := by omega
    have hb := bt_B l i hlt
    have hs : l.drop i = l[i] :: l.drop (i + 1) := List.drop_eq_getElem_cons hlt
    have hw : wrap64 ((i : Int) + 1) = ((i + 1 : Nat) : Int) := w64 (by omega) (by omega) (by omega)
    rw [hs, List.all_cons]
    by_cases g1 : (l[i].toNat : Int) < 32
    · refine Ev.step (f := fun _ => some false) (fun k => by simp only [reply_value.l0]; rw [if_pos (by omega), if_pos (by omega), if_pos (by rw [B_size]; omega), hb, if_pos g1]) ?_
      have : okV l[i] = false := by unfold okV; rw [decide_eq_false (by omega)]; rfl
      rw [this]
      exact Ev.now _
    · by_cases g2 : (l[i].toNat : Int) > 126
      · refine Ev.step (f := fun _ => some false) (fun k => by simp only [reply_value.l0]; rw [if_pos (by omega), if_pos (by omega), if_pos (by rw [B_size]; omega), hb, if_neg g1, if_pos g2]) ?_
        have : okV l[i] = false := by unfold okV; rw [decide_eq_false (by omega : ¬ l[i].toNat ≤ 126), Bool.and_false]
        rw [this]
        exact Ev.now _
      · refine Ev.step (f := fun k => reply_value.l0 k (B l) (l.length : Int) ((i + 1 : Nat) : Int)) (fun k => by simp only [reply_value.l0]; rw [if_pos (by omega), if_pos (by omega), if_pos (by rw [B_size]; omega), hb, if_neg g1, if_neg g2, hw]) ?_
        have : okV l[i] = true := by unfold okV; rw [decide_eq_true (by omega), decide_eq_true (by omega)]; rfl
        rw [this, Bool.true_and]
        exact ih (i + 1) (by omega) (by omega)
def valueS (l : List UInt8) : Bool := decide (l.length ≤ 40) && l.all okV
theorem value_f (l : List UInt8) : Ev (fun k => reply_value.f k (B l)) (valueS l) := by
  unfold valueS reply_value.f
  by_cases h : l.length ≤ 40
  · refine Ev.congr (f := fun k => reply_value.l0 k (B l) (l.length : Int) ((0 : Nat) : Int)) (fun k => by rw [if_neg (by rw [B_size]; omega), B_size]; rfl) ?_
    rw [decide_eq_true h]
    exact value_l l h l.length 0 (by omega) (by omega)
  · refine Ev.congr (f := fun _ => some false) (fun k => by rw [if_pos (by rw [B_size]; omega)]) ?_
    rw [decide_eq_false h]
    exact Ev.now _
/-- A line's header: its name, its value, whether it is one. -/
def oneS (l : List UInt8) : List UInt8 × List UInt8 × Bool :=
  ((Lib.cut l [58]).1, Lib.trimB (Lib.cut l [58]).2.1 32, (Lib.cut l [58]).2.2 && nameS (Lib.cut l [58]).1 && valueS (Lib.trimB (Lib.cut l [58]).2.1 32))
theorem cut2_le (l m : List UInt8) : (Lib.cut l m).2.1.length ≤ l.length := by
  unfold Lib.cut
  split
  · simp
  · simp
theorem one_f (l : List UInt8) (h : l.length < 4294967281) : Ev (fun k => reply_one.f k (B l)) (B (oneS l).1, B (oneS l).2.1, (oneS l).2.2) := by
  unfold reply_one.f oneS
  have e1 : strings_Cut.f (B l) (⟨#[58]⟩ : ByteArray) = _ := cut_f l [58] h
  have hc := cut2_le l [58]
  simp only [e1, Option.bind_some]
  generalize Lib.cut l [58] = c at *
  have e2 : strings_Trim.f (B c.2.1) (⟨#[32]⟩ : ByteArray) = _ := trim_f c.2.1 (by omega)
  simp only [e2, Option.bind_some]
  generalize Lib.trimB c.2.1 32 = t
  by_cases g : c.2.2 = true
  · simp only [if_pos g]
    refine Ev.bind (name_f c.1) ?_
    by_cases gn : nameS c.1 = true
    · simp only [if_pos gn]
      refine Ev.bind (value_f t) ?_
      rw [g, gn]
      simp only [Bool.true_and]
      exact Ev.now _
    · simp only [if_neg gn]
      rw [Bool.not_eq_true] at gn
      rw [gn, Bool.and_false, Bool.false_and]
      exact Ev.now _
  · simp only [if_neg g]
    rw [Bool.not_eq_true] at g
    rw [g, Bool.false_and, Bool.false_and]
    exact Ev.now _
def httpL : List UInt8 := [72, 84, 84, 80, 47, 49, 46, 49, 32]
/-- The code of a first line (0: none). -/
def codeS (l : List UInt8) : Int :=
  if httpL.isPrefixOf l = true then
    (if (l.drop 9).length < 3 then 0 else if (numS ((l.drop 9).take 3)).2 = true ∧ 100 ≤ (numS ((l.drop 9).take 3)).1 ∧ (numS ((l.drop 9).take 3)).1 ≤ 599 then (numS ((l.drop 9).take 3)).1 else 0)
  else 0
theorem code_f (l : List UInt8) : Ev (fun k => reply_code.f k (B l)) (codeS l) := by
  unfold reply_code.f codeS
  have e1 : strings_CutPrefix.f (B l) (⟨#[72, 84, 84, 80, 47, 49, 46, 49, 32]⟩ : ByteArray) = _ := pre_f l httpL
  have nil_ : ∀ x, Ev (fun k => reply_code.j0 k x true) 0 := fun x => Ev.step (f := fun _ => some 0) (fun k => by simp only [reply_code.j0, if_true]) (Ev.now _)
  simp only [e1, Option.bind_some]
  by_cases hp : httpL.isPrefixOf l = true
  · simp only [if_pos hp, if_true]
    rw [show httpL.length = 9 from rfl]
    generalize l.drop 9 = r
    by_cases h3 : r.length < 3
    · rw [if_pos h3, decide_eq_true (by rw [B_size]; omega)]
      exact nil_ _
    · rw [if_neg h3, decide_eq_false (by rw [B_size]; omega)]
      refine Ev.step (fun k => by simp only [reply_code.j0]; rw [if_neg (by decide), if_pos (by omega), if_pos (by rw [B_size]; omega), B_extract, List.drop_zero]) ?_
      refine Ev.bind (number_f (r.take 3)) ?_
      generalize numS (r.take 3) = x
      refine Ev.congr (f := fun _ => some _) (fun k => ?_) (Ev.now _)
      by_cases a : x.2 = true
      · rw [if_pos a]
        by_cases b : x.1 < 100
        · rw [if_pos b, if_neg (by omega)]
        · rw [if_neg b]
          by_cases c : x.1 > 599
          · rw [if_pos c, if_neg (by omega)]
          · rw [if_neg c, if_pos ⟨a, by omega, by omega⟩]
      · rw [if_neg a, if_neg (fun h => a h.1)]
  · simp only [if_neg hp]
    exact nil_ _
/-- The lines of a text, one after the other. -/
theorem lines_none (s : List UInt8) (acc : List S26) (hz : s.length < 4294967281) (h : (Lib.cut s [13, 10]).2.2 = false) : Ev (fun k => reply_lines.l0 k (B s) acc) ([], ⟨#[]⟩, false) := by
  have e1 : strings_Cut.f (B s) (⟨#[13, 10]⟩ : ByteArray) = _ := cut_f s [13, 10] hz
  refine Ev.step (f := fun _ => some ([], ⟨#[]⟩, false)) (fun k => by simp only [reply_lines.l0, e1, Option.bind_some]; rw [if_neg (by rw [h]; decide)]) (Ev.now _)
theorem lines_end (s r : List UInt8) (acc : List S26) (hz : s.length < 4294967281) (h : Lib.cut s [13, 10] = ([], r, true)) : Ev (fun k => reply_lines.l0 k (B s) acc) (acc, B r, true) := by
  have e1 : strings_Cut.f (B s) (⟨#[13, 10]⟩ : ByteArray) = _ := cut_f s [13, 10] hz
  rw [h] at e1
  refine Ev.step (f := fun _ => some (acc, B r, true)) (fun k => by simp only [reply_lines.l0, e1, Option.bind_some, if_true]; rw [if_pos (by rw [B_toList])]) (Ev.now _)
theorem lines_bad (s l r : List UInt8) (acc : List S26) (hz : s.length < 4294967281) (h : Lib.cut s [13, 10] = (l, r, true)) (hl : l ≠ []) (hb : (oneS l).2.2 = false ∨ acc.length = 8) : Ev (fun k => reply_lines.l0 k (B s) acc) ([], ⟨#[]⟩, false) := by
  have e1 : strings_Cut.f (B s) (⟨#[13, 10]⟩ : ByteArray) = _ := cut_f s [13, 10] hz
  have hll := cut1_le s [13, 10]
  rw [h] at e1 hll
  refine Ev.step (fun k => by simp only [reply_lines.l0, e1, Option.bind_some, if_true]; rw [if_neg (by rw [B_toList]; exact hl)]) ?_
  refine Ev.bind (one_f l (by simp only at hll; omega)) ?_
  by_cases g : (oneS l).2.2 = true
  · have h8 := hb.resolve_left (by rw [g]; decide)
    refine Ev.congr (f := fun _ => some ([], ⟨#[]⟩, false)) (fun k => by simp only [if_pos g]; rw [if_pos (by omega)]) (Ev.now _)
  · refine Ev.congr (f := fun _ => some ([], ⟨#[]⟩, false)) (fun k => by simp only [if_neg g]) (Ev.now _)
theorem lines_more (s l r : List UInt8) (acc : List S26) (res : List S26 × ByteArray × Bool) (hz : s.length < 4294967281) (h : Lib.cut s [13, 10] = (l, r, true)) (hl : l ≠ []) (ho : (oneS l).2.2 = true) (h8 : acc.length < 8)
    (he : Ev (fun k => reply_lines.l0 k (B r) (acc ++ [⟨B (oneS l).1, B (oneS l).2.1⟩])) res) : Ev (fun k => reply_lines.l0 k (B s) acc) res := by
  have e1 : strings_Cut.f (B s) (⟨#[13, 10]⟩ : ByteArray) = _ := cut_f s [13, 10] hz
  have hll := cut1_le s [13, 10]
  rw [h] at e1 hll
  refine Ev.step (fun k => by simp only [reply_lines.l0, e1, Option.bind_some, if_true]; rw [if_neg (by rw [B_toList]; exact hl)]) ?_
  refine Ev.bind (one_f l (by simp only at hll; omega)) ?_
  refine Ev.congr (fun k => by simp only [if_pos ho]; rw [if_neg (by omega), if_pos (by omega)]) he
def lensS (hs : List S26) : List ByteArray := (hs.filter fun h => lowerS h.f0.data.toList == [99, 111, 110, 116, 101, 110, 116, 45, 108, 101, 110, 103, 116, 104]).map fun h => h.f1
theorem lengths_l (hs : List S26) (hl : okH hs) (h100 : hs.length ≤ 100) : ∀ (d i : Nat) (acc : List ByteArray), hs.length - i = d → i ≤ hs.length → acc.length ≤ i → Ev (fun k => reply_lengths.l0 k acc hs (hs.length : Int) (i : Int)) (acc ++ lensS (hs.drop i)) := by
  intro d
  induction d with
  | zero =>
    intro i acc hd hi ha
    refine Ev.step (f := fun _ => some acc) (fun k => by simp only [reply_lengths.l0]; rw [if_neg (by omega)]) ?_
    rw [List.drop_eq_nil_of_le (by omega)]
    simp only [lensS, List.filter_nil, List.map_nil, List.append_nil]
    exact Ev.now _
  | succ d ih =>
    intro i acc hd hi ha
    have hlt : i < hs.length := by omega
    have hcs : hs.drop i = hs[i] :: hs.drop (i + 1) := List.drop_eq_getElem_cons hlt
    have hr : rd_T26 hs (i : Int) = hs[i] := by
      unfold rd_T26
      simp [List.getD_eq_getElem?_getD, List.getElem?_eq_getElem hlt]
    have hlen := hl.1
    have hw : wrap64 ((i : Int) + 1) = ((i + 1 : Nat) : Int) := w64 (by omega) (by omega) (by omega)
    have h0 := (hl.2 hs[i] (List.getElem_mem hlt)).1
    have e0 : pct_Lower.f hs[i].f0 = some (B (lowerS hs[i].f0.data.toList)) := by
      have := lower_f hs[i].f0.data.toList (by rw [data_length]; exact h0)
      rw [B_data] at this
      exact this
    rw [hcs]
    by_cases g : lowerS hs[i].f0.data.toList = [99, 111, 110, 116, 101, 110, 116, 45, 108, 101, 110, 103, 116, 104]
    · have e2 : lensS (hs[i] :: hs.drop (i + 1)) = hs[i].f1 :: lensS (hs.drop (i + 1)) := by
        unfold lensS
        rw [List.filter_cons_of_pos (by simpa using g)]
        rfl
      refine Ev.step (f := fun k => reply_lengths.l0 k (acc ++ [hs[i].f1]) hs (hs.length : Int) ((i + 1 : Nat) : Int)) (fun k => by
        simp only [reply_lengths.l0]
        rw [if_pos (by omega), if_pos (by omega), if_pos (by omega), hr, e0]
        simp only [Option.bind_some]
        rw [B_toList, if_pos g, if_pos (by omega), hw]) ?_
      have := ih (i + 1) (acc ++ [hs[i].f1]) (by omega) (by omega) (by rw [List.length_append]; simp only [List.length_singleton]; omega)
      rw [e2]
      simpa using this
    · have e2 : lensS (hs[i] :: hs.drop (i + 1)) = lensS (hs.drop (i + 1)) := by
        unfold lensS
        rw [List.filter_cons_of_neg (by simpa using g)]
      refine Ev.step (f := fun k => reply_lengths.l0 k acc hs (hs.length : Int) ((i + 1 : Nat) : Int)) (fun k => by
        simp only [reply_lengths.l0]
        rw [if_pos (by omega), if_pos (by omega), if_pos (by omega), hr, e0]
        simp only [Option.bind_some]
        rw [B_toList, if_neg g, hw]) ?_
      have := ih (i + 1) acc (by omega) (by omega) (by omega)
      rw [e2]
      exact this
theorem lengths_f (hs : List S26) (hl : okH hs) (h100 : hs.length ≤ 100) : Ev (fun k => reply_lengths.f k hs) (lensS hs) := by
  have := lengths_l hs hl h100 hs.length 0 [] (by omega) (by omega) (by simp)
  simp only [List.nil_append, List.drop_zero] at this
  exact this
def bodyS (hs : List S26) (s : List UInt8) : ByteArray × Bool × Bool :=
  match lensS hs with
  | [] => (B s, false, true)
  | v :: r => if (numS v.data.toList).2 = true ∧ r = [] then (B (s.take (numS v.data.toList).1.toNat), decide ((s.length : Int) < (numS v.data.toList).1), true) else (⟨#[]⟩, false, false)
theorem body_f (hs : List S26) (s : List UInt8) (hl : okH hs) (h100 : hs.length ≤ 100) : Ev (fun k => reply_body.f k hs (B s)) (bodyS hs s) := by
  unfold reply_body.f
  refine Ev.bind (lengths_f hs hl h100) ?_
  unfold bodyS
  rcases lensS hs with _ | ⟨v, r⟩
  · exact Ev.congr (f := fun _ => some (B s, false, true)) (fun k => if_pos (by simp)) (Ev.now _)
  · refine Ev.congr (fun k => by rw [if_neg (by simp; omega), if_pos (by simp)]) ?_
    have hr : rdOf ByteArray.empty (v :: r) 0 = B v.data.toList := rfl
    dsimp only
    rw [hr]
    refine Ev.bind (number_f v.data.toList) ?_
    have hb := numS_bound v.data.toList
    generalize numS v.data.toList = x at *
    refine Ev.congr (f := fun _ => some _) (fun k => ?_) (Ev.now _)
    by_cases a : x.2 = true
    · by_cases b : r = []
      · subst b
        have hm : mn x.1 ((B s).size : Int) = ((min x.1.toNat s.length : Nat) : Int) := by rw [B_size]; unfold mn; split <;> omega
        rw [if_pos a, if_neg (by simp), hm, if_pos (by omega), if_pos (by rw [B_size]; omega), B_extract, if_pos ⟨a, rfl⟩]
        simp only [B_size, Int.toNat_natCast, List.drop_zero]
        by_cases hle : x.1.toNat ≤ s.length
        · rw [Nat.min_eq_left hle]
        · rw [Nat.min_eq_right (by omega), List.take_of_length_le (Nat.le_refl _), List.take_of_length_le (by omega)]
      · rw [if_pos a, if_pos (by rcases r with _ | ⟨b, r⟩; exact absurd rfl (by assumption); simp; omega), if_neg (fun h => b h.2)]
    · rw [if_neg a, if_neg (fun h => a h.1)]
theorem bad_parse (k : Nat) (x5 : ByteArray) (c : Int) (x : ByteArray) (b : Bool) : reply_Parse.j0 (k + 1) x5 true c x b = some (0, ([] : List (S26)), (⟨#[]⟩ : ByteArray), false, 2) := by
  simp only [reply_Parse.j0, if_true]
def badP : Int × List S26 × ByteArray × Bool × Int := (0, [], ⟨#[]⟩, false, 2)
/-- No first line. -/
theorem parse_none (s : List UInt8) (hz : s.length < 4294967281) (h : Lib.cut s [13, 10] = (s, [], false)) : Ev (fun k => reply_Parse.f k (B s)) badP := by
  unfold reply_Parse.f
  have e1 : strings_Cut.f (B s) (⟨#[13, 10]⟩ : ByteArray) = _ := cut_f s [13, 10] hz
  rw [h] at e1
  simp only [e1, Option.bind_some]
  refine Ev.bind (code_f s) ?_
  by_cases g : codeS s = 0
  · exact Ev.congr (fun k => if_pos g) (Ev.step (f := fun _ => some badP) (fun k => bad_parse k _ _ _ _) (Ev.now _))
  · refine Ev.congr (fun k => if_neg g) ?_
    rw [show (((B s).size : Int) == ((B s).size : Int)) = true by simp]
    exact Ev.step (f := fun _ => some badP) (fun k => bad_parse k _ _ _ _) (Ev.now _)
theorem parse_code (s l r : List UInt8) (hz : s.length < 4294967281) (h : Lib.cut s [13, 10] = (l, r, true)) (hc : codeS l = 0) : Ev (fun k => reply_Parse.f k (B s)) badP := by
  unfold reply_Parse.f
  have e1 : strings_Cut.f (B s) (⟨#[13, 10]⟩ : ByteArray) = _ := cut_f s [13, 10] hz
  rw [h] at e1
  simp only [e1, Option.bind_some]
  refine Ev.bind (code_f l) ?_
  exact Ev.congr (fun k => if_pos hc) (Ev.step (f := fun _ => some badP) (fun k => bad_parse k _ _ _ _) (Ev.now _))
theorem parse_lines (s l r : List UInt8) (res : List S26 × ByteArray × Bool) (hz : s.length < 4294967281) (h : Lib.cut s [13, 10] = (l, r, true)) (hl : l.length < s.length) (hc : codeS l ≠ 0) (he : Ev (fun k => reply_lines.f k (B r)) res) (hf : res.2.2 = false) : Ev (fun k => reply_Parse.f k (B s)) badP := by
  unfold reply_Parse.f
  have e1 : strings_Cut.f (B s) (⟨#[13, 10]⟩ : ByteArray) = _ := cut_f s [13, 10] hz
  rw [h] at e1
  simp only [e1, Option.bind_some]
  refine Ev.bind (code_f l) ?_
  refine Ev.congr (fun k => if_neg hc) ?_
  rw [show (((B l).size : Int) == ((B s).size : Int)) = false by rw [B_size, B_size]; simp; omega]
  refine Ev.step (fun k => by simp only [reply_Parse.j0]; rw [if_neg (by decide)]) ?_
  refine Ev.bind he ?_
  rw [hf]
  exact Ev.now _
theorem parse_ok (s l r q : List UInt8) (hs : List S26) (hz : s.length < 4294967281) (h : Lib.cut s [13, 10] = (l, r, true)) (hl : l.length < s.length) (hc : codeS l ≠ 0) (he : Ev (fun k => reply_lines.f k (B r)) (hs, B q, true)) (ho : okH hs) (h100 : hs.length ≤ 100) :
    Ev (fun k => reply_Parse.f k (B s)) (if (bodyS hs q).2.2 = true then (codeS l, hs, (bodyS hs q).1, (bodyS hs q).2.1, 0) else badP) := by
  unfold reply_Parse.f
  have e1 : strings_Cut.f (B s) (⟨#[13, 10]⟩ : ByteArray) = _ := cut_f s [13, 10] hz
  rw [h] at e1
  simp only [e1, Option.bind_some]
  refine Ev.bind (code_f l) ?_
  refine Ev.congr (fun k => if_neg hc) ?_
  rw [show (((B l).size : Int) == ((B s).size : Int)) = false by rw [B_size, B_size]; simp; omega]
  refine Ev.step (fun k => by simp only [reply_Parse.j0]; rw [if_neg (by decide)]) ?_
  refine Ev.bind he ?_
  simp only [if_true]
  refine Ev.bind (body_f hs q ho h100) ?_
  refine Ev.congr (f := fun _ => some _) (fun k => ?_) (Ev.now _)
  split <;> rfl
theorem strOf1 (n : Nat) : strOfNums [wrap64 (48 + Int.tmod (n : Int) 10) % 256] = B [UInt8.ofNat (48 + n % 10)] := by
  have e : wrap64 (48 + Int.tmod (n : Int) 10) % 256 = ((48 + n % 10 : Nat) : Int) := by
    have h1 : Int.tmod (n : Int) 10 = ((n % 10 : Nat) : Int) := by
      rw [Int.tmod_eq_emod_of_nonneg (by omega)]
      omega
    rw [h1, w64 (y := ((48 + n % 10 : Nat) : Int)) (by omega) (by omega) (by omega)]
    omega
  rw [e]
  rfl
theorem tdivN (n : Nat) (h : n < 9223372036854775808) : wrap64 (Int.tdiv (n : Int) 10) = ((n / 10 : Nat) : Int) := by
  have h1 : Int.tdiv (n : Int) 10 = ((n / 10 : Nat) : Int) := by
    rw [Int.tdiv_eq_ediv_of_nonneg (by omega)]
    omega
  rw [h1]
  exact w64 rfl (by omega) (by omega)
theorem spell_l (a0 a1 : Int) (body : ByteArray) (n : Nat) : n < 9223372036854775808 → ∀ s : List UInt8, s.length + (Lib.decDigits n).length ≤ 1000000 → (s = [] ∨ 0 < n) →
    Ev (fun k => postilionlaw09_ReplyCuts.l0 k a0 a1 body (B (Lib.decDigits n ++ s)) 0) true → Ev (fun k => postilionlaw09_ReplyCuts.l0 k a0 a1 body (B s) (n : Int)) true := by
  induction n using Nat.strongRecOn with
  | _ n ih =>
    intro hn s hs h0 he
    have hq := strOf1 n
    have hd := tdivN n hn
    have step : Ev (fun k => postilionlaw09_ReplyCuts.l0 k a0 a1 body (B (UInt8.ofNat (48 + n % 10) :: s)) ((n / 10 : Nat) : Int)) true := by
      by_cases g : n < 10
      · rw [Giv.dec_small n g] at he
        rw [show n / 10 = 0 by omega, show n % 10 = n by omega]
        exact he
      · rw [Giv.dec_step n g, List.length_append, List.length_singleton] at hs
        refine ih (n / 10) (by omega) (by omega) _ (by simp only [List.length_cons]; omega) (.inr (by omega)) ?_
        rw [Giv.dec_step n g, List.append_assoc] at he
        exact he
    have hz : (B [UInt8.ofNat (48 + n % 10)]).size + (B s).size ≤ 9223372036854775807 := by rw [B_size, B_size]; simp only [List.length_singleton]; omega
    by_cases gs : s = []
    · refine Ev.step (f := _) (fun k => by
        simp only [postilionlaw09_ReplyCuts.l0]
        rw [if_pos (by rw [B_toList]; exact gs)]
        simp only [Option.bind_some]
        rw [hq, if_pos hz, B_append, hd, List.singleton_append]) step
    · refine Ev.step (f := _) (fun k => by
        simp only [postilionlaw09_ReplyCuts.l0]
        rw [if_neg (by rw [B_toList]; exact gs), if_pos (by have := h0.resolve_left gs; omega)]
        simp only [Option.bind_some]
        rw [hq, if_pos hz, B_append, hd, List.singleton_append]) step
theorem take_line (l r : List UInt8) (c : Nat) (h : l.length + 2 ≤ c) : (l ++ 13 :: 10 :: r).take c = l ++ 13 :: 10 :: r.take (c - l.length - 2) := by
  rw [List.take_append, List.take_of_length_le (by omega)]
  congr 1
  obtain ⟨m, hm⟩ : ∃ m, c - l.length = m + 2 := ⟨c - l.length - 2, by omega⟩
  rw [hm]
  rfl
def etagL : List UInt8 := [101, 116, 97, 103, 58, 32, 120]
def clL : List UInt8 := [67, 111, 110, 116, 101, 110, 116, 45, 76, 101, 110, 103, 116, 104]
def codes : List (List UInt8) := [[50, 48, 48], [50, 48, 54], [53, 48, 51]]
def okH2 (D : List UInt8) : List S26 := [⟨B [101, 116, 97, 103], B [120]⟩, ⟨B clL, B D⟩]
theorem lens2 (D : List UInt8) : lensS (okH2 D) = [B D] := by
  unfold lensS okH2
  rw [List.filter_cons_of_neg (by rw [data_B]; decide), List.filter_cons_of_pos (by rw [data_B]; decide)]
  rfl
theorem trim_dig (D : List UInt8) (h : ∀ c ∈ D, isD c = true) : Lib.trimB (32 :: D) 32 = D := by
  have hr : Lib.trimRightB (32 :: D) 32 = 32 :: D ∨ D = [] := by
    by_cases hD : D = []
    · exact .inr hD
    · refine .inl ?_
      have := Lib.trimRightB_take (32 :: D) 32 (32 :: D).length (Nat.le_refl _) (fun j b hj hb => by
        rw [List.getElem?_eq_none hj] at hb
        cases hb) (fun b _ hb => by
        have hm : b ∈ D := by
          have hlen : 0 < D.length := List.length_pos_iff.2 hD
          rw [List.length_cons, Nat.add_sub_cancel, show D.length = (D.length - 1) + 1 by omega, List.getElem?_cons_succ] at hb
          exact List.mem_of_getElem? hb
        have := h b hm
        intro e
        rw [e] at this
        revert this
        decide)
      rwa [List.take_length] at this
  have hl : Lib.trimLeftB (32 :: D) 32 = D := by
    have := Lib.trimLeftB_drop (32 :: D) 32 1 (by simp) (fun j b hj hb => by
      rw [show j = 0 by omega] at hb
      simpa using hb.symm) (fun b hb => by
      have hm : b ∈ D := by
        rw [List.getElem?_cons_succ] at hb
        exact List.mem_of_getElem? hb
      have := h b hm
      intro e
      rw [e] at this
      revert this
      decide)
    simpa using this
  unfold Lib.trimB
  rcases hr with hr | rfl
  · rw [hr, hl]
  · rfl
theorem one_cl (D : List UInt8) (h : ∀ c ∈ D, isD c = true) (hD : D.length ≤ 40) : oneS (clL ++ 58 :: 32 :: D) = (clL, D, true) := by
  unfold oneS
  rw [cut_yes clL (32 :: D) 58 (by decide)]
  dsimp only
  rw [trim_dig D h]
  have hv : valueS D = true := by
    unfold valueS
    rw [decide_eq_true hD, Bool.true_and, List.all_eq_true]
    intro c hc
    have := h c hc
    unfold isD at this
    unfold okV
    simp only [Bool.and_eq_true, decide_eq_true_eq] at this ⊢
    omega
  rw [hv, show nameS clL = true by decide]
  rfl
theorem parse_cut (C : List UInt8) (hC : C ∈ codes) (D body : List UInt8) (hd : ∀ c ∈ D, isD c = true) (h1 : 1 ≤ D.length) (h6 : D.length ≤ 6) (hb : body.length ≤ 1000) (hn : numS D = ((body.length : Int), true)) (c : Nat) :
    Ev (fun k => reply_Parse.f k (B (((httpL ++ C ++ [32, 45]) ++ 13 :: 10 :: (etagL ++ 13 :: 10 :: ((clL ++ 58 :: 32 :: D) ++ 13 :: 10 :: ([] ++ 13 :: 10 :: body)))).take c)))
      (if c < 45 + D.length then badP else (codeS (httpL ++ C ++ [32, 45]), okH2 D, B (body.take (c - (45 + D.length))), decide ((c - (45 + D.length) : Nat) < body.length), 0)) := by
  have hC3 : C.length = 3 ∧ codeS (httpL ++ C ++ [32, 45]) ≠ 0 ∧ (13 : UInt8) ∉ httpL ++ C ++ [32, 45] := by
    revert C
    decide
  obtain ⟨hl, hc0, hcr⟩ := hC3
  generalize hL1 : httpL ++ C ++ [32, 45] = L1 at *
  have hl1 : L1.length = 14 := by rw [← hL1]; simp [httpL, hl]
  clear hL1
  have hD13 : (13 : UInt8) ∉ D := fun h => by
    have := hd 13 h
    revert this
    decide
  have hcl : (13 : UInt8) ∉ clL ++ 58 :: 32 :: D := by
    intro h
    rcases List.mem_append.1 h with h | h
    · revert h; decide
    · simp only [List.mem_cons] at h
      rcases h with h | h | h
      · revert h; decide
      · revert h; decide
      · exact hD13 h
  have hel : etagL.length = 7 := rfl
  have hcll : (clL ++ 58 :: 32 :: D).length = 16 + D.length := by simp [clL]; omega
  generalize hR3 : ([] ++ 13 :: 10 :: body : List UInt8) = R3
  generalize hR2 : (clL ++ 58 :: 32 :: D) ++ 13 :: 10 :: R3 = R2
  generalize hR1 : etagL ++ 13 :: 10 :: R2 = R1
  have z3 : R3.length = body.length + 2 := by rw [← hR3]; simp
  have z2 : R2.length = 18 + D.length + R3.length := by rw [← hR2, List.length_append, hcll]; simp only [List.length_cons]; omega
  have z1 : R1.length = 9 + R2.length := by rw [← hR1, List.length_append]; simp only [List.length_cons, show etagL.length = 7 from rfl]; omega
  by_cases c1 : c < L1.length + 2
  · rw [if_pos (by omega)]
    exact parse_none _ (by rw [List.length_take, List.length_append]; simp only [List.length_cons]; omega) (cut2_short L1 R1 c hcr c1)
  · rw [take_line L1 R1 c (by omega)]
    have hcut : Lib.cut (L1 ++ 13 :: 10 :: R1.take (c - L1.length - 2)) [13, 10] = _ := cut2_yes L1 _ hcr
    have hz : (L1 ++ 13 :: 10 :: R1.take (c - L1.length - 2)).length < 4294967281 := by rw [List.length_append]; simp only [List.length_cons, List.length_take]; omega
    have hlt : L1.length < (L1 ++ 13 :: 10 :: R1.take (c - L1.length - 2)).length := by rw [List.length_append]; simp only [List.length_cons]; omega
    have bad : Ev (fun k => reply_lines.f k (B (R1.take (c - L1.length - 2)))) ([], ⟨#[]⟩, false) → Ev (fun k => reply_Parse.f k (B (L1 ++ 13 :: 10 :: R1.take (c - L1.length - 2)))) badP :=
      fun he => parse_lines _ L1 _ _ hz hcut hlt hc0 he rfl
    generalize hc1 : c - L1.length - 2 = d1 at *
    have t1 : (13 : UInt8) ∉ etagL := by decide
    by_cases c2 : d1 < etagL.length + 2
    · rw [if_pos (by simp only [show etagL.length = 7 from rfl] at c2; omega)]
      refine bad ?_
      rw [← hR1]
      refine lines_none _ [] (by rw [hR1, List.length_take]; omega) ?_
      rw [cut2_short etagL R2 d1 t1 c2]
    · have e1 : R1.take d1 = etagL ++ 13 :: 10 :: R2.take (d1 - etagL.length - 2) := by rw [← hR1, take_line etagL R2 d1 (by omega)]
      have o1 : oneS etagL = ([101, 116, 97, 103], [120], true) := by decide
      have z1' : (etagL ++ 13 :: 10 :: R2.take (d1 - etagL.length - 2)).length < 4294967281 := by rw [List.length_append]; simp only [List.length_cons, List.length_take]; omega
      have more1 : ∀ res, Ev (fun k => reply_lines.l0 k (B (R2.take (d1 - etagL.length - 2))) [⟨B [101, 116, 97, 103], B [120]⟩]) res → Ev (fun k => reply_lines.f k (B (R1.take d1))) res := fun res he => by
        rw [e1]
        refine lines_more _ etagL _ [] res z1' (cut2_yes etagL _ t1) (by decide) (by rw [o1]) (by simp) ?_
        rw [o1]
        exact he
      generalize hc2 : d1 - etagL.length - 2 = d2 at *
      simp only [show etagL.length = 7 from rfl] at c2 hc2
      by_cases c3 : d2 < (clL ++ 58 :: 32 :: D).length + 2
      · rw [if_pos (by omega)]
        refine bad (more1 _ ?_)
        rw [← hR2]
        refine lines_none _ _ (by rw [hR2, List.length_take]; omega) ?_
        rw [cut2_short _ R3 d2 hcl c3]
      · have e2 : R2.take d2 = (clL ++ 58 :: 32 :: D) ++ 13 :: 10 :: R3.take (d2 - (clL ++ 58 :: 32 :: D).length - 2) := by rw [← hR2, take_line _ R3 d2 (by omega)]
        have o2 := one_cl D hd (by omega)
        have z2' : ((clL ++ 58 :: 32 :: D) ++ 13 :: 10 :: R3.take (d2 - (clL ++ 58 :: 32 :: D).length - 2)).length < 4294967281 := by rw [List.length_append]; simp only [List.length_cons, List.length_take]; omega
        have more2 : ∀ res, Ev (fun k => reply_lines.l0 k (B (R3.take (d2 - (clL ++ 58 :: 32 :: D).length - 2))) (okH2 D)) res → Ev (fun k => reply_lines.l0 k (B (R2.take d2)) [⟨B [101, 116, 97, 103], B [120]⟩]) res := fun res he => by
          rw [e2]
          refine lines_more _ (clL ++ 58 :: 32 :: D) _ _ res z2' (cut2_yes _ _ hcl) (by simp) (by rw [o2]) (by simp) ?_
          rw [o2]
          exact he
        generalize hc3 : d2 - (clL ++ 58 :: 32 :: D).length - 2 = d3 at *
        rw [hcll] at c3 hc3
        by_cases c4 : d3 < 2
        · rw [if_pos (by omega)]
          refine bad (more1 _ (more2 _ ?_))
          rw [← hR3]
          refine lines_none _ _ (by rw [hR3, List.length_take]; omega) ?_
          rw [cut2_short [] body d3 (by simp) (by simpa using c4)]
        · rw [if_neg (by omega)]
          have e3 : R3.take d3 = [] ++ 13 :: 10 :: body.take (d3 - 2) := by rw [← hR3, take_line [] body d3 (by simpa using c4)]; simp
          have fin : Ev (fun k => reply_lines.l0 k (B (R3.take d3)) (okH2 D)) (okH2 D, B (body.take (d3 - 2)), true) := by
            rw [e3]
            exact lines_end _ _ _ (by simp; omega) (cut2_yes [] _ (by simp))
          have okk : okH (okH2 D) := ⟨by simp [okH2], fun h hm => by
            simp only [okH2, List.mem_cons, List.not_mem_nil, or_false] at hm
            rcases hm with rfl | rfl
            · exact ⟨by simp only [B_size]; decide, by simp only [B_size]; decide⟩
            · exact ⟨by simp only [B_size]; decide, by simp only [B_size]; omega⟩⟩
          have := parse_ok _ L1 _ (body.take (d3 - 2)) (okH2 D) hz hcut hlt hc0 (more1 _ (more2 _ fin)) okk (by simp [okH2])
          have hbody : bodyS (okH2 D) (body.take (d3 - 2)) = (B (body.take (d3 - 2)), decide (d3 - 2 < body.length), true) := by
            unfold bodyS
            rw [lens2]
            dsimp only
            rw [data_B, hn, if_pos ⟨rfl, rfl⟩]
            have q1 : (body.take (d3 - 2)).take ((body.length : Int)).toNat = body.take (d3 - 2) := by
              rw [Int.toNat_natCast]
              exact List.take_of_length_le (by rw [List.length_take]; omega)
            have q2 : decide ((((body.take (d3 - 2)).length : Nat) : Int) < (body.length : Int)) = decide (d3 - 2 < body.length) := by
              rw [decide_eq_decide, List.length_take]
              omega
            rw [q1, q2]
          rw [hbody] at this
          simp only [if_true] at this
          rw [show c - (45 + D.length) = d3 - 2 by omega]
          exact this
theorem wakes09_f : Ev (fun k => postilionlaw09_wakes.f k) true := by
  unfold postilionlaw09_wakes.f
  have hcut : Lib.cut [72, 84, 84, 80, 47, 49, 46, 49, 32, 50, 48, 48, 32, 45, 13, 10, 13, 10] [13, 10] = ([72, 84, 84, 80, 47, 49, 46, 49, 32, 50, 48, 48, 32, 45], [13, 10], true) := by decide
  have hc : codeS [72, 84, 84, 80, 47, 49, 46, 49, 32, 50, 48, 48, 32, 45] = 200 := by decide
  have := parse_ok _ _ [13, 10] [] [] (by decide) hcut (by decide) (by rw [hc]; decide) (lines_end [13, 10] [] [] (by decide) (by decide)) ⟨by decide, fun h hm => by cases hm⟩ (by decide)
  have hb : bodyS [] [] = (B [], false, true) := rfl
  rw [hc, hb] at this
  simp only [if_true] at this
  refine Ev.bind this ?_
  refine Ev.congr (f := fun _ => some true) (fun k => ?_) (Ev.now _)
  simp [B_toList]
def midL : List UInt8 := [32, 45, 13, 10, 101, 116, 97, 103, 58, 32, 120, 13, 10, 67, 111, 110, 116, 101, 110, 116, 45, 76, 101, 110, 103, 116, 104, 58, 32]
theorem cuts_end (a0 a1 : Int) (body : List UInt8) (hb : body.length ≤ 60) : Ev (fun k => postilionlaw09_ReplyCuts.l0 k a0 a1 (B body) (B (Lib.decDigits body.length)) 0) true := by
  have hd := dec_isD body.length
  have hn : numS (Lib.decDigits body.length) = ((body.length : Int), true) := by rw [numS_dec, if_pos (by omega)]
  have h1 := dec_pos body.length
  have h6 := Giv.dec_len 2 body.length (by omega)
  generalize Lib.decDigits body.length = D at *
  have b3 := Int.emod_nonneg a0 (show (3 : Int) ≠ 0 by decide)
  have c3 := Int.emod_lt_of_pos a0 (show (0 : Int) < 3 by decide)
  have e3 := within_f a0 3 (by decide) (by decide)
  obtain ⟨C, hC, hX⟩ : ∃ C ∈ codes, rdOf ByteArray.empty [(⟨#[50, 48, 48]⟩ : ByteArray), (⟨#[50, 48, 54]⟩ : ByteArray), (⟨#[53, 48, 51]⟩ : ByteArray)] (a0 % 3) = B C := by
    have : a0 % 3 = 0 ∨ a0 % 3 = 1 ∨ a0 % 3 = 2 := by omega
    rcases this with h | h | h <;> rw [h]
    · exact ⟨[50, 48, 48], by decide, rfl⟩
    · exact ⟨[50, 48, 54], by decide, rfl⟩
    · exact ⟨[53, 48, 51], by decide, rfl⟩
  generalize a0 % 3 = t at *
  have hC3 : C.length = 3 := by
    clear hX
    revert C
    decide
  have hcat : ((((⟨#[72, 84, 84, 80, 47, 49, 46, 49, 32]⟩ : ByteArray) ++ B C) ++ (⟨#[32, 45, 13, 10, 101, 116, 97, 103, 58, 32, 120, 13, 10, 67, 111, 110, 116, 101, 110, 116, 45, 76, 101, 110, 103, 116, 104, 58, 32]⟩ : ByteArray)) ++ B D) ++ (⟨#[13, 10, 13, 10]⟩ : ByteArray) = B (httpL ++ C ++ midL ++ D ++ [13, 10, 13, 10]) := by
    show (((B httpL ++ B C) ++ B midL) ++ B D) ++ B [13, 10, 13, 10] = _
    simp only [B_append]
  have hT : httpL ++ C ++ midL ++ D ++ [13, 10, 13, 10] ++ body = (httpL ++ C ++ [32, 45]) ++ 13 :: 10 :: (etagL ++ 13 :: 10 :: ((clL ++ 58 :: 32 :: D) ++ 13 :: 10 :: ([] ++ 13 :: 10 :: body))) := by
    simp [midL, etagL, clL]
  have hH : (httpL ++ C ++ midL ++ D ++ [13, 10, 13, 10]).length = 45 + D.length := by
    simp only [List.length_append, hC3, show httpL.length = 9 from rfl, show midL.length = 29 from rfl, show ([13, 10, 13, 10] : List UInt8).length = 4 from rfl]
    omega
  have pc := parse_cut C hC D body hd h1 (by omega) (by omega) hn
  rw [← hT] at pc
  generalize hHH : httpL ++ C ++ midL ++ D ++ [13, 10, 13, 10] = H at *
  have hw : wrap64 (9 + (C.length : Int) + 29 + (D.length : Int) + 4 + (body.length : Int) + 1) = (((H ++ body).length + 1 : Nat) : Int) := by
    rw [List.length_append]
    exact w64 (by omega) (by omega) (by omega)
  obtain ⟨c, hc, hcl⟩ : ∃ c : Nat, (c : Int) = a1 % (((H ++ body).length + 1 : Nat) : Int) ∧ c ≤ (H ++ body).length := by
    have p1 := Int.emod_nonneg a1 (show (((H ++ body).length + 1 : Nat) : Int) ≠ 0 by omega)
    have p2 := Int.emod_lt_of_pos a1 (show (0 : Int) < (((H ++ body).length + 1 : Nat) : Int) by omega)
    exact ⟨(a1 % (((H ++ body).length + 1 : Nat) : Int)).toNat, by omega, by omega⟩
  have ec := within_f a1 (((H ++ body).length + 1 : Nat) : Int) (by omega) (by rw [List.length_append]; omega)
  rw [← hc] at ec
  have hDne : (B D).toList ≠ [] := by
    rw [B_toList]
    intro h
    rw [h] at h1
    simp at h1
  have hcodeNe : codeS (httpL ++ C ++ [32, 45]) = codeS (httpL ++ C ++ [32, 45]) := rfl
  have q1 : (9 + C.length ≤ 9223372036854775807) = True := eq_true (by omega)
  have q2 : (9 + C.length + 29 ≤ 9223372036854775807) = True := eq_true (by omega)
  have q3 : (9 + C.length + 29 + D.length ≤ 9223372036854775807) = True := eq_true (by omega)
  have q4 : (9 + C.length + 29 + D.length + 4 ≤ 9223372036854775807) = True := eq_true (by omega)
  have q5 : (9 + C.length + 29 + D.length + 4 + body.length ≤ 9223372036854775807) = True := eq_true (by omega)
  have q6 : (0 ≤ (c : Int)) = True := eq_true (by omega)
  have q7 : ((c : Int) ≤ 9 + (C.length : Int) + 29 + (D.length : Int) + 4 + (body.length : Int)) = True := eq_true (by rw [List.length_append] at hcl; omega)
  have qH : (9 + (C.length : Int) + 29 + (D.length : Int) + 4).toNat = H.length := by omega
  have q8 : (0 ≤ t) = True := eq_true b3
  have q9 : (t < ((([(⟨#[50, 48, 48]⟩ : ByteArray), (⟨#[50, 48, 54]⟩ : ByteArray), (⟨#[53, 48, 51]⟩ : ByteArray)] : List ByteArray).length : Nat) : Int)) = True := eq_true (by simp only [List.length_cons, List.length_nil]; omega)
  refine Ev.step (f := _) (fun k => by
    simp only [postilionlaw09_ReplyCuts.l0]
    rw [if_neg hDne, if_neg (by omega)]) ?_
  simp only [Option.bind_some, e3, hX, hcat, B_append, B_size, q1, q2, q3, q4, q5, q8, q9, if_true, hw, ec, q6, q7, B_extract, List.drop_zero, Int.toNat_natCast, qH]
  refine Ev.bind (pc c) ?_
  by_cases g : c < 45 + D.length
  · simp only [if_pos g]
    refine Ev.congr (fun k => by rw [if_pos (by omega), if_pos (show badP.2.2.2.2 = 2 from rfl), if_pos (show badP.1 = 0 from rfl), if_pos (show badP.2.2.1.toList = [] by rw [ByteArray.toList_eq]; rfl)]) ?_
    exact Ev.bind wakes09_f (Ev.now _)
  · simp only [if_neg g]
    refine Ev.congr (fun k => if_neg (by omega)) ?_
    simp only [if_true]
    refine Ev.congr (fun k => by rw [if_pos (by omega), if_pos (by omega), if_pos (by
      rw [B_toList, B_toList, hH, List.drop_take, List.drop_left' hH]), if_pos (by
      rw [beq_iff_eq, decide_eq_decide]; omega), if_pos (by rfl)]) ?_
    exact Ev.bind wakes09_f (Ev.now _)
theorem ReplyCuts (a0 a1 : Int) (l2 : List Int) (_w0 : (Lit.int .i64 a0).wf = true) (_w1 : (Lit.int .i64 a1).wf = true) (_m2 : l2.length ≤ maxLen) (_b2 : l2.length * 1 ≤ 140737488351232) (_w2 : ∀ x ∈ l2, (Lit.int .u8 x).wf = true) : ∃ k, postilionlaw09_ReplyCuts.f k a0 a1 l2 = some true := by
  refine Ev.rounds ?_
  unfold postilionlaw09_ReplyCuts.f
  have hm : mn (l2.length : Int) 60 = ((min l2.length 60 : Nat) : Int) := by unfold mn; split <;> omega
  have hcut : postilionkeep_Cut_byte.f l2 60 = some (l2.take (min l2.length 60)) := by
    unfold postilionkeep_Cut_byte.f postilionkeep_Copy_byte.f
    rw [hm, if_pos (by omega), if_pos (by omega), Int.toNat_natCast, if_pos (by simp only [List.length_nil, List.length_take]; omega)]
    rfl
  rw [hcut]
  simp only [Option.bind_some]
  have hlen : (l2.take (min l2.length 60)).length ≤ 60 := by rw [List.length_take]; omega
  generalize l2.take (min l2.length 60) = x at *
  obtain ⟨body, hbody⟩ := ex_B (strOfNums x)
  have hz : body.length = x.length := by
    have := congrArg ByteArray.size hbody
    rw [strOfNums_size, B_size] at this
    exact this.symm
  rw [hbody, B_size]
  have hd := Giv.dec_len 2 body.length (by omega)
  refine spell_l a0 a1 (B body) body.length (by omega) [] (by simp only [List.length_nil]; omega) (.inl rfl) ?_
  rw [List.append_nil]
  exact cuts_end a0 a1 body (by omega)
end Go.Proofs.YtiabjeeelgkneaaDoor.Pure
