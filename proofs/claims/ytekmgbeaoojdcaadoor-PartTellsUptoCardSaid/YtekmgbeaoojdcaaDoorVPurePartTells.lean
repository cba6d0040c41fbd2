/- What the printed functions of PartTells answer, in plain words. -/
import Derived.Test.YtekmgbeaoojdcaaDoorVBas
import Derived.Test.YtekmgbeaoojdcaaDoorVGPartTellsx
namespace Go.Proofs.YtekmgbeaoojdcaaDoor.Pure
open Go.RowKit Go.Proofs.YtekmgbeaoojdcaaDoorW.PrintWords Go.Proofs.YtekmgbeaoojdcaaDoorW.PrintLast Go.Proofs.YtekmgbeaoojdcaaDoorW.PrintMore
open Go.Proofs.YtekmgbeaoojdcaaDoor.GPartTells Go.Proofs.YtekmgbeaoojdcaaDoor.GivP Go.Proofs.YtekmgbeaoojdcaaDoor.GivS Go.Proofs.YtekmgbeaoojdcaaDoor.Bas Go.Proofs.YtekmgbeaoojdcaaDoor.Giv
theorem within_f (a n : Int) (h : 1 ≤ n) (hn : n ≤ 4611686018427387904) : postilionkeep_Within.f a n = some (a % n) := by
  unfold postilionkeep_Within.f
  rw [if_neg (by omega), if_neg (by omega), ← tmod_emod a n h hn]
  split <;> rfl
theorem w64 {x y : Int} (h : x = y) (h1 : -9223372036854775808 ≤ x) (h2 : x ≤ 9223372036854775807) : wrap64 x = y := by
  subst h
  unfold wrap64
  omega
theorem number_l (l : List UInt8) (hl : l.length ≤ 6) : ∀ (d i : Nat) (n : Int), l.length - i = d → i ≤ l.length → 0 ≤ n → n < 10 ^ i →
    Ev (fun k => reply_Number.l0 k (B l) n (l.length : Int) (i : Int)) (if (l.drop i).all isD = true then (numV n (l.drop i), true) else (0, false)) := by
  intro d
  induction d with
  | zero =>
    intro i n hd hi h0 h1
    refine Ev.step (f := fun _ => some (n, true)) (fun k => by simp only [reply_Number.l0]; rw [if_neg (by omega)]) ?_
    rw [List.drop_eq_nil_of_le (by omega)]
    exact Ev.now _
  | succ d ih =>
    intro i n hd hi h0 h1
    have hlt : i < l.length := by omega
    have hb := bt_B l i hlt
    have hc : (l[i].toNat : Int) < 256 := by have := l[i].toNat_lt; omega
    have h6 : (10 : Int) ^ i ≤ 100000 := by
      have : i = 0 ∨ i = 1 ∨ i = 2 ∨ i = 3 ∨ i = 4 ∨ i = 5 := by omega
      rcases this with rfl | rfl | rfl | rfl | rfl | rfl <;> decide
    have hs : l.drop i = l[i] :: l.drop (i + 1) := List.drop_eq_getElem_cons hlt
    by_cases h2 : (l[i].toNat : Int) < 48
    · refine Ev.step (f := fun _ => some (0, false)) (fun k => by simp only [reply_Number.l0]; rw [if_pos (by omega), if_pos (by omega), if_pos (by rw [B_size]; omega), hb, if_pos h2]) ?_
      rw [hs, if_neg (by rw [List.all_cons, isD_no (.inl (by omega))]; simp)]
      exact Ev.now _
    · by_cases h3 : (l[i].toNat : Int) > 57
      · refine Ev.step (f := fun _ => some (0, false)) (fun k => by simp only [reply_Number.l0]; rw [if_pos (by omega), if_pos (by omega), if_pos (by rw [B_size]; omega), hb, if_neg h2, if_pos h3]) ?_
        rw [hs, if_neg (by rw [List.all_cons, isD_no (.inr (by omega))]; simp)]
        exact Ev.now _
      · have hw : wrap64 (wrap64 (10 * n) + ((l[i].toNat : Int) - 48) % 256) = 10 * n + ((l[i].toNat : Int) - 48) := by unfold wrap64; omega
        have hw2 : wrap64 ((i : Int) + 1) = ((i + 1 : Nat) : Int) := by unfold wrap64; omega
        refine Ev.step (f := fun k => reply_Number.l0 k (B l) (10 * n + ((l[i].toNat : Int) - 48)) (l.length : Int) ((i + 1 : Nat) : Int)) (fun k => by simp only [reply_Number.l0]; rw [if_pos (by omega), if_pos (by omega), if_pos (by rw [B_size]; omega), hb, if_neg h2, if_neg h3, hw, hw2]) ?_
        have := ih (i + 1) (10 * n + ((l[i].toNat : Int) - 48)) (by omega) (by omega) (by omega) (by rw [Int.pow_succ]; omega)
        rw [hs]
        have hd : isD l[i] = true := isD_yes (by omega) (by omega)
        simp only [List.all_cons, hd, Bool.true_and]
        exact this
theorem number_f (l : List UInt8) : Ev (fun k => reply_Number.f k (B l)) (numS l) := by
  by_cases h1 : l.length < 1
  · refine Ev.congr (f := fun k => reply_Number.j0 k (B l) true) (fun k => by unfold reply_Number.f; rw [B_size, if_pos (by omega)]) ?_
    refine Ev.step (f := fun _ => some (0, false)) (fun k => by simp only [reply_Number.j0, if_true]) ?_
    unfold numS
    rw [if_neg (by omega)]
    exact Ev.now _
  · by_cases h2 : l.length ≤ 6
    · refine Ev.congr (f := fun k => reply_Number.j0 k (B l) false) (fun k => by unfold reply_Number.f; rw [B_size, if_neg (by omega), decide_eq_false (by omega)]) ?_
      refine Ev.step (f := fun k => reply_Number.l0 k (B l) 0 (l.length : Int) ((0 : Nat) : Int)) (fun k => by simp only [reply_Number.j0]; rw [if_neg (by simp), B_size]; rfl) ?_
      have := number_l l h2 l.length 0 0 (by omega) (by omega) (by omega) (by decide)
      simp only [List.drop_zero] at this
      unfold numS
      by_cases h3 : l.all isD = true
      · rw [if_pos h3] at this
        rw [if_pos ⟨by omega, h2, h3⟩]
        exact this
      · rw [if_neg h3] at this
        rw [if_neg (fun h => h3 h.2.2)]
        exact this
    · refine Ev.congr (f := fun k => reply_Number.j0 k (B l) true) (fun k => by unfold reply_Number.f; rw [B_size, if_neg (by omega), decide_eq_true (by omega)]) ?_
      refine Ev.step (f := fun _ => some (0, false)) (fun k => by simp only [reply_Number.j0, if_true]) ?_
      unfold numS
      rw [if_neg (by omega)]
      exact Ev.now _
theorem cut_f (l m : List UInt8) (h : l.length < 4294967281) : strings_Cut.f (B l) (B m) = some (B (Lib.cut l m).1, B (Lib.cut l m).2.1, (Lib.cut l m).2.2) := by
  unfold strings_Cut.f
  rw [if_pos (by rw [B_size]; exact h), data_B, data_B]
  rfl
theorem pre_f (l m : List UInt8) : strings_CutPrefix.f (B l) (B m) = some (if m.isPrefixOf l = true then (B (l.drop m.length), true) else (B l, false)) := by
  unfold strings_CutPrefix.f stringslite_CutPrefix.f stringslite_HasPrefix.f
  rw [B_size, B_size]
  by_cases h : m.length ≤ l.length
  · rw [if_pos (by omega), if_pos (by omega), if_pos (by omega)]
    simp only [Option.bind_some]
    rw [B_extract, B_toList, B_toList]
    have e : (((l.take (m.length : Int).toNat).drop 0 == m) = true) = (m.isPrefixOf l = true) := by
      rw [List.drop_zero, beq_iff_eq, List.isPrefixOf_iff_prefix, List.prefix_iff_eq_take]
      simp only [Int.toNat_natCast]
      exact propext ⟨fun h => h.symm, fun h => h.symm⟩
    by_cases h2 : m.isPrefixOf l = true
    · rw [if_pos (by rw [e]; exact h2), if_pos (by omega), if_pos (by omega), if_pos h2, B_extract]
      simp
    · rw [if_neg (by rw [e]; exact h2), if_neg h2]
      rfl
  · rw [if_neg (by omega)]
    have h2 : ¬ m.isPrefixOf l = true := by
      rw [List.isPrefixOf_iff_prefix]
      intro hp
      exact h hp.length_le
    rw [if_neg h2]
    rfl
def bytesL : List UInt8 := [98, 121, 116, 101, 115, 32]
/-- What a span of a content-range tells. -/
def spanS (s : List UInt8) : Int × Int × Int × Bool :=
  let rest := if bytesL.isPrefixOf s = true then s.drop 6 else s
  let c1 := Lib.cut rest [47]
  let c2 := Lib.cut c1.1 [45]
  let x := numS c2.1
  let y := numS c2.2.1
  let z := numS c1.2.1
  if bytesL.isPrefixOf s = true ∧ c1.2.2 = true ∧ c2.2.2 = true ∧ x.2 = true ∧ y.2 = true ∧ z.2 = true ∧ x.1 ≤ y.1 ∧ y.1 < z.1 then (x.1, y.1, z.1, true) else (0, 0, 0, false)
theorem cut1_le (l m : List UInt8) : (Lib.cut l m).1.length ≤ l.length := by
  unfold Lib.cut
  split
  · simp; omega
  · exact Nat.le_refl _
theorem span_f (s : List UInt8) (h : s.length < 4294967281) : Ev (fun k => part_Span.f k (B s)) (spanS s) := by
  have hr : (if bytesL.isPrefixOf s = true then s.drop 6 else s).length < 4294967281 := by
    split
    · rw [List.length_drop]; omega
    · exact h
  unfold part_Span.f
  have e1 : strings_CutPrefix.f (B s) (⟨#[98, 121, 116, 101, 115, 32]⟩ : ByteArray) = some (B (if bytesL.isPrefixOf s = true then s.drop 6 else s), bytesL.isPrefixOf s) := by
    refine (pre_f s bytesL).trans ?_
    by_cases hp : bytesL.isPrefixOf s = true
    · rw [if_pos hp, if_pos hp, hp]; rfl
    · rw [if_neg hp, if_neg hp, Bool.eq_false_iff.2 hp]
  have hsp : spanS s = spanS s := rfl
  unfold spanS at hsp ⊢
  generalize (if bytesL.isPrefixOf s = true then s.drop 6 else s) = rest at *
  have e2 := cut_f rest [47] hr
  have hc1 := cut1_le rest [47]
  have e3 := cut_f (Lib.cut rest [47]).1 [45] (by omega)
  simp only [e1, Option.bind_some]
  have e2' : strings_Cut.f (B rest) (⟨#[47]⟩ : ByteArray) = _ := e2
  have e3' : strings_Cut.f (B (Lib.cut rest [47]).1) (⟨#[45]⟩ : ByteArray) = _ := e3
  simp only [e2', Option.bind_some, e3']
  generalize Lib.cut rest [47] = c1 at *
  generalize Lib.cut c1.1 [45] = c2 at *
  refine Ev.bind (number_f c2.1) ?_
  refine Ev.bind (number_f c2.2.1) ?_
  refine Ev.bind (number_f c1.2.1) ?_
  generalize numS c2.1 = x
  generalize numS c2.2.1 = y
  generalize numS c1.2.1 = z
  refine Ev.congr (f := fun _ => some _) (fun _ => ?_) (Ev.now _)
  generalize bytesL.isPrefixOf s = p
  cases p <;> cases c1.2.2 <;> cases c2.2.2 <;> cases x.2 <;> cases y.2 <;> cases z.2 <;> simp
  by_cases h1 : y.1 < x.1
  · rw [if_pos h1, if_neg (by omega)]
  · rw [if_neg h1]
    by_cases h2 : z.1 ≤ y.1
    · rw [if_pos h2, if_neg (by omega)]
    · rw [if_neg h2, if_pos (by omega)]
def lowerS (l : List UInt8) : List UInt8 := l.map lowerB
theorem lower_f (l : List UInt8) (h : l.length ≤ 140737488351232) : pct_Lower.f (B l) = some (B (lowerS l)) := by
  unfold pct_Lower.f
  rw [if_pos (by rw [B_size]; exact h), data_B]
  rfl
/-- The value of a name. -/
def getS (name : List UInt8) (l : List S28) : ByteArray × Bool :=
  match l with
  | [] => (⟨#[]⟩, false)
  | h :: r => if lowerS h.f0.data.toList = lowerS name then (h.f1, true) else getS name r
def okH (l : List S28) : Prop := l.length ≤ 140737488351232 ∧ ∀ h ∈ l, h.f0.size ≤ 140737488351232 ∧ h.f1.size ≤ 140737488351232
theorem get_l (name : List UInt8) (hn : name.length ≤ 140737488351232) (l : List S28) (hl : okH l) : ∀ (d i : Nat), l.length - i = d → i ≤ l.length →
    Ev (fun k => head_Get.l0 k (B name) l (l.length : Int) (i : Int)) (getS name (l.drop i)) := by
  intro d
  induction d with
  | zero =>
    intro i hd hi
    refine Ev.step (f := fun _ => some (⟨#[]⟩, false)) (fun k => by simp only [head_Get.l0]; rw [if_neg (by omega)]) ?_
    rw [List.drop_eq_nil_of_le (by omega)]
    exact Ev.now _
  | succ d ih =>
    intro i hd hi
    have hlt : i < l.length := by omega
    have hs : l.drop i = l[i] :: l.drop (i + 1) := List.drop_eq_getElem_cons hlt
    have hr : rd_T28 l (i : Int) = l[i] := by
      unfold rd_T28
      simp [List.getD_eq_getElem?_getD, List.getElem?_eq_getElem hlt]
    have hw : wrap64 ((i : Int) + 1) = ((i + 1 : Nat) : Int) := by
      have := hl.1
      unfold wrap64
      omega
    have h0 := (hl.2 l[i] (List.getElem_mem hlt)).1
    have e0 : pct_Lower.f l[i].f0 = some (B (lowerS l[i].f0.data.toList)) := by
      have := lower_f l[i].f0.data.toList (by rw [data_length]; exact h0)
      rw [B_data] at this
      exact this
    have e1 := lower_f name hn
    rw [hs]
    unfold getS
    by_cases h : lowerS l[i].f0.data.toList = lowerS name
    · refine Ev.step (f := fun _ => some (l[i].f1, true)) (fun k => by
        simp only [head_Get.l0]
        rw [if_pos (by omega), if_pos (by omega), if_pos (by omega), hr, e0]
        simp only [Option.bind_some, e1]
        rw [B_toList, B_toList, if_pos h]) ?_
      rw [if_pos h]
      exact Ev.now _
    · refine Ev.step (f := fun k => head_Get.l0 k (B name) l (l.length : Int) ((i + 1 : Nat) : Int)) (fun k => by
        simp only [head_Get.l0]
        rw [if_pos (by omega), if_pos (by omega), if_pos (by omega), hr, e0]
        simp only [Option.bind_some, e1]
        rw [B_toList, B_toList, if_neg h, hw]) ?_
      rw [if_neg h]
      exact ih (i + 1) (by omega) (by omega)
theorem get_f (name : List UInt8) (hn : name.length ≤ 140737488351232) (l : List S28) (hl : okH l) : Ev (fun k => head_Get.f k (B name) l) (getS name l) := by
  have := get_l name hn l hl l.length 0 (by omega) (by omega)
  exact this
theorem getS_ok (name : List UInt8) : ∀ l : List S28, okH l → (getS name l).1.size ≤ 140737488351232
  | [], _ => by unfold getS; decide
  | h :: r, hl => by
    unfold getS
    split
    · exact (hl.2 h List.mem_cons_self).2
    · exact getS_ok name r ⟨by have := hl.1; simp at this; omega, fun x hx => hl.2 x (List.mem_cons_of_mem _ hx)⟩
def tagS (l : List S28) : ByteArray := if strongB (getS [101, 116, 97, 103] l).1 = true then (getS [101, 116, 97, 103] l).1 else ⟨#[]⟩
theorem strong_f (a : ByteArray) (h : a.size ≤ 140737488351232) : part_strong.f a = some (strongB a) := by
  unfold part_strong.f
  rw [if_pos h]
theorem tag_f (l : List S28) (hl : okH l) : Ev (fun k => part_Tag.f k l) (tagS l) := by
  unfold part_Tag.f
  refine Ev.bind (a := getS [101, 116, 97, 103] l) (get_f [101, 116, 97, 103] (by decide) l hl) ?_
  unfold tagS
  refine Ev.congr (f := fun _ => some _) (fun k => ?_) (Ev.now _)
  rw [strong_f _ (getS_ok _ l hl)]
  simp only [Option.bind_some]
  split <;> rfl
def decB (n : Nat) : ByteArray := B (Lib.decDigits n)
theorem itoa_f (n : Nat) (h : n ≤ 9223372036854775807) : strconv_Itoa.f (n : Int) = some (decB n) := by
  unfold strconv_Itoa.f
  rw [if_pos (by omega), if_pos (by omega)]
  unfold Lib.itoa
  rw [if_neg (by omega)]
  rfl
/-- What asks for the rest. -/
def headsS (got : Int) (tag : ByteArray) : List S28 :=
  if got < 1 then [] else if tag.toList = [] then [] else
    [⟨B [82, 97, 110, 103, 101], B ([98, 121, 116, 101, 115, 61] ++ Lib.decDigits got.toNat ++ [45])⟩, ⟨B [73, 102, 45, 82, 97, 110, 103, 101], tag⟩]
theorem heads_f (got : Int) (tag : ByteArray) (h : got ≤ 9223372036854775807) : part_Heads.f got tag = some (headsS got tag) := by
  unfold part_Heads.f headsS
  by_cases h1 : got < 1
  · rw [if_pos h1, if_pos h1]
  · rw [if_neg h1, if_neg h1]
    by_cases h2 : tag.toList = []
    · rw [if_pos h2, if_pos h2]
    · rw [if_neg h2, if_neg h2]
      have e := itoa_f got.toNat (by omega)
      rw [show ((got.toNat : Nat) : Int) = got by omega] at e
      have hl := Giv.dec_len 19 got.toNat (by have : (10 : Nat) ^ 19 = 10000000000000000000 := by decide
                                              omega)
      have hz : (decB got.toNat).size = (Lib.decDigits got.toNat).length := B_size _
      rw [e]
      simp only [Option.bind_some]
      rw [if_pos (by omega), if_pos (by omega)]
      have e2 : (⟨#[98, 121, 116, 101, 115, 61]⟩ : ByteArray) ++ decB got.toNat ++ (⟨#[45]⟩ : ByteArray) = B ([98, 121, 116, 101, 115, 61] ++ Lib.decDigits got.toNat ++ [45]) := by
        show B _ ++ B _ ++ B _ = _
        rw [B_append, B_append]
      rw [e2]
      rfl
theorem wakes15_f : Ev (fun k => postilionlaw15_wakes.f k) true := by
  unfold postilionlaw15_wakes.f
  rw [heads_f 0 _ (by decide), heads_f 3 _ (by decide)]
  simp only [Option.bind_some]
  have c0 : ((headsS 0 (⟨#[34, 97, 34]⟩ : ByteArray)).length : Int) = 0 := by decide
  have c3 : ((headsS 3 (⟨#[34, 97, 34]⟩ : ByteArray)).length : Int) = 2 := by
    unfold headsS
    rw [if_neg (by decide), if_neg (by rw [ByteArray.toList_eq]; decide)]
    rfl
  simp only [c0, c3, if_true]
  refine Ev.bind (tag_f _ ⟨by decide, fun h hm => by simp at hm; subst hm; decide⟩) ?_
  refine Ev.congr (f := fun _ => some true) (fun k => ?_) (Ev.now _)
  rw [ByteArray.toList_eq]
  congr 1
theorem digits_f (n : Int) (h : n ≤ 9223372036854775807) : postilionref01_Digits.f n = some (B (Lib.decDigits n.toNat)) := by
  unfold postilionref01_Digits.f
  rw [if_pos h]
  rfl
theorem spanS_of (x y z : Nat) : spanS (bytesL ++ Lib.decDigits x ++ [45] ++ Lib.decDigits y ++ [47] ++ Lib.decDigits z) =
    if x ≤ y ∧ y < z ∧ z < 1000000 then ((x : Int), (y : Int), (z : Int), true) else (0, 0, 0, false) := by
  have e1 : bytesL.isPrefixOf (bytesL ++ Lib.decDigits x ++ [45] ++ Lib.decDigits y ++ [47] ++ Lib.decDigits z) = true := by
    rw [List.isPrefixOf_iff_prefix]
    simp only [List.append_assoc]
    exact List.prefix_append _ _
  have e2 : (bytesL ++ Lib.decDigits x ++ [45] ++ Lib.decDigits y ++ [47] ++ Lib.decDigits z).drop 6 = (Lib.decDigits x ++ 45 :: Lib.decDigits y) ++ 47 :: Lib.decDigits z := by
    simp only [List.append_assoc]
    rw [show (6 : Nat) = bytesL.length from rfl, List.drop_left]
    simp
  have n1 : (47 : UInt8) ∉ Lib.decDigits x ++ 45 :: Lib.decDigits y := by
    have := dec_no x 47 (by decide)
    have := dec_no y 47 (by decide)
    simp
    exact ⟨by assumption, by assumption⟩
  have e3 := cut_yes (Lib.decDigits x ++ 45 :: Lib.decDigits y) (Lib.decDigits z) 47 n1
  have e4 := cut_yes (Lib.decDigits x) (Lib.decDigits y) 45 (dec_no x 45 (by decide))
  unfold spanS
  simp only [e1, if_true, e2, e3, e4, numS_dec]
  by_cases hx : x < 1000000
  · by_cases hy : y < 1000000
    · by_cases hz : z < 1000000
      · rw [if_pos hx, if_pos hy, if_pos hz]
        simp only [true_and]
        by_cases h : x ≤ y ∧ y < z
        · rw [if_pos (by omega), if_pos (by omega)]
        · rw [if_neg (by omega), if_neg (by omega)]
      · rw [if_neg hz, if_neg (by simp), if_neg (by omega)]
    · rw [if_neg hy, if_neg (by simp), if_neg (by omega)]
  · rw [if_neg hx, if_neg (by simp), if_neg (by omega)]
theorem bytes_l (x : Int) (n : Nat) (hn : n ≤ 140737488351232) : ∀ (d i : Nat) (xs : List Int), n - i = d → i ≤ n → xs.length = n →
    ∃ ys : List Int, ys.length = n ∧ Ev (fun k => postilionplay_Bytes.l0 k x xs (n : Int) (i : Int)) ys := by
  intro d
  induction d with
  | zero =>
    intro i xs hd hi hx
    exact ⟨xs, hx, Ev.step (f := fun _ => some xs) (fun k => by simp only [postilionplay_Bytes.l0]; rw [if_neg (by omega)]) (Ev.now _)⟩
  | succ d ih =>
    intro i xs hd hi hx
    have hw : wrap64 ((i : Int) + 1) = ((i + 1 : Nat) : Int) := by unfold wrap64; omega
    obtain ⟨ys, hy, he⟩ := ih (i + 1) (xs.set (i : Int).toNat ((wrap64 (x + (wrap64 ((i : Int) * (Go.bits .or .i64 (wrap64 (Int.tdiv x 5)) 1))))) % 256)) (by omega) (by omega) (by rw [List.length_set]; exact hx)
    exact ⟨ys, hy, Ev.step (f := fun k => postilionplay_Bytes.l0 k x _ (n : Int) ((i + 1 : Nat) : Int)) (fun k => by simp only [postilionplay_Bytes.l0]; rw [if_pos (by omega), if_pos (by omega), if_pos (by omega), hw]) he⟩
theorem bytes_f (x : Int) (n : Nat) (hn : n ≤ 140737488351232) : ∃ ys : List Int, ys.length = n ∧ Ev (fun k => postilionplay_Bytes.f k x (n : Int)) ys := by
  have hm : mx (n : Int) 0 = n := by unfold mx; omega
  obtain ⟨ys, hy, he⟩ := bytes_l x n hn n 0 (List.replicate n 0) (by omega) (by omega) (by simp)
  refine ⟨ys, hy, Ev.congr (f := fun k => postilionplay_Bytes.l0 k x (List.replicate n 0) (n : Int) ((0 : Nat) : Int)) (fun k => ?_) he⟩
  unfold postilionplay_Bytes.f
  rw [hm, if_pos (by omega), if_pos (by omega), Option.bind_some, List.length_replicate]
  rfl
theorem numV_bound : ∀ (l : List UInt8) (n : Int) (i : Nat), l.all isD = true → 0 ≤ n → n < 10 ^ i → 0 ≤ numV n l ∧ numV n l < 10 ^ (i + l.length) := by
  intro l
  induction l with
  | nil => intro n i _ h0 h1; exact ⟨h0, h1⟩
  | cons c l ih =>
    intro n i h h0 h1
    rw [List.all_cons, Bool.and_eq_true] at h
    have hc : 48 ≤ c.toNat ∧ c.toNat ≤ 57 := by
      have := h.1
      unfold isD at this
      simpa using this
    have := ih (10 * n + ((c.toNat : Int) - 48)) (i + 1) h.2 (by omega) (by rw [Int.pow_succ]; omega)
    rw [show i + 1 + l.length = i + (c :: l).length by simp; omega] at this
    exact this
theorem numS_bound (l : List UInt8) : 0 ≤ (numS l).1 ∧ (numS l).1 < 1000000 := by
  unfold numS
  split
  · rename_i h
    have := numV_bound l 0 0 h.2.2 (by decide) (by decide)
    have h6 : (10 : Int) ^ (0 + l.length) ≤ 1000000 := by
      have : l.length = 1 ∨ l.length = 2 ∨ l.length = 3 ∨ l.length = 4 ∨ l.length = 5 ∨ l.length = 6 := by omega
      rcases this with h | h | h | h | h | h <;> rw [h] <;> decide
    exact ⟨this.1, by simp only; omega⟩
  · exact ⟨by decide, by decide⟩
theorem pick_bound (p : Prop) [Decidable p] (x y z : List UInt8) (r : Int × Int × Int × Bool) (hr : r = if p then ((numS x).1, (numS y).1, (numS z).1, true) else (0, 0, 0, false)) :
    0 ≤ r.1 ∧ r.1 < 1000000 ∧ 0 ≤ r.2.1 ∧ r.2.1 < 1000000 ∧ 0 ≤ r.2.2.1 ∧ r.2.2.1 < 1000000 := by
  subst hr
  split
  · exact ⟨(numS_bound _).1, (numS_bound _).2, (numS_bound _).1, (numS_bound _).2, (numS_bound _).1, (numS_bound _).2⟩
  · exact ⟨by decide, by decide, by decide, by decide, by decide, by decide⟩
theorem spanS_bound (s : List UInt8) : 0 ≤ (spanS s).1 ∧ (spanS s).1 < 1000000 ∧ 0 ≤ (spanS s).2.1 ∧ (spanS s).2.1 < 1000000 ∧ 0 ≤ (spanS s).2.2.1 ∧ (spanS s).2.2.1 < 1000000 :=
  pick_bound _ _ _ _ (spanS s) rfl
def clenL : List UInt8 := [99, 111, 110, 116, 101, 110, 116, 45, 108, 101, 110, 103, 116, 104]
def crangeL : List UInt8 := [99, 111, 110, 116, 101, 110, 116, 45, 114, 97, 110, 103, 101]
def sizeS (l : List S28) (n : Nat) : Int × Bool := if (getS clenL l).2 = true then numS (getS clenL l).1.data.toList else ((n : Int), true)
theorem size_f (c : Int) (l : List S28) (body : ByteArray) (b : Bool) (hl : okH l) : Ev (fun k => part_size.f k c l body b) (sizeS l body.size) := by
  unfold part_size.f
  refine Ev.bind (a := getS clenL l) (get_f clenL (by decide) l hl) ?_
  unfold sizeS
  by_cases h : (getS clenL l).2 = true
  · simp only [if_pos h]
    refine Ev.bind (a := numS (getS clenL l).1.data.toList) ?_ ?_
    · have := number_f (getS clenL l).1.data.toList
      rw [B_data] at this
      exact this
    · exact Ev.now _
  · simp only [if_neg h]
    exact Ev.now _
def fitsS (code : Int) (l : List S28) (n : Nat) (got : Int) (tag : List UInt8) : Int × Bool :=
  let v := spanS (getS crangeL l).1.data.toList
  let z := sizeS l n
  if code = 206 ∧ tag ≠ [] ∧ (tagS l).data.toList = tag ∧ v.2.2.2 = true ∧ z.2 = true ∧ v.1 = got ∧ v.2.1 = v.2.2.1 - 1 ∧ z.1 = v.2.1 - v.1 + 1 then (v.2.2.1, true) else (0, false)
theorem fits_f (c : Int) (l : List S28) (body : ByteArray) (b : Bool) (got : Int) (tag : List UInt8) (hl : okH l) (hc : (getS crangeL l).1.size < 4294967281) :
    Ev (fun k => part_Fits.f k c l body b got (B tag)) (fitsS c l body.size got tag) := by
  unfold part_Fits.f
  refine Ev.bind (a := getS crangeL l) (get_f crangeL (by decide) l hl) ?_
  refine Ev.bind (a := spanS (getS crangeL l).1.data.toList) ?_ ?_
  · have := span_f (getS crangeL l).1.data.toList (by rw [data_length]; exact hc)
    rw [B_data] at this
    exact this
  refine Ev.bind (size_f c l body b hl) ?_
  unfold fitsS
  have hv := spanS_bound (getS crangeL l).1.data.toList
  generalize spanS (getS crangeL l).1.data.toList = v at *
  generalize sizeS l body.size = z at *
  dsimp only
  by_cases h1 : c = 206
  · by_cases h2 : tag = []
    · subst h2
      simp only [if_pos h1]
      refine Ev.congr (f := fun _ => some (0, false)) (fun k => by rw [B_toList, if_pos rfl]) ?_
      rw [if_neg (by simp)]
      exact Ev.now _
    · refine Ev.congr (fun k => by rw [if_pos h1, B_toList, if_neg h2]) ?_
      refine Ev.bind (tag_f l hl) ?_
      refine Ev.congr (f := fun _ => some _) (fun k => ?_) (Ev.now _)
      rw [ByteArray.toList_eq]
      have w1 : wrap64 (v.2.2.1 - 1) = v.2.2.1 - 1 := by unfold wrap64; omega
      have w2 : wrap64 ((wrap64 (v.2.1 - v.1)) + 1) = v.2.1 - v.1 + 1 := by unfold wrap64; omega
      rw [w1, w2]
      by_cases h3 : (tagS l).data.toList = tag
      · by_cases h4 : v.2.2.2 = true
        · by_cases h5 : z.2 = true
          · by_cases h6 : v.1 = got
            · by_cases h7 : v.2.1 = v.2.2.1 - 1
              · by_cases h8 : z.1 = v.2.1 - v.1 + 1
                · rw [if_pos h3, if_pos h4, if_pos h5, if_pos h6, if_pos h7, if_pos h8, if_pos ⟨h1, h2, h3, h4, h5, h6, h7, h8⟩]
                · rw [if_pos h3, if_pos h4, if_pos h5, if_pos h6, if_pos h7, if_neg h8, if_neg (fun h => h8 h.2.2.2.2.2.2.2)]
              · rw [if_pos h3, if_pos h4, if_pos h5, if_pos h6, if_neg h7, if_neg (fun h => h7 h.2.2.2.2.2.2.1)]
            · rw [if_pos h3, if_pos h4, if_pos h5, if_neg h6, if_neg (fun h => h6 h.2.2.2.2.2.1)]
          · rw [if_pos h3, if_pos h4, if_neg h5, if_neg (fun h => h5 h.2.2.2.2.1)]
        · rw [if_pos h3, if_neg h4, if_neg (fun h => h4 h.2.2.2.1)]
      · rw [if_neg h3, if_neg (fun h => h3 h.2.2.1)]
  · refine Ev.congr (f := fun _ => some (0, false)) (fun k => by rw [if_neg h1]) ?_
    rw [if_neg (fun h => h1 h.1)]
    exact Ev.now _
theorem getS_hit (name n : List UInt8) (v : ByteArray) (r : List S28) (h : lowerS n = lowerS name) : getS name (⟨B n, v⟩ :: r) = (v, true) := by
  unfold getS
  rw [data_B, if_pos h]
theorem getS_miss (name n : List UInt8) (v : ByteArray) (r : List S28) (h : ¬ lowerS n = lowerS name) : getS name (⟨B n, v⟩ :: r) = getS name r := by
  rw [getS, data_B, if_neg h]
theorem rlower_f (l : List UInt8) (h : l.length ≤ 140737488351232) : postilionref01_Lower.f (B l) = some (B (lowerS l)) := by
  unfold postilionref01_Lower.f
  rw [if_pos (by rw [B_size]; exact h), data_B]
  rfl
theorem rget_l (name : List UInt8) (hn : name.length ≤ 140737488351232) (l : List S28) (hl : okH l) : ∀ (d i : Nat), l.length - i = d → i ≤ l.length →
    Ev (fun k => postilionref01_Get.l0 k (B name) l (l.length : Int) (i : Int)) (getS name (l.drop i)) := by
  intro d
  induction d with
  | zero =>
    intro i hd hi
    refine Ev.step (f := fun _ => some (⟨#[]⟩, false)) (fun k => by simp only [postilionref01_Get.l0]; rw [if_neg (by omega)]) ?_
    rw [List.drop_eq_nil_of_le (by omega)]
    exact Ev.now _
  | succ d ih =>
    intro i hd hi
    have hlt : i < l.length := by omega
    have hs : l.drop i = l[i] :: l.drop (i + 1) := List.drop_eq_getElem_cons hlt
    have hr : rd_T28 l (i : Int) = l[i] := by
      unfold rd_T28
      simp [List.getD_eq_getElem?_getD, List.getElem?_eq_getElem hlt]
    have hw : wrap64 ((i : Int) + 1) = ((i + 1 : Nat) : Int) := by
      have := hl.1
      unfold wrap64
      omega
    have h0 := (hl.2 l[i] (List.getElem_mem hlt)).1
    have e0 : postilionref01_Lower.f l[i].f0 = some (B (lowerS l[i].f0.data.toList)) := by
      have := rlower_f l[i].f0.data.toList (by rw [data_length]; exact h0)
      rw [B_data] at this
      exact this
    have e1 := rlower_f name hn
    rw [hs]
    unfold getS
    by_cases h : lowerS l[i].f0.data.toList = lowerS name
    · refine Ev.step (f := fun _ => some (l[i].f1, true)) (fun k => by
        simp only [postilionref01_Get.l0]
        rw [if_pos (by omega), if_pos (by omega), if_pos (by omega), hr, e0]
        simp only [Option.bind_some, e1]
        rw [B_toList, B_toList, if_pos h]) ?_
      rw [if_pos h]
      exact Ev.now _
    · refine Ev.step (f := fun k => postilionref01_Get.l0 k (B name) l (l.length : Int) ((i + 1 : Nat) : Int)) (fun k => by
        simp only [postilionref01_Get.l0]
        rw [if_pos (by omega), if_pos (by omega), if_pos (by omega), hr, e0]
        simp only [Option.bind_some, e1]
        rw [B_toList, B_toList, if_neg h, hw]) ?_
      rw [if_neg h]
      exact ih (i + 1) (by omega) (by omega)
theorem rget_f (name : List UInt8) (hn : name.length ≤ 140737488351232) (l : List S28) (hl : okH l) : Ev (fun k => postilionref01_Get.f k (B name) l) (getS name l) := by
  have := rget_l name hn l hl l.length 0 (by omega) (by omega)
  exact this
theorem figures_l (l : List UInt8) (hl : l.length ≤ 6) : ∀ (d i : Nat) (n : Int), l.length - i = d → i ≤ l.length → 0 ≤ n → n < 10 ^ i →
    Ev (fun k => postilionref01_Figures.l0 k (B l) n (i : Int)) (if (l.drop i).all isD = true then (numV n (l.drop i), true) else (0, false)) := by
  intro d
  induction d with
  | zero =>
    intro i n hd hi h0 h1
    refine Ev.step (f := fun _ => some (n, true)) (fun k => by simp only [postilionref01_Figures.l0]; rw [if_neg (by rw [B_size]; omega)]) ?_
    rw [List.drop_eq_nil_of_le (by omega)]
    exact Ev.now _
  | succ d ih =>
    intro i n hd hi h0 h1
    have hlt : i < l.length := by omega
    have hb := bt_B l i hlt
    have hc : (l[i].toNat : Int) < 256 := by have := l[i].toNat_lt; omega
    have h6 : (10 : Int) ^ i ≤ 100000 := by
      have : i = 0 ∨ i = 1 ∨ i = 2 ∨ i = 3 ∨ i = 4 ∨ i = 5 := by omega
      rcases this with rfl | rfl | rfl | rfl | rfl | rfl <;> decide
    have hs : l.drop i = l[i] :: l.drop (i + 1) := List.drop_eq_getElem_cons hlt
    by_cases h2 : (l[i].toNat : Int) < 48
    · refine Ev.step (f := fun _ => some (0, false)) (fun k => by simp only [postilionref01_Figures.l0]; rw [if_pos (by rw [B_size]; omega), if_pos (by omega), hb, if_pos h2]) ?_
      rw [hs, if_neg (by rw [List.all_cons, isD_no (.inl (by omega))]; simp)]
      exact Ev.now _
    · by_cases h3 : (l[i].toNat : Int) > 57
      · refine Ev.step (f := fun _ => some (0, false)) (fun k => by simp only [postilionref01_Figures.l0]; rw [if_pos (by rw [B_size]; omega), if_pos (by omega), hb, if_neg h2, if_pos h3]) ?_
        rw [hs, if_neg (by rw [List.all_cons, isD_no (.inr (by omega))]; simp)]
        exact Ev.now _
      · have hw : wrap64 (wrap64 (10 * n) + ((l[i].toNat : Int) - 48) % 256) = 10 * n + ((l[i].toNat : Int) - 48) := by unfold wrap64; omega
        have hw2 : wrap64 ((i : Int) + 1) = ((i + 1 : Nat) : Int) := by unfold wrap64; omega
        refine Ev.step (f := fun k => postilionref01_Figures.l0 k (B l) (10 * n + ((l[i].toNat : Int) - 48)) ((i + 1 : Nat) : Int)) (fun k => by simp only [postilionref01_Figures.l0]; rw [if_pos (by rw [B_size]; omega), if_pos (by omega), hb, if_neg h2, if_neg h3, hw, hw2]) ?_
        have := ih (i + 1) (10 * n + ((l[i].toNat : Int) - 48)) (by omega) (by omega) (by omega) (by rw [Int.pow_succ]; omega)
        rw [hs]
        have hd : isD l[i] = true := isD_yes (by omega) (by omega)
        simp only [List.all_cons, hd, Bool.true_and]
        exact this
theorem figures_f (l : List UInt8) : Ev (fun k => postilionref01_Figures.f k (B l) 1 6) (numS l) := by
  by_cases h1 : l.length < 1
  · refine Ev.congr (f := fun k => postilionref01_Figures.j0 k (B l) true) (fun k => by unfold postilionref01_Figures.f; rw [B_size, if_pos (by omega)]) ?_
    refine Ev.step (f := fun _ => some (0, false)) (fun k => by simp only [postilionref01_Figures.j0, if_true]) ?_
    unfold numS
    rw [if_neg (by omega)]
    exact Ev.now _
  · by_cases h2 : l.length ≤ 6
    · refine Ev.congr (f := fun k => postilionref01_Figures.j0 k (B l) false) (fun k => by unfold postilionref01_Figures.f; rw [B_size, if_neg (by omega), decide_eq_false (by omega)]) ?_
      refine Ev.step (f := fun k => postilionref01_Figures.l0 k (B l) 0 ((0 : Nat) : Int)) (fun k => by simp only [postilionref01_Figures.j0]; rw [if_neg (by simp)]; rfl) ?_
      have := figures_l l h2 l.length 0 0 (by omega) (by omega) (by omega) (by decide)
      simp only [List.drop_zero] at this
      unfold numS
      by_cases h3 : l.all isD = true
      · rw [if_pos h3] at this
        rw [if_pos ⟨by omega, h2, h3⟩]
        exact this
      · rw [if_neg h3] at this
        rw [if_neg (fun h => h3 h.2.2)]
        exact this
    · refine Ev.congr (f := fun k => postilionref01_Figures.j0 k (B l) true) (fun k => by unfold postilionref01_Figures.f; rw [B_size, if_neg (by omega), decide_eq_true (by omega)]) ?_
      refine Ev.step (f := fun _ => some (0, false)) (fun k => by simp only [postilionref01_Figures.j0, if_true]) ?_
      unfold numS
      rw [if_neg (by omega)]
      exact Ev.now _
def untilS (c : UInt8) (l : List UInt8) : List UInt8 × List UInt8 := (l.takeWhile (· != c), l.dropWhile (· != c))
theorem until_l (l : List UInt8) (c : UInt8) (hl : l.length ≤ 140737488351232) : ∀ (d i : Nat), l.length - i = d → i ≤ l.length →
    Ev (fun k => postilionref01_until.l0 k (B l) (B [c]) (i : Int)) (B (l.take i ++ (untilS c (l.drop i)).1), B (untilS c (l.drop i)).2) := by
  intro d
  induction d with
  | zero =>
    intro i hd hi
    refine Ev.step (f := fun _ => some (B l, ⟨#[]⟩)) (fun k => by simp only [postilionref01_until.l0]; rw [if_neg (by rw [B_size]; omega)]) ?_
    rw [List.drop_eq_nil_of_le (by omega), List.take_of_length_le (by omega)]
    have e : (B (l ++ (untilS c []).1), B (untilS c []).2) = (B l, (⟨#[]⟩ : ByteArray)) := by simp [untilS]; rfl
    rw [e]
    exact Ev.now _
  | succ d ih =>
    intro i hd hi
    have hlt : i < l.length := by omega
    have hb := bt_B l i hlt
    have hc : bt (B [c]) 0 = (c.toNat : Int) := bt_B [c] 0 (by simp)
    have hs : l.drop i = l[i] :: l.drop (i + 1) := List.drop_eq_getElem_cons hlt
    have hw : wrap64 ((i : Int) + 1) = ((i + 1 : Nat) : Int) := by unfold wrap64; omega
    have hw1 : wrap64 ((0 : Int) + 1) = 1 := by unfold wrap64; decide
    have hz : ((B [c]).size : Int) = 1 := by rw [B_size]; rfl
    refine Ev.step (f := fun k => postilionref01_until.l1 k (B l) (B [c]) (i : Int) 0) (fun k => by simp only [postilionref01_until.l0]; rw [if_pos (by rw [B_size]; omega)]) ?_
    by_cases h : l[i] = c
    · refine Ev.step (f := fun _ => some (B (l.take i), B (l.drop i))) (fun k => by
        simp only [postilionref01_until.l1]
        rw [hz, if_pos (by omega), if_pos (by omega), if_pos (by rw [B_size]; omega), if_pos (by omega), hb, hc, h, if_pos rfl, if_pos (by rw [B_size]; omega), B_extract, B_extract, B_size]
        simp) ?_
      rw [hs]
      have e1 : (untilS c (l[i] :: l.drop (i + 1))).1 = [] := by simp [untilS, h]
      have e2 : (untilS c (l[i] :: l.drop (i + 1))).2 = l[i] :: l.drop (i + 1) := by simp [untilS, h]
      rw [e1, e2, List.append_nil]
      exact Ev.now _
    · refine Ev.step (f := fun k => postilionref01_until.l1 k (B l) (B [c]) (i : Int) 1) (fun k => by
        simp only [postilionref01_until.l1]
        rw [hz, if_pos (by omega), if_pos (by omega), if_pos (by rw [B_size]; omega), if_pos (by omega), hb, hc, if_neg (by
          intro e
          apply h
          apply UInt8.toNat_inj.1
          omega), hw1]) ?_
      refine Ev.step (f := fun k => postilionref01_until.l0 k (B l) (B [c]) ((i + 1 : Nat) : Int)) (fun k => by
        simp only [postilionref01_until.l1]
        rw [hz, if_neg (by omega), hw]) ?_
      have := ih (i + 1) (by omega) (by omega)
      rw [hs]
      have hb2 : (l[i] != c) = true := by simp [h]
      have e1 : (untilS c (l[i] :: l.drop (i + 1))).1 = l[i] :: (untilS c (l.drop (i + 1))).1 := List.takeWhile_cons_of_pos (p := (· != c)) hb2
      have e2 : (untilS c (l[i] :: l.drop (i + 1))).2 = (untilS c (l.drop (i + 1))).2 := List.dropWhile_cons_of_pos (p := (· != c)) hb2
      rw [e1, e2]
      rw [List.take_succ_eq_append_getElem hlt, List.append_assoc] at this
      exact this
theorem until_f (l : List UInt8) (c : UInt8) (hl : l.length ≤ 140737488351232) : Ev (fun k => postilionref01_until.f k (B l) (B [c])) (B (untilS c l).1, B (untilS c l).2) := by
  have := until_l l c hl l.length 0 (by omega) (by omega)
  simp only [List.take_zero, List.drop_zero, List.nil_append] at this
  exact this
theorem begins_f (l m : List UInt8) : postilionref01_begins.f (B l) (B m) = some (m.isPrefixOf l) := by
  unfold postilionref01_begins.f
  rw [B_size, B_size]
  by_cases h : m.length ≤ l.length
  · rw [if_pos (by omega), if_pos (by omega), if_pos (by omega)]
    rw [B_extract, B_toList, B_toList]
    have e : ((l.take (m.length : Int).toNat).drop 0 == m) = (m.isPrefixOf l) := by
      rw [Bool.eq_iff_iff, List.drop_zero, beq_iff_eq, List.isPrefixOf_iff_prefix, List.prefix_iff_eq_take]
      simp only [Int.toNat_natCast]
      exact ⟨fun h => h.symm, fun h => h.symm⟩
    rw [e]
  · rw [if_neg (by omega)]
    have h2 : ¬ m.isPrefixOf l = true := by
      rw [List.isPrefixOf_iff_prefix]
      intro hp
      exact h hp.length_le
    rw [Bool.not_eq_true] at h2
    rw [h2]
theorem until_no (c : UInt8) (l : List UInt8) (h : c ∉ l) : untilS c l = (l, []) := by
  have h1 : ∀ x ∈ l, (x != c) = true := fun x hx => by simp; rintro rfl; exact h hx
  unfold untilS
  have e1 : l.takeWhile (· != c) = l := by
    have := List.takeWhile_append_of_pos (l₂ := []) h1
    simpa using this
  have e2 : l.dropWhile (· != c) = [] := by
    have := List.dropWhile_append_of_pos (l₂ := []) h1
    simpa using this
  rw [e1, e2]
theorem until_yes (c : UInt8) (l r : List UInt8) (h : c ∉ l) : untilS c (l ++ c :: r) = (l, c :: r) := by
  have h1 : ∀ x ∈ l, (x != c) = true := fun x hx => by simp; rintro rfl; exact h hx
  unfold untilS
  rw [List.takeWhile_append_of_pos h1, List.dropWhile_append_of_pos h1]
  simp
theorem first_at (c : UInt8) (l : List UInt8) (h : c ∈ l) : ∃ a r, l = a ++ c :: r ∧ c ∉ a := by
  induction l with
  | nil => cases h
  | cons b l ih =>
    by_cases hb : b = c
    · exact ⟨[], l, by simp [hb], by simp⟩
    · obtain ⟨a, r, e, hn⟩ := ih (by rcases List.mem_cons.1 h with h | h; exact absurd h.symm hb; exact h)
      exact ⟨b :: a, r, by simp [e], by simp [hn]; exact fun e => hb e.symm⟩
/-- The span that the reference tells: the same. -/
def pickS (x y z : Int × Bool) : Int × Int × Int × Bool := if x.2 = true ∧ y.2 = true ∧ z.2 = true ∧ x.1 ≤ y.1 ∧ y.1 < z.1 then (x.1, y.1, z.1, true) else (0, 0, 0, false)
theorem numS_bad (l : List UInt8) (c : UInt8) (h : c ∈ l) (hc : isD c = false) : numS l = (0, false) := by
  unfold numS
  rw [if_neg]
  rintro ⟨-, -, h3⟩
  have := List.all_eq_true.1 h3 c h
  rw [hc] at this
  cases this
def spanR (s : List UInt8) : Int × Int × Int × Bool :=
  if bytesL.isPrefixOf s = true then
    let u := untilS 45 (s.drop 6)
    if u.2 = [] then (0, 0, 0, false) else
      let v := untilS 47 (u.2.drop 1)
      if v.2 = [] then (0, 0, 0, false) else pickS (numS u.1) (numS v.1) (numS (v.2.drop 1))
  else (0, 0, 0, false)
theorem spanR_eq (s : List UInt8) : spanR s = spanS s := by
  unfold spanR spanS
  by_cases hp : bytesL.isPrefixOf s = true
  · rw [if_pos hp]
    simp only [if_pos hp]
    generalize s.drop 6 = rest
    by_cases hm : (45 : UInt8) ∈ rest
    · obtain ⟨a, r, rfl, ha⟩ := first_at 45 rest hm
      rw [until_yes 45 a r ha]
      simp only [List.drop_succ_cons, List.drop_zero]
      rw [if_neg (by simp)]
      by_cases hs : (47 : UInt8) ∈ a
      · obtain ⟨b, q, rfl, hb⟩ := first_at 47 a hs
        have e1 : numS (b ++ 47 :: q) = (0, false) := numS_bad _ 47 (by simp) (by decide)
        rw [e1]
        have hb2 : (45 : UInt8) ∉ b := fun h => ha (List.mem_append_left _ h)
        rw [show b ++ 47 :: q ++ 45 :: r = b ++ 47 :: (q ++ 45 :: r) by simp, cut_yes b _ 47 hb]
        have e2 : pickS (0, false) (numS (untilS 47 r).1) (numS ((untilS 47 r).2.drop 1)) = (0, 0, 0, false) := by
          unfold pickS
          exact if_neg (fun h => by have := h.1; simp at this)
        rw [e2, ite_self]
        dsimp only
        rw [cut_no b 45 hb2]
        exact (if_neg (fun h => by have := h.2.2.1; simp at this)).symm
      · by_cases hs2 : (47 : UInt8) ∈ r
        · obtain ⟨b, q, rfl, hb⟩ := first_at 47 r hs2
          rw [until_yes 47 b q hb]
          simp only [List.drop_succ_cons, List.drop_zero]
          rw [if_neg (by simp)]
          have hn : (47 : UInt8) ∉ a ++ 45 :: b := by simp; exact ⟨hs, hb⟩
          rw [show a ++ 45 :: (b ++ 47 :: q) = (a ++ 45 :: b) ++ 47 :: q by simp, cut_yes _ q 47 hn]
          dsimp only
          rw [cut_yes a b 45 ha]
          unfold pickS
          simp [hp]
        · rw [until_no 47 r hs2]
          have hn : (47 : UInt8) ∉ a ++ 45 :: r := by simp; exact ⟨hs, hs2⟩
          rw [cut_no _ 47 hn, if_pos rfl, if_neg (fun h => by have := h.2.1; simp at this)]
    · rw [until_no 45 rest hm, if_pos rfl]
      have h45 : (45 : UInt8) ∉ (Lib.cut rest [47]).1 := by
        by_cases hs : (47 : UInt8) ∈ rest
        · obtain ⟨b, q, rfl, hb⟩ := first_at 47 rest hs
          rw [cut_yes b q 47 hb]
          exact fun h => hm (List.mem_append_left _ h)
        · rw [cut_no rest 47 hs]
          exact hm
      rw [cut_no _ 45 h45, if_neg (fun h => by have := h.2.2.1; simp at this)]
  · rw [if_neg hp]
    simp only [if_neg hp]
    rw [if_neg (fun h => hp h.1)]
theorem rspan_f (s : List UInt8) (h : s.length < 4294967281) : Ev (fun k => postilionref01_Span.f k (B s)) (spanS s) := by
  rw [← spanR_eq]
  unfold postilionref01_Span.f spanR
  have e1 : postilionref01_begins.f (B s) (⟨#[98, 121, 116, 101, 115, 32]⟩ : ByteArray) = some (bytesL.isPrefixOf s) := begins_f s bytesL
  simp only [e1, Option.bind_some]
  by_cases hp : bytesL.isPrefixOf s = true
  · have h6 : 6 ≤ s.length := by
      rw [List.isPrefixOf_iff_prefix] at hp
      exact hp.length_le
    refine Ev.congr (fun k => by rw [if_pos hp, if_pos (by rw [B_size]; omega), B_extract, B_size, List.take_of_length_le (Nat.le_refl _)]) ?_
    rw [if_pos hp]
    have hl6 : (s.drop 6).length < 4294967281 := by rw [List.length_drop]; omega
    generalize s.drop 6 = rest at hl6
    refine Ev.bind (until_f rest 45 (by omega)) ?_
    have hu : (untilS 45 rest).2.length ≤ rest.length := (List.dropWhile_suffix _).length_le
    generalize untilS 45 rest = u at hu
    dsimp only
    by_cases h1 : u.2 = []
    · refine Ev.congr (f := fun _ => some (0, 0, 0, false)) (fun k => by rw [B_toList, if_pos h1]) ?_
      rw [if_pos h1]
      exact Ev.now _
    · have hlen : 1 ≤ u.2.length := by
        rcases hq : u.2 with _ | ⟨b, r⟩
        · exact absurd hq h1
        · simp
      refine Ev.congr (fun k => by rw [B_toList, if_neg h1, if_pos (by rw [B_size]; omega), B_extract, B_size, List.take_of_length_le (Nat.le_refl _)]) ?_
      rw [if_neg h1]
      refine Ev.bind (until_f (u.2.drop 1) 47 (by rw [List.length_drop]; omega)) ?_
      generalize untilS 47 (u.2.drop 1) = v
      dsimp only
      by_cases h2 : v.2 = []
      · refine Ev.congr (f := fun _ => some (0, 0, 0, false)) (fun k => by rw [B_toList, if_pos h2]) ?_
        rw [if_pos h2]
        exact Ev.now _
      · have hlen : 1 ≤ v.2.length := by
          rcases hq : v.2 with _ | ⟨b, r⟩
          · exact absurd hq h2
          · simp
        refine Ev.congr (fun k => by rw [B_toList, if_neg h2]) ?_
        rw [if_neg h2]
        refine Ev.bind (figures_f u.1) ?_
        refine Ev.bind (figures_f v.1) ?_
        refine Ev.congr (fun k => by rw [if_pos (by rw [B_size]; omega), B_extract, B_size, List.take_of_length_le (Nat.le_refl _)]) ?_
        refine Ev.bind (figures_f (v.2.drop 1)) ?_
        refine Ev.congr (f := fun _ => some _) (fun k => ?_) (Ev.now _)
        generalize numS u.1 = x
        generalize numS v.1 = y
        generalize numS (v.2.drop 1) = z
        unfold pickS
        cases x.2 <;> cases y.2 <;> cases z.2 <;> simp
        by_cases g1 : y.1 < x.1
        · rw [if_pos g1, if_neg (by omega)]
        · rw [if_neg g1]
          by_cases g2 : z.1 ≤ y.1
          · rw [if_pos g2, if_neg (by omega)]
          · rw [if_neg g2, if_pos (by omega)]
  · rw [if_neg hp]
    refine Ev.congr (f := fun _ => some (0, 0, 0, false)) (fun k => by rw [if_neg hp]) ?_
    exact Ev.now _
def okC (c : UInt8) : Bool := decide (33 ≤ c.toNat) && decide (c.toNat ≤ 126) && (c.toNat != 34)
theorem okC_no {c : UInt8} (h : c.toNat < 33 ∨ 126 < c.toNat ∨ c.toNat = 34) : okC c = false := by
  unfold okC
  rcases h with h | h | h
  · rw [decide_eq_false (by omega)]; rfl
  · rw [decide_eq_false (by omega : ¬ c.toNat ≤ 126), Bool.and_false]; rfl
  · rw [h]; simp
theorem okC_yes {c : UInt8} (h1 : 33 ≤ c.toNat) (h2 : c.toNat ≤ 126) (h3 : c.toNat ≠ 34) : okC c = true := by
  unfold okC
  rw [decide_eq_true h1, decide_eq_true h2]
  simpa using h3
theorem rtag_l (l : List UInt8) (hl : l.length ≤ 100) (h1 : 1 ≤ l.length) : ∀ (d i : Nat), l.length - 1 - i = d → i ≤ l.length - 1 →
    Ev (fun k => postilionref01_Tag.l0 k (B l) (i : Int)) (if ((l.take (l.length - 1)).drop i).all okC = true then B l else ⟨#[]⟩) := by
  have hw0 : wrap64 (((B l).size : Int) - 1) = ((l.length - 1 : Nat) : Int) := by rw [B_size]; exact w64 (by omega) (by omega) (by omega)
  intro d
  induction d with
  | zero =>
    intro i hd hi
    refine Ev.step (f := fun _ => some (B l)) (fun k => by simp only [postilionref01_Tag.l0]; rw [hw0, if_neg (by omega)]) ?_
    rw [List.drop_eq_nil_of_le (by rw [List.length_take]; omega), List.all_nil, if_pos rfl]
    exact Ev.now _
  | succ d ih =>
    intro i hd hi
    have hlt : i < l.length := by omega
    have hb := bt_B l i hlt
    have hlt2 : i < (l.take (l.length - 1)).length := by rw [List.length_take]; omega
    have hs : (l.take (l.length - 1)).drop i = l[i] :: (l.take (l.length - 1)).drop (i + 1) := by
      rw [List.drop_eq_getElem_cons hlt2, List.getElem_take]
    have hw : wrap64 ((i : Int) + 1) = ((i + 1 : Nat) : Int) := w64 (by omega) (by omega) (by omega)
    rw [hs, List.all_cons]
    by_cases g1 : (l[i].toNat : Int) < 33
    · refine Ev.step (f := fun _ => some ⟨#[]⟩) (fun k => by simp only [postilionref01_Tag.l0]; rw [hw0, if_pos (by omega), if_pos (by omega), if_pos (by rw [B_size]; omega), hb, if_pos g1]) ?_
      rw [okC_no (.inl (by omega)), Bool.false_and, if_neg (by simp)]
      exact Ev.now _
    · by_cases g2 : (l[i].toNat : Int) = 34
      · refine Ev.step (f := fun _ => some ⟨#[]⟩) (fun k => by simp only [postilionref01_Tag.l0]; rw [hw0, if_pos (by omega), if_pos (by omega), if_pos (by rw [B_size]; omega), hb, if_neg g1, if_pos g2]) ?_
        rw [okC_no (.inr (.inr (by omega))), Bool.false_and, if_neg (by simp)]
        exact Ev.now _
      · by_cases g3 : (l[i].toNat : Int) > 126
        · refine Ev.step (f := fun _ => some ⟨#[]⟩) (fun k => by simp only [postilionref01_Tag.l0]; rw [hw0, if_pos (by omega), if_pos (by omega), if_pos (by rw [B_size]; omega), hb, if_neg g1, if_neg g2, if_pos g3]) ?_
          rw [okC_no (.inr (.inl (by omega))), Bool.false_and, if_neg (by simp)]
          exact Ev.now _
        · refine Ev.step (f := fun k => postilionref01_Tag.l0 k (B l) ((i + 1 : Nat) : Int)) (fun k => by simp only [postilionref01_Tag.l0]; rw [hw0, if_pos (by omega), if_pos (by omega), if_pos (by rw [B_size]; omega), hb, if_neg g1, if_neg g2, if_neg g3, hw]) ?_
          rw [okC_yes (by omega) (by omega) (by omega), Bool.true_and]
          exact ih (i + 1) (by omega) (by omega)
theorem byN_B (m : List UInt8) (j : Nat) (h : j < m.length) : byN (B m) j = (m[j].toNat : Int) := by
  unfold byN
  rw [data_B]
  simp [List.getD_eq_getElem?_getD, h]
theorem strong_all (m : List UInt8) (h3 : 3 ≤ m.length) : ((List.range ((B m).size - 2)).all fun j => decide (33 ≤ byN (B m) (j + 1)) && decide (byN (B m) (j + 1) ≤ 126) && (byN (B m) (j + 1) != 34)) = ((m.take (m.length - 1)).drop 1).all okC := by
  rw [Bool.eq_iff_iff, List.all_eq_true, List.all_eq_true]
  constructor
  · intro h x hx
    obtain ⟨j, hj, rfl⟩ := List.mem_iff_getElem.1 hx
    rw [List.length_drop, List.length_take] at hj
    have := h j (List.mem_range.2 (by rw [B_size]; omega))
    rw [byN_B m (j + 1) (by omega)] at this
    simp only [List.getElem_drop, List.getElem_take, Nat.add_comm 1 j]
    simp only [Bool.and_eq_true, decide_eq_true_eq, bne_iff_ne, ne_eq] at this
    exact okC_yes (by omega) (by omega) (by omega)
  · intro h j hj
    have hj := List.mem_range.1 hj
    rw [B_size] at hj
    have := h (m[j + 1]'(by omega)) (List.mem_iff_getElem.2 ⟨j, by rw [List.length_drop, List.length_take]; omega, by simp only [List.getElem_drop, List.getElem_take, Nat.add_comm 1 j]⟩)
    rw [byN_B m (j + 1) (by omega)]
    unfold okC at this
    simp only [Bool.and_eq_true, decide_eq_true_eq, bne_iff_ne, ne_eq] at this ⊢
    omega
theorem rtag_f (hs : List S28) (hl : okH hs) : Ev (fun k => postilionref01_Tag.f k hs) (tagS hs) := by
  unfold postilionref01_Tag.f
  refine Ev.bind (a := getS [101, 116, 97, 103] hs) (rget_f [101, 116, 97, 103] (by decide) hs hl) ?_
  unfold tagS
  generalize getS [101, 116, 97, 103] hs = v
  obtain ⟨a, b⟩ := v
  obtain ⟨m, rfl⟩ := ex_B a
  dsimp only
  have no : strongB (B m) = false → Ev (fun k => postilionref01_Tag.j0 k (B m) true) (if strongB (B m) = true then B m else ⟨#[]⟩) := fun h => by
    rw [h]
    exact Ev.step (f := fun _ => some ⟨#[]⟩) (fun k => by simp only [postilionref01_Tag.j0, if_true]) (Ev.now _)
  have hz := B_size m
  by_cases h1 : m.length < 3
  · refine Ev.congr (fun k => by rw [hz, if_pos (by omega)]) (no ?_)
    unfold strongB
    rw [hz, decide_eq_false (by omega : ¬ 3 ≤ m.length)]
    rfl
  · by_cases h2 : m.length > 12
    · refine Ev.congr (fun k => by rw [hz, if_neg (by omega), if_pos (by omega)]) (no ?_)
      unfold strongB
      rw [hz, decide_eq_false (by omega : ¬ m.length ≤ 12), Bool.and_false]
      rfl
    · have b0 : bt (B m) 0 = ((m[0]'(by omega)).toNat : Int) := bt_B m 0 (by omega)
      have y0 : byN (B m) 0 = ((m[0]'(by omega)).toNat : Int) := byN_B m 0 (by omega)
      have b1 : bt (B m) ((m.length - 1 : Nat) : Int) = ((m[m.length - 1]'(by omega)).toNat : Int) := bt_B m (m.length - 1) (by omega)
      have y1 : byN (B m) (m.length - 1) = ((m[m.length - 1]'(by omega)).toNat : Int) := byN_B m (m.length - 1) (by omega)
      have hw0 : wrap64 ((m.length : Int) - 1) = ((m.length - 1 : Nat) : Int) := w64 (by omega) (by omega) (by omega)
      have hS : strongB (B m) = ((((m[0]'(by omega)).toNat : Int) == 34) && ((((m[m.length - 1]'(by omega)).toNat : Int) == 34)) && ((m.take (m.length - 1)).drop 1).all okC) := by
        rw [← strong_all m (by omega)]
        unfold strongB
        rw [hz, decide_eq_true (by omega : 3 ≤ m.length), decide_eq_true (by omega : m.length ≤ 12), y0, y1]
        rfl
      by_cases g0 : ((m[0]'(by omega)).toNat : Int) = 34
      · refine Ev.congr (fun k => by rw [hz, if_neg (by omega), if_neg (by omega), if_pos (by omega), b0, if_pos g0, hw0, if_pos (by omega), if_pos (by omega), b1]) ?_
        by_cases g1 : ((m[m.length - 1]'(by omega)).toNat : Int) = 34
        · refine Ev.step (f := fun k => postilionref01_Tag.l0 k (B m) ((1 : Nat) : Int)) (fun k => by simp only [postilionref01_Tag.j0]; rw [if_neg (by rw [g1]; simp)]; rfl) ?_
          have := rtag_l m (by omega) (by omega) (m.length - 1 - 1) 1 (by omega) (by omega)
          rw [hS, g0, g1]
          simpa using this
        · have hx : (((m[m.length - 1]'(by omega)).toNat : Int) != 34) = true := by simpa using g1
          rw [hx]
          refine no ?_
          rw [hS, (by simpa using g1 : (((m[m.length - 1]'(by omega)).toNat : Int) == 34) = false)]
          simp
      · refine Ev.congr (fun k => by rw [hz, if_neg (by omega), if_neg (by omega), if_pos (by omega), b0, if_neg g0]) (no ?_)
        rw [hS, (by simpa using g0 : (((m[0]'(by omega)).toNat : Int) == 34) = false)]
        simp
theorem spanS_le (s : List UInt8) (h : (spanS s).2.2.2 = true) : (spanS s).1 ≤ (spanS s).2.1 := by
  revert h
  unfold spanS
  dsimp only
  generalize (numS (Lib.cut (Lib.cut (if bytesL.isPrefixOf s = true then s.drop 6 else s) [47]).1 [45]).1) = x
  generalize (numS (Lib.cut (Lib.cut (if bytesL.isPrefixOf s = true then s.drop 6 else s) [47]).1 [45]).2.1) = y
  generalize (numS (Lib.cut (if bytesL.isPrefixOf s = true then s.drop 6 else s) [47]).2.1) = z
  by_cases h : bytesL.isPrefixOf s = true ∧ (Lib.cut (if bytesL.isPrefixOf s = true then s.drop 6 else s) [47]).2.2 = true ∧ (Lib.cut (Lib.cut (if bytesL.isPrefixOf s = true then s.drop 6 else s) [47]).1 [45]).2.2 = true ∧ x.2 = true ∧ y.2 = true ∧ z.2 = true ∧ x.1 ≤ y.1 ∧ y.1 < z.1
  · rw [if_pos h]
    exact fun _ => h.2.2.2.2.2.2.1
  · rw [if_neg h]
    exact fun h => by cases h
theorem numS_false (l : List UInt8) (h : (numS l).2 = false) : numS l = (0, false) := by
  revert h
  unfold numS
  split
  · exact fun h => by cases h
  · exact fun _ => rfl
def fitsR (code : Int) (l : List S28) (n : Nat) (got : Int) (tag : List UInt8) : Int × Bool :=
  let v := spanS (getS crangeL l).1.data.toList
  let z : Int := if (getS clenL l).2 = true then (numS (getS clenL l).1.data.toList).1 else n
  if code = 206 ∧ tag ≠ [] ∧ (tagS l).data.toList = tag ∧ v.2.2.2 = true ∧ v.1 = got ∧ v.2.1 = v.2.2.1 - 1 ∧ v.2.1 - v.1 + 1 = z then (v.2.2.1, true) else (0, false)
theorem fitsR_eq (code : Int) (l : List S28) (n : Nat) (got : Int) (tag : List UInt8) : fitsR code l n got tag = fitsS code l n got tag := by
  unfold fitsR fitsS sizeS
  have hle := spanS_le (getS crangeL l).1.data.toList
  generalize spanS (getS crangeL l).1.data.toList = v at *
  dsimp only
  by_cases hc : (getS clenL l).2 = true
  · rw [if_pos hc, if_pos hc]
    by_cases hn : (numS (getS clenL l).1.data.toList).2 = true
    · generalize numS (getS clenL l).1.data.toList = z at *
      by_cases h : code = 206 ∧ tag ≠ [] ∧ (tagS l).data.toList = tag ∧ v.2.2.2 = true ∧ v.1 = got ∧ v.2.1 = v.2.2.1 - 1 ∧ v.2.1 - v.1 + 1 = z.1
      · rw [if_pos h, if_pos ⟨h.1, h.2.1, h.2.2.1, h.2.2.2.1, hn, h.2.2.2.2.1, h.2.2.2.2.2.1, h.2.2.2.2.2.2.symm⟩]
      · rw [if_neg h, if_neg (fun g => h ⟨g.1, g.2.1, g.2.2.1, g.2.2.2.1, g.2.2.2.2.2.1, g.2.2.2.2.2.2.1, g.2.2.2.2.2.2.2.symm⟩)]
    · have hz := numS_false (getS clenL l).1.data.toList (by simpa using hn)
      rw [hz, if_neg (fun g => by have := hle g.2.2.2.1; have := g.2.2.2.2.2.2; simp only at this; omega), if_neg (fun g => by have := g.2.2.2.2.1; cases this)]
  · rw [if_neg hc, if_neg hc]
    by_cases h : code = 206 ∧ tag ≠ [] ∧ (tagS l).data.toList = tag ∧ v.2.2.2 = true ∧ v.1 = got ∧ v.2.1 = v.2.2.1 - 1 ∧ v.2.1 - v.1 + 1 = (n : Int)
    · rw [if_pos h, if_pos ⟨h.1, h.2.1, h.2.2.1, h.2.2.2.1, rfl, h.2.2.2.2.1, h.2.2.2.2.2.1, h.2.2.2.2.2.2.symm⟩]
    · rw [if_neg h, if_neg (fun g => h ⟨g.1, g.2.1, g.2.2.1, g.2.2.2.1, g.2.2.2.2.2.1, g.2.2.2.2.2.2.1, g.2.2.2.2.2.2.2.symm⟩)]
theorem rfits_f (c : Int) (l : List S28) (body : ByteArray) (b : Bool) (got : Int) (tag : List UInt8) (hl : okH l) (hc : (getS crangeL l).1.size < 4294967281) :
    Ev (fun k => postilionref01_Fits.f k c l body b got (B tag)) (fitsS c l body.size got tag) := by
  rw [← fitsR_eq]
  unfold postilionref01_Fits.f
  refine Ev.bind (a := getS crangeL l) (rget_f crangeL (by decide) l hl) ?_
  refine Ev.bind (a := spanS (getS crangeL l).1.data.toList) ?_ ?_
  · have := rspan_f (getS crangeL l).1.data.toList (by rw [data_length]; exact hc)
    rw [B_data] at this
    exact this
  refine Ev.bind (a := getS clenL l) (rget_f clenL (by decide) l hl) ?_
  unfold fitsR
  have hv := spanS_bound (getS crangeL l).1.data.toList
  generalize spanS (getS crangeL l).1.data.toList = v at *
  have w1 : wrap64 (v.2.2.1 - 1) = v.2.2.1 - 1 := w64 rfl (by omega) (by omega)
  have w2 : wrap64 ((wrap64 (v.2.1 - v.1)) + 1) = v.2.1 - v.1 + 1 := by rw [w64 (x := v.2.1 - v.1) rfl (by omega) (by omega)]; exact w64 rfl (by omega) (by omega)
  have tail : ∀ z : Int, Ev (fun k => if c = 206 then (if (B tag).toList = ([] : List UInt8) then (some (0, false)) else ((postilionref01_Tag.f k l).bind fun t223 => (if t223.toList = (B tag).toList then (if v.2.2.2 = true then (if v.1 = got then (if v.2.1 = (wrap64 (v.2.2.1 - 1)) then (if (wrap64 ((wrap64 (v.2.1 - v.1)) + 1)) = z then (some (v.2.2.1, true)) else (some (0, false))) else (some (0, false))) else (some (0, false))) else (some (0, false))) else (some (0, false))))) else (some (0, false)))
      (if c = 206 ∧ tag ≠ [] ∧ (tagS l).data.toList = tag ∧ v.2.2.2 = true ∧ v.1 = got ∧ v.2.1 = v.2.2.1 - 1 ∧ v.2.1 - v.1 + 1 = z then (v.2.2.1, true) else (0, false)) := by
    intro z
    by_cases h1 : c = 206
    · by_cases h2 : tag = []
      · subst h2
        simp only [if_pos h1]
        refine Ev.congr (f := fun _ => some (0, false)) (fun k => by rw [B_toList, if_pos rfl]) ?_
        rw [if_neg (by simp)]
        exact Ev.now _
      · refine Ev.congr (fun k => by rw [if_pos h1, B_toList, if_neg h2]) ?_
        refine Ev.bind (rtag_f l hl) ?_
        refine Ev.congr (f := fun _ => some _) (fun k => ?_) (Ev.now _)
        rw [ByteArray.toList_eq, w1, w2]
        by_cases h3 : (tagS l).data.toList = tag
        · by_cases h4 : v.2.2.2 = true
          · by_cases h6 : v.1 = got
            · by_cases h7 : v.2.1 = v.2.2.1 - 1
              · by_cases h8 : v.2.1 - v.1 + 1 = z
                · rw [if_pos h3, if_pos h4, if_pos h6, if_pos h7, if_pos h8, if_pos ⟨h1, h2, h3, h4, h6, h7, h8⟩]
                · rw [if_pos h3, if_pos h4, if_pos h6, if_pos h7, if_neg h8, if_neg (fun h => h8 h.2.2.2.2.2.2)]
              · rw [if_pos h3, if_pos h4, if_pos h6, if_neg h7, if_neg (fun h => h7 h.2.2.2.2.2.1)]
            · rw [if_pos h3, if_pos h4, if_neg h6, if_neg (fun h => h6 h.2.2.2.2.1)]
          · rw [if_pos h3, if_neg h4, if_neg (fun h => h4 h.2.2.2.1)]
        · rw [if_neg h3, if_neg (fun h => h3 h.2.2.1)]
    · refine Ev.congr (f := fun _ => some (0, false)) (fun k => by rw [if_neg h1]) ?_
      rw [if_neg (fun h => h1 h.1)]
      exact Ev.now _
  dsimp only
  by_cases hq : (getS clenL l).2 = true
  · simp only [if_pos hq]
    refine Ev.bind (a := numS (getS clenL l).1.data.toList) ?_ (tail _)
    have := figures_f (getS clenL l).1.data.toList
    rw [B_data] at this
    exact this
  · simp only [if_neg hq]
    exact tail _
theorem rheads_f (got : Int) (tag : ByteArray) (h : got ≤ 9223372036854775807) : postilionref01_RangeHeads.f got tag = some (headsS got tag) := by
  unfold postilionref01_RangeHeads.f headsS
  by_cases h1 : got < 1
  · rw [if_pos h1, if_pos h1]
  · rw [if_neg h1, if_neg h1]
    by_cases h2 : tag.toList = []
    · rw [if_pos h2, if_pos h2]
    · rw [if_neg h2, if_neg h2]
      have e := digits_f got h
      have hl := Giv.dec_len 19 got.toNat (by have : (10 : Nat) ^ 19 = 10000000000000000000 := by decide
                                              omega)
      have hz : (decB got.toNat).size = (Lib.decDigits got.toNat).length := B_size _
      have e' : postilionref01_Digits.f got = some (decB got.toNat) := e
      rw [e']
      simp only [Option.bind_some]
      rw [if_pos (by omega), if_pos (by omega)]
      have e2 : (⟨#[98, 121, 116, 101, 115, 61]⟩ : ByteArray) ++ decB got.toNat ++ (⟨#[45]⟩ : ByteArray) = B ([98, 121, 116, 101, 115, 61] ++ Lib.decDigits got.toNat ++ [45]) := by
        show B _ ++ B _ ++ B _ = _
        rw [B_append, B_append]
      rw [e2]
      rfl
theorem same_l (l : List S28) (hl : l.length ≤ 140737488351232) : ∀ (d i : Nat), l.length - i = d → i ≤ l.length → Ev (fun k => api_Head.l0 k l l (i : Int)) true := by
  intro d
  induction d with
  | zero =>
    intro i hd hi
    exact Ev.step (f := fun _ => some true) (fun k => by simp only [api_Head.l0]; rw [if_neg (by omega)]) (Ev.now _)
  | succ d ih =>
    intro i hd hi
    have hw : wrap64 ((i : Int) + 1) = ((i + 1 : Nat) : Int) := w64 (by omega) (by omega) (by omega)
    refine Ev.step (f := fun k => api_Head.l0 k l l ((i + 1 : Nat) : Int)) (fun k => by simp only [api_Head.l0]; rw [if_pos (by omega), if_pos (by omega), if_pos (by omega), if_neg (by simp), hw]) (ih (i + 1) (by omega) (by omega))
theorem same_f (l : List S28) (hl : l.length ≤ 140737488351232) : Ev (fun k => api_Head.f k l l) true := by
  refine Ev.congr (f := fun k => api_Head.l0 k l l ((0 : Nat) : Int)) (fun k => by unfold api_Head.f; rw [if_pos rfl]; rfl) (same_l l hl l.length 0 (by omega) (by omega))
def small (h : ByteArray × ByteArray) : Prop := h.1.size ≤ 100 ∧ h.2.size ≤ 100
def smallH (l : List S28) : Prop := ∀ h ∈ l, h.f0.size ≤ 100 ∧ h.f1.size ≤ 100
def smallB (l : List S28) : Bool := l.all fun h => decide (h.f0.size ≤ 100) && decide (h.f1.size ≤ 100)
theorem smallB_at {l : List S28} (h : smallB l = true) (i : Int) : small ((rd_T28 l i).f0, (rd_T28 l i).f1) := by
  unfold rd_T28
  rw [List.getD_eq_getElem?_getD]
  rcases hq : l[i.toNat]? with _ | x
  · exact ⟨by decide, by decide⟩
  · have := List.all_eq_true.1 h x (List.mem_of_getElem? hq)
    simpa [small] using this
theorem head_play (n : Int) : ∃ h : ByteArray × ByteArray, postilionplay_head.f n (⟨#[]⟩ : ByteArray) = some h ∧ small h := by
  unfold postilionplay_head.f
  simp only [Option.bind_some]
  generalize hy : ([_, _, _, _, _, _, _, _, _, _, _, _, _, _, _, _, _, _, _, _, _, _, _, _] : List S28) = y
  have hl : y.length = 24 := by rw [← hy]; rfl
  have hs : smallB y = true := by rw [← hy]; decide
  rw [hl]
  have b := Int.emod_nonneg n (show (24 : Int) ≠ 0 by decide)
  have c := Int.emod_lt_of_pos n (show (0 : Int) < 24 by decide)
  have e : postilionkeep_Within.f n ((24 : Nat) : Int) = some (n % 24) := within_f n 24 (by decide) (by decide)
  rw [e]
  simp only [Option.bind_some]
  rw [if_pos b, if_pos (by omega)]
  exact ⟨_, rfl, smallB_at hs _⟩
def goodR (r : Int × List S28 × ByteArray × Bool) : Prop := r.2.1.length ≤ 10 ∧ smallH r.2.1
theorem reply_j2 (x0 : Int) (x2 : ByteArray) (c : Int) (h : List S28) (b : ByteArray) (t : Bool) (hl : h.length ≤ 10) (hs : smallH h) :
    ∃ r, goodR r ∧ Ev (fun k => postilionplay_Reply.j2 k x0 x2 c h b t) r := by
  have b1 := Int.emod_nonneg (wrap64 (Int.tdiv x0 5)) (show (7 : Int) ≠ 0 by decide)
  have c1 := Int.emod_lt_of_pos (wrap64 (Int.tdiv x0 5)) (show (0 : Int) < 7 by decide)
  have e1 := within_f (wrap64 (Int.tdiv x0 5)) 7 (by decide) (by decide)
  have e2 := within_f x0 50 (by decide) (by decide)
  generalize wrap64 (Int.tdiv x0 5) % 7 = t1 at *
  obtain ⟨n, hn, hr⟩ : ∃ n : Nat, n ≤ 60 ∧ rd [0, 5, 8, 3, 30, 49, 60] t1 = (n : Int) := by
    have : t1 = 0 ∨ t1 = 1 ∨ t1 = 2 ∨ t1 = 3 ∨ t1 = 4 ∨ t1 = 5 ∨ t1 = 6 := by omega
    rcases this with rfl | rfl | rfl | rfl | rfl | rfl | rfl
    · exact ⟨0, by decide, rfl⟩
    · exact ⟨5, by decide, rfl⟩
    · exact ⟨8, by decide, rfl⟩
    · exact ⟨3, by decide, rfl⟩
    · exact ⟨30, by decide, rfl⟩
    · exact ⟨49, by decide, rfl⟩
    · exact ⟨60, by decide, rfl⟩
  obtain ⟨ys, hy, he⟩ := bytes_f 99 n (by omega)
  by_cases g : x0 % 50 = 49
  · refine ⟨(c, h, x2, t), ⟨hl, hs⟩, ?_⟩
    refine Ev.step (fun k => by simp only [postilionplay_Reply.j2]; exact rfl) ?_
    simp only [Option.bind_some, e1, e2]
    refine Ev.congr (fun k => by rw [if_pos b1, if_pos (by simp; omega), hr]) ?_
    refine Ev.bind he ?_
    simp only [if_pos g]
    exact Ev.now _
  · refine ⟨(c, h, strOfNums ys, t), ⟨hl, hs⟩, ?_⟩
    refine Ev.step (fun k => by simp only [postilionplay_Reply.j2]; exact rfl) ?_
    simp only [Option.bind_some, e1, e2]
    refine Ev.congr (fun k => by rw [if_pos b1, if_pos (by simp; omega), hr]) ?_
    refine Ev.bind he ?_
    simp only [if_neg g]
    exact Ev.now _
theorem reply_j1 (x0 : Int) (x2 : ByteArray) (c : Int) (h : List S28) (b : ByteArray) (t : Bool) (hl : h.length ≤ 9) (hs : smallH h) :
    ∃ r, goodR r ∧ Ev (fun k => postilionplay_Reply.j1 k x0 x2 c h b t) r := by
  have e1 := within_f (wrap64 (Int.tdiv x0 7)) 3 (by decide) (by decide)
  by_cases g : wrap64 (Int.tdiv x0 7) % 3 > 0
  · obtain ⟨r, hr, he⟩ := reply_j2 x0 x2 c (h ++ [(⟨(⟨#[97, 108, 108, 111, 119, 45, 111, 114, 105, 103, 105, 110]⟩ : ByteArray), (⟨#[42]⟩ : ByteArray)⟩ : S28)]) b t (by rw [List.length_append]; simp only [List.length_singleton]; omega) (by
      intro x hx
      rcases List.mem_append.1 hx with hx | hx
      · exact hs x hx
      · have := List.mem_singleton.1 hx
        subst this
        exact ⟨by decide, by decide⟩)
    exact ⟨r, hr, Ev.step (f := fun k => postilionplay_Reply.j2 k x0 x2 c _ b t) (fun k => by simp only [postilionplay_Reply.j1, e1, Option.bind_some]; rw [if_pos g, if_pos (by omega)]) he⟩
  · obtain ⟨r, hr, he⟩ := reply_j2 x0 x2 c h b t (by omega) hs
    exact ⟨r, hr, Ev.step (f := fun k => postilionplay_Reply.j2 k x0 x2 c h b t) (fun k => by simp only [postilionplay_Reply.j1, e1, Option.bind_some]; rw [if_neg g]) he⟩
theorem reply_l0 (x0 : Int) (l1 : List Int) (x2 : ByteArray) (c : Int) (b : ByteArray) (t : Bool) (_hL : l1.length ≤ 140737488351232) : ∀ (d i : Nat) (h : List S28), 6 - i = d → i ≤ l1.length → h.length ≤ i → i ≤ 6 → smallH h →
    ∃ r, goodR r ∧ Ev (fun k => postilionplay_Reply.l0 k x0 l1 x2 (i : Int) c h b t) r := by
  have e1 := within_f (wrap64 (Int.tdiv x0 21)) 6 (by decide) (by decide)
  have c1 := Int.emod_lt_of_pos (wrap64 (Int.tdiv x0 21)) (show (0 : Int) < 6 by decide)
  generalize wrap64 (Int.tdiv x0 21) % 6 = m at *
  intro d
  induction d with
  | zero =>
    intro i h hd hi hl h6 hs
    obtain ⟨r, hr, he⟩ := reply_j1 x0 x2 c h b t (by omega) hs
    refine ⟨r, hr, Ev.step (f := fun k => postilionplay_Reply.j1 k x0 x2 c h b t) (fun k => ?_) he⟩
    simp only [postilionplay_Reply.l0, e1, Option.bind_some]
    by_cases g : (i : Int) < (l1.length : Int)
    · rw [if_pos g, if_neg (by omega)]
    · rw [if_neg g]
  | succ d ih =>
    intro i h hd hi hl h6 hs
    by_cases g : (i : Int) < (l1.length : Int)
    · by_cases g2 : (i : Int) < m
      · obtain ⟨hd2, e2, hs2⟩ := head_play (rd l1 (i : Int))
        obtain ⟨r, hr, he⟩ := ih (i + 1) (h ++ [⟨hd2.1, hd2.2⟩]) (by omega) (by omega) (by rw [List.length_append]; simp only [List.length_singleton]; omega) (by omega) (by
          intro x hx
          rcases List.mem_append.1 hx with hx | hx
          · exact hs x hx
          · have := List.mem_singleton.1 hx
            subst this
            exact hs2)
        have hw : wrap64 ((i : Int) + 1) = ((i + 1 : Nat) : Int) := w64 (by omega) (by omega) (by omega)
        exact ⟨r, hr, Ev.step (f := fun k => postilionplay_Reply.l0 k x0 l1 x2 ((i + 1 : Nat) : Int) c _ b t) (fun k => by
          simp only [postilionplay_Reply.l0, e1, e2, Option.bind_some]
          rw [if_pos g, if_pos g2, if_pos (by omega), if_pos (by omega), hw]) he⟩
      · obtain ⟨r, hr, he⟩ := reply_j1 x0 x2 c h b t (by omega) hs
        exact ⟨r, hr, Ev.step (f := fun k => postilionplay_Reply.j1 k x0 x2 c h b t) (fun k => by
          simp only [postilionplay_Reply.l0, e1, Option.bind_some]
          rw [if_pos g, if_neg g2]) he⟩
    · obtain ⟨r, hr, he⟩ := reply_j1 x0 x2 c h b t (by omega) hs
      exact ⟨r, hr, Ev.step (f := fun k => postilionplay_Reply.j1 k x0 x2 c h b t) (fun k => by
        simp only [postilionplay_Reply.l0, e1, Option.bind_some]
        rw [if_neg g]) he⟩
theorem reply_play (x0 : Int) (l1 : List Int) (hL : l1.length ≤ 140737488351232) : ∃ r, goodR r ∧ Ev (fun k => postilionplay_Reply.f k x0 l1 (⟨#[]⟩ : ByteArray)) r := by
  have b1 := Int.emod_nonneg x0 (show (21 : Int) ≠ 0 by decide)
  have c1 := Int.emod_lt_of_pos x0 (show (0 : Int) < 21 by decide)
  have e1 := within_f x0 21 (by decide) (by decide)
  obtain ⟨r, hr, he⟩ := reply_l0 x0 l1 (⟨#[]⟩ : ByteArray) (rd [200, 200, 200, 206, 301, 302, 303, 307, 308, 404, 416, 429, 500, 503, 204, 100, 599, 400, 201, 416, 206] (x0 % 21)) (⟨#[]⟩ : ByteArray) false hL 6 0 [] (by omega) (by omega) (by simp) (by omega) (fun x hx => by cases hx)
  refine ⟨r, hr, Ev.congr (fun k => ?_) he⟩
  unfold postilionplay_Reply.f
  simp only [e1, Option.bind_some]
  rw [if_pos b1, if_pos (by simp; omega)]
  rfl
def midH (l : List S28) : Prop := l.length ≤ 100 ∧ ∀ h ∈ l, h.f0.size ≤ 1048576 ∧ h.f1.size ≤ 1048576
theorem midH.ok {l : List S28} (h : midH l) : okH l := ⟨by have := h.1; omega, fun x hx => by have := h.2 x hx; omega⟩
theorem getS_mid (name : List UInt8) : ∀ l : List S28, (∀ h ∈ l, h.f1.size ≤ 1048576) → (getS name l).1.size ≤ 1048576
  | [], _ => by unfold getS; decide
  | h :: r, hl => by
    unfold getS
    split
    · exact hl h List.mem_cons_self
    · exact getS_mid name r fun x hx => hl x (List.mem_cons_of_mem _ hx)
theorem headsS_len (got : Int) (tag : ByteArray) : (headsS got tag).length ≤ 2 := by
  unfold headsS
  split
  · simp
  · split <;> simp
theorem tells_j3 (got : Int) (hg : got ≤ 9223372036854775807) (tag : ByteArray) (c : Int) (h : List S28) (b : ByteArray) (t : Bool) (hh : midH h) : Ev (fun k => postilionlaw15_PartTells.j3 k got tag false c h b t) true := by
  obtain ⟨m, rfl⟩ := ex_B tag
  have hc : (getS crangeL h).1.size < 4294967281 := by
    have := getS_mid crangeL h (fun x hx => (hh.2 x hx).2)
    omega
  refine Ev.step (fun k => by simp only [postilionlaw15_PartTells.j3]; exact rfl) ?_
  refine Ev.congr (fun k => if_neg (by decide)) ?_
  have e0 : postilionlaw13_To.f c h b t = some (c, h, b, t) := rfl
  simp only [e0, Option.bind_some]
  refine Ev.bind (fits_f c h b t got m hh.ok hc) ?_
  refine Ev.bind (rfits_f c h b t got m hh.ok hc) ?_
  have e1 := heads_f got (B m) hg
  have e2 := rheads_f got (B m) hg
  simp only [beq_self_eq_true, if_true, e1, e2, Option.bind_some]
  refine Ev.bind (same_f (headsS got (B m)) (by have := headsS_len got (B m); omega)) ?_
  simp only [if_true]
  exact Ev.bind wakes15_f (Ev.now _)
theorem tells_j2 (s : List UInt8) (hs : s.length ≤ 1048576) (got : Int) (hg : got ≤ 9223372036854775807) (which : Int) (c : Int) (h : List S28) (b : ByteArray) (t : Bool) (hh : midH h) : Ev (fun k => postilionlaw15_PartTells.j2 k (B s) got which c h b t) true := by
  have b1 := Int.emod_nonneg which (show (5 : Int) ≠ 0 by decide)
  have c1 := Int.emod_lt_of_pos which (show (0 : Int) < 5 by decide)
  have e1 := within_f which 5 (by decide) (by decide)
  generalize which % 5 = w at *
  refine Ev.step (fun k => by simp only [postilionlaw15_PartTells.j2]; exact rfl) ?_
  simp only [e1, Option.bind_some]
  refine Ev.congr (fun k => by rw [if_pos b1, if_pos (by simp; omega)]) ?_
  refine Ev.bind (span_f s (by omega)) ?_
  refine Ev.bind (rspan_f s (by omega)) ?_
  simp only [if_true, bne_self_eq_false, Bool.false_eq_true, if_false]
  refine Ev.bind (tag_f h hh.ok) ?_
  refine Ev.bind (rtag_f h hh.ok) ?_
  simp only [bne_self_eq_false]
  exact tells_j3 got hg _ c h b t hh
theorem tells_j1 (s : List UInt8) (hs : s.length ≤ 1048576) (got : Int) (hg : got ≤ 9223372036854775807) (which : Int) (c : Int) (h : List S28) (b : ByteArray) (t : Bool) (hh : midH h) : Ev (fun k => postilionlaw15_PartTells.j1 k (B s) got which c h b t) true := by
  by_cases g : Int.tmod got 5 > 0
  · have c1 := Int.emod_lt_of_pos got (show (0 : Int) < 10 by decide)
    exact Ev.step (f := fun k => postilionlaw15_PartTells.j2 k (B s) (got % 10) which c h b t) (fun k => by simp only [postilionlaw15_PartTells.j1, within_f got 10 (by decide) (by decide), Option.bind_some]; rw [if_pos g]) (tells_j2 s hs (got % 10) (by omega) which c h b t hh)
  · exact Ev.step (f := fun k => postilionlaw15_PartTells.j2 k (B s) got which c h b t) (fun k => by simp only [postilionlaw15_PartTells.j1]; rw [if_neg g]) (tells_j2 s hs got hg which c h b t hh)
theorem tells_j0 (s : List UInt8) (hs : s.length ≤ 1048576) (got : Int) (hg : got ≤ 9223372036854775807) (which : Int) (raw : Bool) (c : Int) (h : List S28) (b : ByteArray) (t : Bool) (hl : h.length ≤ 10) (hh : smallH h) : Ev (fun k => postilionlaw15_PartTells.j0 k (B s) got which raw c h b t) true := by
  have h0 : ∀ x ∈ h, x.f0.size ≤ 1048576 ∧ x.f1.size ≤ 1048576 := fun x hx => by have := hh x hx; omega
  cases raw
  · exact Ev.step (f := fun k => postilionlaw15_PartTells.j1 k (B s) got which c h b t) (fun k => by simp only [postilionlaw15_PartTells.j0]; rw [if_neg (by decide)]) (tells_j1 s hs got hg which c h b t ⟨by omega, h0⟩)
  · refine Ev.step (f := fun k => postilionlaw15_PartTells.j1 k (B s) got which c (([(⟨(⟨#[99, 111, 110, 116, 101, 110, 116, 45, 114, 97, 110, 103, 101]⟩ : ByteArray), B s⟩ : S28), (⟨(⟨#[101, 116, 97, 103]⟩ : ByteArray), B s⟩ : S28)] : List (S28)) ++ h) b t) (fun k => by simp only [postilionlaw15_PartTells.j0, if_true, Option.bind_some]; rw [if_pos (by simp only [List.length_cons, List.length_nil]; omega)]) ?_
    refine tells_j1 s hs got hg which c _ b t ⟨by rw [List.length_append]; simp only [List.length_cons, List.length_nil]; omega, fun x hx => ?_⟩
    rcases List.mem_append.1 hx with hx | hx
    · have hz : (B s).size ≤ 1048576 := by rw [B_size]; exact hs
      simp only [List.mem_cons, List.not_mem_nil, or_false] at hx
      rcases hx with rfl | rfl
      · exact ⟨show (B crangeL).size ≤ 1048576 by decide, hz⟩
      · exact ⟨show (B [101, 116, 97, 103]).size ≤ 1048576 by decide, hz⟩
    · exact h0 x hx
theorem PartTells (a0 : Int) (l1 : List Int) (a2 : ByteArray) (a3 a4 : Int) (a5 : Bool) (_w0 : (Lit.int .i64 a0).wf = true) (_m1 : l1.length ≤ maxLen) (_b1 : l1.length * 8 ≤ 140737488351232) (_w1 : ∀ x ∈ l1, (Lit.int .i64 x).wf = true) (u1 : l1.length ≤ 1048576) (_m2 : a2.size ≤ 140737488351232) (u2 : a2.size ≤ 1048576)
    (w3 : (Lit.int .i64 a3).wf = true) (_w4 : (Lit.int .i64 a4).wf = true) : ∃ k, postilionlaw15_PartTells.f k a0 l1 a2 a3 a4 a5 = some true := by
  refine Ev.rounds ?_
  obtain ⟨s, rfl⟩ := ex_B a2
  rw [B_size] at u2
  have hg : a3 ≤ 9223372036854775807 := by
    simp only [Lit.wf, Bool.and_eq_true, decide_eq_true_eq] at w3
    exact w3.2
  unfold postilionlaw15_PartTells.f
  obtain ⟨r, hr, he⟩ := reply_play a0 l1 (by omega)
  refine Ev.bind he ?_
  by_cases g : Int.tmod a0 3 = 0
  · refine Ev.congr (fun k => if_pos g) ?_
    exact tells_j0 s u2 a3 hg a4 a5 206 r.2.1 r.2.2.1 r.2.2.2 hr.1 hr.2
  · refine Ev.congr (fun k => if_neg g) ?_
    exact tells_j0 s u2 a3 hg a4 a5 r.1 r.2.1 r.2.2.1 r.2.2.2 hr.1 hr.2
end Go.Proofs.YtekmgbeaoojdcaaDoor.Pure
