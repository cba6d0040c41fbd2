/- What the printed functions of PartSpans answer, in plain words. -/
import Derived.Test.YtiabjeeelgkneaaDoorBas
import Derived.Test.YtiabjeeelgkneaaDoorGPartSpansx
namespace Go.Proofs.YtiabjeeelgkneaaDoor.Pure
open Go.RowKit Go.Proofs.YtiabjeeelgkneaaDoorW.PrintWords Go.Proofs.YtiabjeeelgkneaaDoorW.PrintLast Go.Proofs.YtiabjeeelgkneaaDoorW.PrintMore
open Go.Proofs.YtiabjeeelgkneaaDoor.GPartSpans Go.Proofs.YtiabjeeelgkneaaDoor.GivP Go.Proofs.YtiabjeeelgkneaaDoor.Bas Go.Proofs.YtiabjeeelgkneaaDoor.Giv
theorem within_f (a n : Int) (h : 1 ≤ n) (hn : n ≤ 4611686018427387904) : postilionkeep_Within.f a n = some (a % n) := by
  unfold postilionkeep_Within.f
  rw [if_neg (by omega), if_neg (by omega), ← tmod_emod a n h hn]
  split <;> rfl
theorem number_l (l : List UInt8) (hl : l.length ≤ 6) : ∀ (d i : Nat) (n : Int), l.length - i = d → i ≤ l.length → 0 ≤ n → n < 10 ^ i →
    Ev (fun k => reply_Number.l0 k (B l) n (l.length : Int) (i : Int)) (if (l.drop i).all isD = true then (numV n (l.drop i), true) else (0, false)) := by
  intro d
  induction d with
  | zero =>
    intro i n hd hi h0 h1
    refine Ev.step (f := fun _ => some (n, true)) (fun k => by simp only [reply_Number.l0]; rw [if_neg (by omega)]) ?_
    rw [List.drop_eq_nil_of_le (by omega)]
    exact Ev.now _
  | succ d ih =>
    intro i n hd hi h0 h1
    have hlt : i < l.length := by omega
    have hb := bt_B l i hlt
    have hc : (l[i].toNat : Int) < 256 := by have := l[i].toNat_lt; omega
    have h6 : (10 : Int) ^ i ≤ 100000 := by
      have : i = 0 ∨ i = 1 ∨ i = 2 ∨ i = 3 ∨ i = 4 ∨ i = 5 := by omega
      rcases this with rfl | rfl | rfl | rfl | rfl | rfl <;> decide
    have hs : l.drop i = l[i] :: l.drop (i + 1) := List.drop_eq_getElem_cons hlt
    by_cases h2 : (l[i].toNat : Int) < 48
    · refine Ev.step (f := fun _ => some (0, false)) (fun k => by simp only [reply_Number.l0]; rw [if_pos (by omega), if_pos (by omega), if_pos (by rw [B_size]; omega), hb, if_pos h2]) ?_
      rw [hs, if_neg (by rw [List.all_cons, isD_no (.inl (by omega))]; simp)]
      exact Ev.now _
    · by_cases h3 : (l[i].toNat : Int) > 57
      · refine Ev.step (f := fun _ => some (0, false)) (fun k => by simp only [reply_Number.l0]; rw [if_pos (by omega), if_pos (by omega), if_pos (by rw [B_size]; omega), hb, if_neg h2, if_pos h3]) ?_
        rw [hs, if_neg (by rw [List.all_cons, isD_no (.inr (by omega))]; simp)]
        exact Ev.now _
      · have hw : wrap64 (wrap64 (10 * n) + ((l[i].toNat : Int) - 48) % 256) = 10 * n + ((l[i].toNat : Int) - 48) := by unfold wrap64; omega
        have hw2 : wrap64 ((i : Int) + 1) = ((i + 1 : Nat) : Int) := by unfold wrap64; omega
        refine Ev.step (f := fun k => reply_Number.l0 k (B l) (10 * n + ((l[i].toNat : Int) - 48)) (l.length : Int) ((i + 1 : Nat) : Int)) (fun k => by simp only [reply_Number.l0]; rw [if_pos (by omega), if_pos (by omega), if_pos (by rw [B_size]; omega), hb, if_neg h2, if_neg h3, hw, hw2]) ?_
        have := ih (i + 1) (10 * n + ((l[i].toNat : Int) - 48)) (by omega) (by omega) (by omega) (by rw [Int.pow_succ]; omega)
        rw [hs]
        have hd : isD l[i] = true := isD_yes (by omega) (by omega)
        simp only [List.all_cons, hd, Bool.true_and]
        exact this
theorem number_f (l : List UInt8) : Ev (fun k => reply_Number.f k (B l)) (numS l) := by
  by_cases h1 : l.length < 1
  · refine Ev.congr (f := fun k => reply_Number.j0 k (B l) true) (fun k => by unfold reply_Number.f; rw [B_size, if_pos (by omega)]) ?_
    refine Ev.step (f := fun _ => some (0, false)) (fun k => by simp only [reply_Number.j0, if_true]) ?_
    unfold numS
    rw [if_neg (by omega)]
    exact Ev.now _
  · by_cases h2 : l.length ≤ 6
    · refine Ev.congr (f := fun k => reply_Number.j0 k (B l) false) (fun k => by unfold reply_Number.f; rw [B_size, if_neg (by omega), decide_eq_false (by omega)]) ?_
      refine Ev.step (f := fun k => reply_Number.l0 k (B l) 0 (l.length : Int) ((0 : Nat) : Int)) (fun k => by simp only [reply_Number.j0]; rw [if_neg (by simp), B_size]; rfl) ?_
      have := number_l l h2 l.length 0 0 (by omega) (by omega) (by omega) (by decide)
      simp only [List.drop_zero] at this
      unfold numS
      by_cases h3 : l.all isD = true
      · rw [if_pos h3] at this
        rw [if_pos ⟨by omega, h2, h3⟩]
        exact this
      · rw [if_neg h3] at this
        rw [if_neg (fun h => h3 h.2.2)]
        exact this
    · refine Ev.congr (f := fun k => reply_Number.j0 k (B l) true) (fun k => by unfold reply_Number.f; rw [B_size, if_neg (by omega), decide_eq_true (by omega)]) ?_
      refine Ev.step (f := fun _ => some (0, false)) (fun k => by simp only [reply_Number.j0, if_true]) ?_
      unfold numS
      rw [if_neg (by omega)]
      exact Ev.now _
theorem cut_f (l m : List UInt8) (h : l.length < 4294967281) : strings_Cut.f (B l) (B m) = some (B (Lib.cut l m).1, B (Lib.cut l m).2.1, (Lib.cut l m).2.2) := by
  unfold strings_Cut.f
  rw [if_pos (by rw [B_size]; exact h), data_B, data_B]
  rfl
theorem pre_f (l m : List UInt8) : strings_CutPrefix.f (B l) (B m) = some (if m.isPrefixOf l = true then (B (l.drop m.length), true) else (B l, false)) := by
  unfold strings_CutPrefix.f stringslite_CutPrefix.f stringslite_HasPrefix.f
  rw [B_size, B_size]
  by_cases h : m.length ≤ l.length
  · rw [if_pos (by omega), if_pos (by omega), if_pos (by omega)]
    simp only [Option.bind_some]
    rw [B_extract, B_toList, B_toList]
    have e : (((l.take (m.length : Int).toNat).drop 0 == m) = true) = (m.isPrefixOf l = true) := by
      rw [List.drop_zero, beq_iff_eq, List.isPrefixOf_iff_prefix, List.prefix_iff_eq_take]
      simp only [Int.toNat_natCast]
      exact propext ⟨fun h => h.symm, fun h => h.symm⟩
    by_cases h2 : m.isPrefixOf l = true
    · rw [if_pos (by rw [e]; exact h2), if_pos (by omega), if_pos (by omega), if_pos h2, B_extract]
      simp
    · rw [if_neg (by rw [e]; exact h2), if_neg h2]
      rfl
  · rw [if_neg (by omega)]
    have h2 : ¬ m.isPrefixOf l = true := by
      rw [List.isPrefixOf_iff_prefix]
      intro hp
      exact h hp.length_le
    rw [if_neg h2]
    rfl
def bytesL : List UInt8 := [98, 121, 116, 101, 115, 32]
/-- What a span of a content-range tells. -/
def spanS (s : List UInt8) : Int × Int × Int × Bool :=
  let rest := if bytesL.isPrefixOf s = true then s.drop 6 else s
  let c1 := Lib.cut rest [47]
  let c2 := Lib.cut c1.1 [45]
  let x := numS c2.1
  let y := numS c2.2.1
  let z := numS c1.2.1
  if bytesL.isPrefixOf s = true ∧ c1.2.2 = true ∧ c2.2.2 = true ∧ x.2 = true ∧ y.2 = true ∧ z.2 = true ∧ x.1 ≤ y.1 ∧ y.1 < z.1 then (x.1, y.1, z.1, true) else (0, 0, 0, false)
theorem cut1_le (l m : List UInt8) : (Lib.cut l m).1.length ≤ l.length := by
  unfold Lib.cut
  split
  · simp; omega
  · exact Nat.le_refl _
theorem span_f (s : List UInt8) (h : s.length < 4294967281) : Ev (fun k => part_Span.f k (B s)) (spanS s) := by
  have hr : (if bytesL.isPrefixOf s = true then s.drop 6 else s).length < 4294967281 := by
    split
    · rw [List.length_drop]; omega
    · exact h
  unfold part_Span.f
  have e1 : strings_CutPrefix.f (B s) (⟨#[98, 121, 116, 101, 115, 32]⟩ : ByteArray) = some (B (if bytesL.isPrefixOf s = true then s.drop 6 else s), bytesL.isPrefixOf s) := by
    refine (pre_f s bytesL).trans ?_
    by_cases hp : bytesL.isPrefixOf s = true
    · rw [if_pos hp, if_pos hp, hp]; rfl
    · rw [if_neg hp, if_neg hp, Bool.eq_false_iff.2 hp]
  have hsp : spanS s = spanS s := rfl
  unfold spanS at hsp ⊢
  generalize (if bytesL.isPrefixOf s = true then s.drop 6 else s) = rest at *
  have e2 := cut_f rest [47] hr
  have hc1 := cut1_le rest [47]
  have e3 := cut_f (Lib.cut rest [47]).1 [45] (by omega)
  simp only [e1, Option.bind_some]
  have e2' : strings_Cut.f (B rest) (⟨#[47]⟩ : ByteArray) = _ := e2
  have e3' : strings_Cut.f (B (Lib.cut rest [47]).1) (⟨#[45]⟩ : ByteArray) = _ := e3
  simp only [e2', Option.bind_some, e3']
  generalize Lib.cut rest [47] = c1 at *
  generalize Lib.cut c1.1 [45] = c2 at *
  refine Ev.bind (number_f c2.1) ?_
  refine Ev.bind (number_f c2.2.1) ?_
  refine Ev.bind (number_f c1.2.1) ?_
  generalize numS c2.1 = x
  generalize numS c2.2.1 = y
  generalize numS c1.2.1 = z
  refine Ev.congr (f := fun _ => some _) (fun _ => ?_) (Ev.now _)
  generalize bytesL.isPrefixOf s = p
  cases p <;> cases c1.2.2 <;> cases c2.2.2 <;> cases x.2 <;> cases y.2 <;> cases z.2 <;> simp
  by_cases h1 : y.1 < x.1
  · rw [if_pos h1, if_neg (by omega)]
  · rw [if_neg h1]
    by_cases h2 : z.1 ≤ y.1
    · rw [if_pos h2, if_neg (by omega)]
    · rw [if_neg h2, if_pos (by omega)]
def lowerS (l : List UInt8) : List UInt8 := l.map lowerB
theorem lower_f (l : List UInt8) (h : l.length ≤ 140737488351232) : pct_Lower.f (B l) = some (B (lowerS l)) := by
  unfold pct_Lower.f
  rw [if_pos (by rw [B_size]; exact h), data_B]
  rfl
/-- The value of a name. -/
def getS (name : List UInt8) (l : List S26) : ByteArray × Bool :=
  match l with
  | [] => (⟨#[]⟩, false)
  | h :: r => if lowerS h.f0.data.toList = lowerS name then (h.f1, true) else getS name r
def okH (l : List S26) : Prop := l.length ≤ 140737488351232 ∧ ∀ h ∈ l, h.f0.size ≤ 140737488351232 ∧ h.f1.size ≤ 140737488351232
theorem get_l (name : List UInt8) (hn : name.length ≤ 140737488351232) (l : List S26) (hl : okH l) : ∀ (d i : Nat), l.length - i = d → i ≤ l.length →
    Ev (fun k => head_Get.l0 k (B name) l (l.length : Int) (i : Int)) (getS name (l.drop i)) := by
  intro d
  induction d with
  | zero =>
    intro i hd hi
    refine Ev.step (f := fun _ => some (⟨#[]⟩, false)) (fun k => by simp only [head_Get.l0]; rw [if_neg (by omega)]) ?_
    rw [List.drop_eq_nil_of_le (by omega)]
    exact Ev.now _
  | succ d ih =>
    intro i hd hi
    have hlt : i < l.length := by omega
    have hs : l.drop i = l[i] :: l.drop (i + 1) := List.drop_eq_getElem_cons hlt
    have hr : rd_T26 l (i : Int) = l[i] := by
      unfold rd_T26
      simp [List.getD_eq_getElem?_getD, List.getElem?_eq_getElem hlt]
    have hw : wrap64 ((i : Int) + 1) = ((i + 1 : Nat) : Int) := by
      have := hl.1
      unfold wrap64
      omega
    have h0 := (hl.2 l[i] (List.getElem_mem hlt)).1
    have e0 : pct_Lower.f l[i].f0 = some (B (lowerS l[i].f0.data.toList)) := by
      have := lower_f l[i].f0.data.toList (by rw [data_length]; exact h0)
      rw [B_data] at this
      exact this
    have e1 := lower_f name hn
    rw [hs]
    unfold getS
    by_cases h : lowerS l[i].f0.data.toList = lowerS name
    · refine Ev.step (f := fun _ => some (l[i].f1, true)) (fun k => by
        simp only [head_Get.l0]
        rw [if_pos (by omega), if_pos (by omega), if_pos (by omega), hr, e0]
        simp only [Option.bind_some, e1]
        rw [B_toList, B_toList, if_pos h]) ?_
      rw [if_pos h]
      exact Ev.now _
    · refine Ev.step (f := fun k => head_Get.l0 k (B name) l (l.length : Int) ((i + 1 : Nat) : Int)) (fun k => by
        simp only [head_Get.l0]
        rw [if_pos (by omega), if_pos (by omega), if_pos (by omega), hr, e0]
        simp only [Option.bind_some, e1]
        rw [B_toList, B_toList, if_neg h, hw]) ?_
      rw [if_neg h]
      exact ih (i + 1) (by omega) (by omega)
theorem get_f (name : List UInt8) (hn : name.length ≤ 140737488351232) (l : List S26) (hl : okH l) : Ev (fun k => head_Get.f k (B name) l) (getS name l) := by
  have := get_l name hn l hl l.length 0 (by omega) (by omega)
  exact this
theorem getS_ok (name : List UInt8) : ∀ l : List S26, okH l → (getS name l).1.size ≤ 140737488351232
  | [], _ => by unfold getS; decide
  | h :: r, hl => by
    unfold getS
    split
    · exact (hl.2 h List.mem_cons_self).2
    · exact getS_ok name r ⟨by have := hl.1; simp at this; omega, fun x hx => hl.2 x (List.mem_cons_of_mem _ hx)⟩
def tagS (l : List S26) : ByteArray := if strongB (getS [101, 116, 97, 103] l).1 = true then (getS [101, 116, 97, 103] l).1 else ⟨#[]⟩
theorem strong_f (a : ByteArray) (h : a.size ≤ 140737488351232) : part_strong.f a = some (strongB a) := by
  unfold part_strong.f
  rw [if_pos h]
theorem tag_f (l : List S26) (hl : okH l) : Ev (fun k => part_Tag.f k l) (tagS l) := by
  unfold part_Tag.f
  refine Ev.bind (a := getS [101, 116, 97, 103] l) (get_f [101, 116, 97, 103] (by decide) l hl) ?_
  unfold tagS
  refine Ev.congr (f := fun _ => some _) (fun k => ?_) (Ev.now _)
  rw [strong_f _ (getS_ok _ l hl)]
  simp only [Option.bind_some]
  split <;> rfl
def decB (n : Nat) : ByteArray := B (Lib.decDigits n)
theorem itoa_f (n : Nat) (h : n ≤ 9223372036854775807) : strconv_Itoa.f (n : Int) = some (decB n) := by
  unfold strconv_Itoa.f
  rw [if_pos (by omega), if_pos (by omega)]
  unfold Lib.itoa
  rw [if_neg (by omega)]
  rfl
/-- What asks for the rest. -/
def headsS (got : Int) (tag : ByteArray) : List S26 :=
  if got < 1 then [] else if tag.toList = [] then [] else
    [⟨B [82, 97, 110, 103, 101], B ([98, 121, 116, 101, 115, 61] ++ Lib.decDigits got.toNat ++ [45])⟩, ⟨B [73, 102, 45, 82, 97, 110, 103, 101], tag⟩]
theorem heads_f (got : Int) (tag : ByteArray) (h : got ≤ 9223372036854775807) : part_Heads.f got tag = some (headsS got tag) := by
  unfold part_Heads.f headsS
  by_cases h1 : got < 1
  · rw [if_pos h1, if_pos h1]
  · rw [if_neg h1, if_neg h1]
    by_cases h2 : tag.toList = []
    · rw [if_pos h2, if_pos h2]
    · rw [if_neg h2, if_neg h2]
      have e := itoa_f got.toNat (by omega)
      rw [show ((got.toNat : Nat) : Int) = got by omega] at e
      have hl := Giv.dec_len 19 got.toNat (by have : (10 : Nat) ^ 19 = 10000000000000000000 := by decide
                                              omega)
      have hz : (decB got.toNat).size = (Lib.decDigits got.toNat).length := B_size _
      rw [e]
      simp only [Option.bind_some]
      rw [if_pos (by omega), if_pos (by omega)]
      have e2 : (⟨#[98, 121, 116, 101, 115, 61]⟩ : ByteArray) ++ decB got.toNat ++ (⟨#[45]⟩ : ByteArray) = B ([98, 121, 116, 101, 115, 61] ++ Lib.decDigits got.toNat ++ [45]) := by
        show B _ ++ B _ ++ B _ = _
        rw [B_append, B_append]
      rw [e2]
      rfl
theorem wakes15_f : Ev (fun k => postilionlaw15_wakes.f k) true := by
  unfold postilionlaw15_wakes.f
  rw [heads_f 0 _ (by decide), heads_f 3 _ (by decide)]
  simp only [Option.bind_some]
  have c0 : ((headsS 0 (⟨#[34, 97, 34]⟩ : ByteArray)).length : Int) = 0 := by decide
  have c3 : ((headsS 3 (⟨#[34, 97, 34]⟩ : ByteArray)).length : Int) = 2 := by
    unfold headsS
    rw [if_neg (by decide), if_neg (by rw [ByteArray.toList_eq]; decide)]
    rfl
  simp only [c0, c3, if_true]
  refine Ev.bind (tag_f _ ⟨by decide, fun h hm => by simp at hm; subst hm; decide⟩) ?_
  refine Ev.congr (f := fun _ => some true) (fun k => ?_) (Ev.now _)
  rw [ByteArray.toList_eq]
  congr 1
theorem digits_f (n : Int) (h : n ≤ 9223372036854775807) : postilionref01_Digits.f n = some (B (Lib.decDigits n.toNat)) := by
  unfold postilionref01_Digits.f
  rw [if_pos h]
  rfl
theorem spanS_of (x y z : Nat) : spanS (bytesL ++ Lib.decDigits x ++ [45] ++ Lib.decDigits y ++ [47] ++ Lib.decDigits z) =
    if x ≤ y ∧ y < z ∧ z < 1000000 then ((x : Int), (y : Int), (z : Int), true) else (0, 0, 0, false) := by
  have e1 : bytesL.isPrefixOf (bytesL ++ Lib.decDigits x ++ [45] ++ Lib.decDigits y ++ [47] ++ Lib.decDigits z) = true := by
    rw [List.isPrefixOf_iff_prefix]
    simp only [List.append_assoc]
    exact List.prefix_append _ _
  have e2 : (bytesL ++ Lib.decDigits x ++ [45] ++ Lib.decDigits y ++ [47] ++ Lib.decDigits z).drop 6 = (Lib.decDigits x ++ 45 :: Lib.decDigits y) ++ 47 :: Lib.decDigits z := by
    simp only [List.append_assoc]
    rw [show (6 : Nat) = bytesL.length from rfl, List.drop_left]
    simp
  have n1 : (47 : UInt8) ∉ Lib.decDigits x ++ 45 :: Lib.decDigits y := by
    have := dec_no x 47 (by decide)
    have := dec_no y 47 (by decide)
    simp
    exact ⟨by assumption, by assumption⟩
  have e3 := cut_yes (Lib.decDigits x ++ 45 :: Lib.decDigits y) (Lib.decDigits z) 47 n1
  have e4 := cut_yes (Lib.decDigits x) (Lib.decDigits y) 45 (dec_no x 45 (by decide))
  unfold spanS
  simp only [e1, if_true, e2, e3, e4, numS_dec]
  by_cases hx : x < 1000000
  · by_cases hy : y < 1000000
    · by_cases hz : z < 1000000
      · rw [if_pos hx, if_pos hy, if_pos hz]
        simp only [true_and]
        by_cases h : x ≤ y ∧ y < z
        · rw [if_pos (by omega), if_pos (by omega)]
        · rw [if_neg (by omega), if_neg (by omega)]
      · rw [if_neg hz, if_neg (by simp), if_neg (by omega)]
    · rw [if_neg hy, if_neg (by simp), if_neg (by omega)]
  · rw [if_neg hx, if_neg (by simp), if_neg (by omega)]
theorem core (x y z : Nat) (hx : x < 1200000) (hy : y < 1200000) (hz : z < 1200000) : Ev (fun k => postilionlaw15_PartSpans.j0 k (x : Int) (y : Int) (z : Int)) true := by
  have d1 := digits_f (x : Int) (by omega)
  have d2 := digits_f (y : Int) (by omega)
  have d3 := digits_f (z : Int) (by omega)
  simp only [Int.toNat_natCast] at d1 d2 d3
  have l1 := Giv.dec_len 7 x (by omega)
  have l2 := Giv.dec_len 7 y (by omega)
  have l3 := Giv.dec_len 7 z (by omega)
  have hs := spanS_of x y z
  have hw := wakes15_f
  have hcat : ((((((⟨#[98, 121, 116, 101, 115, 32]⟩ : ByteArray) ++ B (Lib.decDigits x)) ++ (⟨#[45]⟩ : ByteArray)) ++ B (Lib.decDigits y)) ++ (⟨#[47]⟩ : ByteArray)) ++ B (Lib.decDigits z)) = B (bytesL ++ Lib.decDigits x ++ [45] ++ Lib.decDigits y ++ [47] ++ Lib.decDigits z) := by
    show B bytesL ++ B _ ++ B [45] ++ B _ ++ B [47] ++ B _ = _
    simp only [B_append]
  refine Ev.step (f := _) (fun k => by simp only [postilionlaw15_PartSpans.j0]; exact rfl) ?_
  have q1 : (6 + (Lib.decDigits x).length ≤ 9223372036854775807) = True := eq_true (by omega)
  have q2 : (6 + (Lib.decDigits x).length + 1 ≤ 9223372036854775807) = True := eq_true (by omega)
  have q3 : (6 + (Lib.decDigits x).length + 1 + (Lib.decDigits y).length ≤ 9223372036854775807) = True := eq_true (by omega)
  have q4 : (6 + (Lib.decDigits x).length + 1 + (Lib.decDigits y).length + 1 ≤ 9223372036854775807) = True := eq_true (by omega)
  have q5 : (6 + (Lib.decDigits x).length + 1 + (Lib.decDigits y).length + 1 + (Lib.decDigits z).length ≤ 9223372036854775807) = True := eq_true (by omega)
  simp only [d1, d2, d3, Option.bind_some, B_size, q1, q2, q3, q4, q5, if_true, hcat]
  refine Ev.bind (a := if x ≤ y ∧ y < z ∧ z < 1000000 then ((x : Int), (y : Int), (z : Int), true) else (0, 0, 0, false)) ?_ ?_
  · rw [← hs]
    refine span_f _ ?_
    simp [bytesL]
    omega
  · have hb : ∀ t : Option Bool, (t.bind fun q => some q) = t := fun t => by cases t <;> rfl
    simp only [hb]
    by_cases h1 : x ≤ y
    · by_cases h2 : y < z
      · by_cases h3 : z < 1000000
        · rw [if_pos ⟨h1, h2, h3⟩]
          have g1 : (x : Int) ≤ y := by omega
          have g2 : (y : Int) < z := by omega
          have g3 : (z : Int) < 1000000 := by omega
          simp [g1, g2, g3]
          exact hw
        · rw [if_neg (by omega)]
          have g1 : (x : Int) ≤ y := by omega
          have g2 : (y : Int) < z := by omega
          have g3 : ¬ (z : Int) < 1000000 := by omega
          simp only [g1, g2, g3]
          simp
          exact hw
      · rw [if_neg (by omega)]
        have g1 : (x : Int) ≤ y := by omega
        have g2 : ¬ (y : Int) < z := by omega
        simp only [g1, g2]
        simp
        exact hw
    · rw [if_neg (by omega)]
      have g1 : ¬ (x : Int) ≤ y := by omega
      simp only [g1]
      simp
      exact hw
theorem PartSpans (a0 a1 a2 : Int) (_w0 : (Lit.int .i64 a0).wf = true) (_w1 : (Lit.int .i64 a1).wf = true) (_w2 : (Lit.int .i64 a2).wf = true) : ∃ k, postilionlaw15_PartSpans.f k a0 a1 a2 = some true := by
  refine Ev.rounds ?_
  unfold postilionlaw15_PartSpans.f
  have b0 := Int.emod_nonneg a0 (show (1200000 : Int) ≠ 0 by decide)
  have b1 := Int.emod_nonneg a1 (show (1200000 : Int) ≠ 0 by decide)
  have b2 := Int.emod_nonneg a2 (show (1200000 : Int) ≠ 0 by decide)
  have c0 := Int.emod_lt_of_pos a0 (show (0 : Int) < 1200000 by decide)
  have c1 := Int.emod_lt_of_pos a1 (show (0 : Int) < 1200000 by decide)
  have c2 := Int.emod_lt_of_pos a2 (show (0 : Int) < 1200000 by decide)
  simp only [within_f _ 1200000 (by decide) (by decide), within_f _ 12 (by decide) (by decide), Option.bind_some]
  by_cases h : Int.tmod (a2 % 1200000) 3 = 0
  · simp only [h, if_true]
    have := core ((a0 % 1200000) % 12).toNat ((a1 % 1200000) % 12).toNat ((wrap64 (Int.tdiv (a2 % 1200000) 3)) % 12).toNat (by omega) (by omega) (by omega)
    rw [Int.toNat_of_nonneg (by omega), Int.toNat_of_nonneg (by omega), Int.toNat_of_nonneg (by omega)] at this
    exact this
  · simp only [h, if_false]
    have := core (a0 % 1200000).toNat (a1 % 1200000).toNat (a2 % 1200000).toNat (by omega) (by omega) (by omega)
    rw [Int.toNat_of_nonneg (by omega), Int.toNat_of_nonneg (by omega), Int.toNat_of_nonneg (by omega)] at this
    exact this
end Go.Proofs.YtiabjeeelgkneaaDoor.Pure
