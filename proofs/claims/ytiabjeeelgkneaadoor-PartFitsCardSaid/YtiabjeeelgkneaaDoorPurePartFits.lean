/- What the printed functions of PartFits answer, in plain words. -/
import Derived.Test.YtiabjeeelgkneaaDoorBas
import Derived.Test.YtiabjeeelgkneaaDoorGPartFitsx
namespace Go.Proofs.YtiabjeeelgkneaaDoor.Pure
open Go.RowKit Go.Proofs.YtiabjeeelgkneaaDoorW.PrintWords Go.Proofs.YtiabjeeelgkneaaDoorW.PrintLast Go.Proofs.YtiabjeeelgkneaaDoorW.PrintMore
open Go.Proofs.YtiabjeeelgkneaaDoor.GPartFits Go.Proofs.YtiabjeeelgkneaaDoor.GivP Go.Proofs.YtiabjeeelgkneaaDoor.Bas Go.Proofs.YtiabjeeelgkneaaDoor.Giv
theorem within_f (a n : Int) (h : 1 ≤ n) (hn : n ≤ 4611686018427387904) : postilionkeep_Within.f a n = some (a % n) := by
  unfold postilionkeep_Within.f
  rw [if_neg (by omega), if_neg (by omega), ← tmod_emod a n h hn]
  split <;> rfl
theorem w64 {x y : Int} (h : x = y) (h1 : -9223372036854775808 ≤ x) (h2 : x ≤ 9223372036854775807) : wrap64 x = y := by
  subst h
  unfold wrap64
  omega
theorem number_l (l : List UInt8) (hl : l.length ≤ 6) : ∀ (d i : Nat) (n : Int), l.length - i = d → i ≤ l.length → 0 ≤ n → n < 10 ^ i →
    Ev (fun k => reply_Number.l0 k (B l) n (l.length : Int) (i : Int)) (if (l.drop i).all isD = true then (numV n (l.drop i), true) else (0, false)) := by
  intro d
  induction d with
  | zero =>
    intro i n hd hi h0 h1
    refine Ev.step (f := fun _ => some (n, true)) (fun k => by simp only [reply_Number.l0]; rw [if_neg (by omega)]) ?_
    rw [List.drop_eq_nil_of_le (by omega)]
    exact Ev.now _
  | succ d ih =>
    intro i n hd hi h0 h1
    have hlt : i < l.length := by omega
    have hb := bt_B l i hlt
    have hc : (l[i].toNat : Int) < 256 := by have := l[i].toNat_lt; omega
    have h6 : (10 : Int) ^ i ≤ 100000 := by
      have : i = 0 ∨ i = 1 ∨ i = 2 ∨ i = 3 ∨ i = 4 ∨ i = 5 := by omega
      rcases this with rfl | rfl | rfl | rfl | rfl | rfl <;> decide
    have hs : l.drop i = l[i] :: l.drop (i + 1) := List.drop_eq_getElem_cons hlt
    by_cases h2 : (l[i].toNat : Int) < 48
    · refine Ev.step (f := fun _ => some (0, false)) (fun k => by simp only [reply_Number.l0]; rw [if_pos (by omega), if_pos (by omega), if_pos (by rw [B_size]; omega), hb, if_pos h2]) ?_
      rw [hs, if_neg (by rw [List.all_cons, isD_no (.inl (by omega))]; simp)]
      exact Ev.now _
    · by_cases h3 : (l[i].toNat : Int) > 57
      · refine Ev.step (f := fun _ => some (0, false)) (fun k => by simp only [reply_Number.l0]; rw [if_pos (by omega), if_pos (by omega), if_pos (by rw [B_size]; omega), hb, if_neg h2, if_pos h3]) ?_
        rw [hs, if_neg (by rw [List.all_cons, isD_no (.inr (by omega))]; simp)]
        exact Ev.now _
      · have hw : wrap64 (wrap64 (10 * n) + ((l[i].toNat : Int) - 48) % 256) = 10 * n + ((l[i].toNat : Int) - 48) := by unfold wrap64; omega
        have hw2 : wrap64 ((i : Int) + 1) = ((i + 1 : Nat) : Int) := by unfold wrap64; omega
        refine Ev.step (f := fun k => reply_Number.l0 k (B l) (10 * n + ((l[i].toNat : Int) - 48)) (l.length : Int) ((i + 1 : Nat) : Int)) (fun k => by simp only [reply_Number.l0]; rw [if_pos (by omega), if_pos (by omega), if_pos (by rw [B_size]; omega), hb, if_neg h2, if_neg h3, hw, hw2]) ?_
        have := ih (i + 1) (10 * n + ((l[i].toNat : Int) - 48)) (by omega) (by omega) (by omega) (by rw [Int.pow_succ]; omega)
        rw [hs]
        have hd : isD l[i] = true := isD_yes (by omega) (by omega)
        simp only [List.all_cons, hd, Bool.true_and]
        exact this
theorem number_f (l : List UInt8) : Ev (fun k => reply_Number.f k (B l)) (numS l) := by
  by_cases h1 : l.length < 1
  · refine Ev.congr (f := fun k => reply_Number.j0 k (B l) true) (fun k => by unfold reply_Number.f; rw [B_size, if_pos (by omega)]) ?_
    refine Ev.step (f := fun _ => some (0, false)) (fun k => by simp only [reply_Number.j0, if_true]) ?_
    unfold numS
    rw [if_neg (by omega)]
    exact Ev.now _
  · by_cases h2 : l.length ≤ 6
    · refine Ev.congr (f := fun k => reply_Number.j0 k (B l) false) (fun k => by unfold reply_Number.f; rw [B_size, if_neg (by omega), decide_eq_false (by omega)]) ?_
      refine Ev.step (f := fun k => reply_Number.l0 k (B l) 0 (l.length : Int) ((0 : Nat) : Int)) (fun k => by simp only [reply_Number.j0]; rw [if_neg (by simp), B_size]; rfl) ?_
      have := number_l l h2 l.length 0 0 (by omega) (by omega) (by omega) (by decide)
      simp only [List.drop_zero] at this
      unfold numS
      by_cases h3 : l.all isD = true
      · rw [if_pos h3] at this
        rw [if_pos ⟨by omega, h2, h3⟩]
        exact this
      · rw [if_neg h3] at this
        rw [if_neg (fun h => h3 h.2.2)]
        exact this
    · refine Ev.congr (f := fun k => reply_Number.j0 k (B l) true) (fun k => by unfold reply_Number.f; rw [B_size, if_neg (by omega), decide_eq_true (by omega)]) ?_
      refine Ev.step (f := fun _ => some (0, false)) (fun k => by simp only [reply_Number.j0, if_true]) ?_
      unfold numS
      rw [if_neg (by omega)]
      exact Ev.now _
theorem cut_f (l m : List UInt8) (h : l.length < 4294967281) : strings_Cut.f (B l) (B m) = some (B (Lib.cut l m).1, B (Lib.cut l m).2.1, (Lib.cut l m).2.2) := by
  unfold strings_Cut.f
  rw [if_pos (by rw [B_size]; exact h), data_B, data_B]
  rfl
theorem pre_f (l m : List UInt8) : strings_CutPrefix.f (B l) (B m) = some (if m.isPrefixOf l = true then (B (l.drop m.length), true) else (B l, false)) := by
  unfold strings_CutPrefix.f stringslite_CutPrefix.f stringslite_HasPrefix.f
  rw [B_size, B_size]
  by_cases h : m.length ≤ l.length
  · rw [if_pos (by omega), if_pos (by omega), if_pos (by omega)]
    simp only [Option.bind_some]
    rw [B_extract, B_toList, B_toList]
    have e : (((l.take (m.length : Int).toNat).drop 0 == m) = true) = (m.isPrefixOf l = true) := by
      rw [List.drop_zero, beq_iff_eq, List.isPrefixOf_iff_prefix, List.prefix_iff_eq_take]
      simp only [Int.toNat_natCast]
      exact propext ⟨fun h => h.symm, fun h => h.symm⟩
    by_cases h2 : m.isPrefixOf l = true
    · rw [if_pos (by rw [e]; exact h2), if_pos (by omega), if_pos (by omega), if_pos h2, B_extract]
      simp
    · rw [if_neg (by rw [e]; exact h2), if_neg h2]
      rfl
  · rw [if_neg (by omega)]
    have h2 : ¬ m.isPrefixOf l = true := by
      rw [List.isPrefixOf_iff_prefix]
      intro hp
      exact h hp.length_le
    rw [if_neg h2]
    rfl
def bytesL : List UInt8 := [98, 121, 116, 101, 115, 32]
/-- What a span of a content-range tells. -/
def spanS (s : List UInt8) : Int × Int × Int × Bool :=
  let rest := if bytesL.isPrefixOf s = true then s.drop 6 else s
  let c1 := Lib.cut rest [47]
  let c2 := Lib.cut c1.1 [45]
  let x := numS c2.1
  let y := numS c2.2.1
  let z := numS c1.2.1
  if bytesL.isPrefixOf s = true ∧ c1.2.2 = true ∧ c2.2.2 = true ∧ x.2 = true ∧ y.2 = true ∧ z.2 = true ∧ x.1 ≤ y.1 ∧ y.1 < z.1 then (x.1, y.1, z.1, true) else (0, 0, 0, false)
theorem cut1_le (l m : List UInt8) : (Lib.cut l m).1.length ≤ l.length := by
  unfold Lib.cut
  split
  · simp; omega
  · exact Nat.le_refl _
theorem span_f (s : List UInt8) (h : s.length < 4294967281) : Ev (fun k => part_Span.f k (B s)) (spanS s) := by
  have hr : (if bytesL.isPrefixOf s = true then s.drop 6 else s).length < 4294967281 := by
    split
    · rw [List.length_drop]; omega
    · exact h
  unfold part_Span.f
  have e1 : strings_CutPrefix.f (B s) (⟨#[98, 121, 116, 101, 115, 32]⟩ : ByteArray) = some (B (if bytesL.isPrefixOf s = true then s.drop 6 else s), bytesL.isPrefixOf s) := by
    refine (pre_f s bytesL).trans ?_
    by_cases hp : bytesL.isPrefixOf s = true
    · rw [if_pos hp, if_pos hp, hp]; rfl
    · rw [if_neg hp, if_neg hp, Bool.eq_false_iff.2 hp]
  have hsp : spanS s = spanS s := rfl
  unfold spanS at hsp ⊢
  generalize (if bytesL.isPrefixOf s = true then s.drop 6 else s) = rest at *
  have e2 := cut_f rest [47] hr
  have hc1 := cut1_le rest [47]
  have e3 := cut_f (Lib.cut rest [47]).1 [45] (by omega)
  simp only [e1, Option.bind_some]
  have e2' : strings_Cut.f (B rest) (⟨#[47]⟩ : ByteArray) = _ := e2
  have e3' : strings_Cut.f (B (Lib.cut rest [47]).1) (⟨#[45]⟩ : ByteArray) = _ := e3
  simp only [e2', Option.bind_some, e3']
  generalize Lib.cut rest [47] = c1 at *
  generalize Lib.cut c1.1 [45] = c2 at *
  refine Ev.bind (number_f c2.1) ?_
  refine Ev.bind (number_f c2.2.1) ?_
  refine Ev.bind (number_f c1.2.1) ?_
  generalize numS c2.1 = x
  generalize numS c2.2.1 = y
  generalize numS c1.2.1 = z
  refine Ev.congr (f := fun _ => some _) (fun _ => ?_) (Ev.now _)
  generalize bytesL.isPrefixOf s = p
  cases p <;> cases c1.2.2 <;> cases c2.2.2 <;> cases x.2 <;> cases y.2 <;> cases z.2 <;> simp
  by_cases h1 : y.1 < x.1
  · rw [if_pos h1, if_neg (by omega)]
  · rw [if_neg h1]
    by_cases h2 : z.1 ≤ y.1
    · rw [if_pos h2, if_neg (by omega)]
    · rw [if_neg h2, if_pos (by omega)]
def lowerS (l : List UInt8) : List UInt8 := l.map lowerB
theorem lower_f (l : List UInt8) (h : l.length ≤ 140737488351232) : pct_Lower.f (B l) = some (B (lowerS l)) := by
  unfold pct_Lower.f
  rw [if_pos (by rw [B_size]; exact h), data_B]
  rfl
/-- The value of a name. -/
def getS (name : List UInt8) (l : List S26) : ByteArray × Bool :=
  match l with
  | [] => (⟨#[]⟩, false)
  | h :: r => if lowerS h.f0.data.toList = lowerS name then (h.f1, true) else getS name r
def okH (l : List S26) : Prop := l.length ≤ 140737488351232 ∧ ∀ h ∈ l, h.f0.size ≤ 140737488351232 ∧ h.f1.size ≤ 140737488351232
theorem get_l (name : List UInt8) (hn : name.length ≤ 140737488351232) (l : List S26) (hl : okH l) : ∀ (d i : Nat), l.length - i = d → i ≤ l.length →
    Ev (fun k => head_Get.l0 k (B name) l (l.length : Int) (i : Int)) (getS name (l.drop i)) := by
  intro d
  induction d with
  | zero =>
    intro i hd hi
    refine Ev.step (f := fun _ => some (⟨#[]⟩, false)) (fun k => by simp only [head_Get.l0]; rw [if_neg (by omega)]) ?_
    rw [List.drop_eq_nil_of_le (by omega)]
    exact Ev.now _
  | succ d ih =>
    intro i hd hi
    have hlt : i < l.length := by omega
    have hs : l.drop i = l[i] :: l.drop (i + 1) := List.drop_eq_getElem_cons hlt
    have hr : rd_T26 l (i : Int) = l[i] := by
      unfold rd_T26
      simp [List.getD_eq_getElem?_getD, List.getElem?_eq_getElem hlt]
    have hw : wrap64 ((i : Int) + 1) = ((i + 1 : Nat) : Int) := by
      have := hl.1
      unfold wrap64
      omega
    have h0 := (hl.2 l[i] (List.getElem_mem hlt)).1
    have e0 : pct_Lower.f l[i].f0 = some (B (lowerS l[i].f0.data.toList)) := by
      have := lower_f l[i].f0.data.toList (by rw [data_length]; exact h0)
      rw [B_data] at this
      exact this
    have e1 := lower_f name hn
    rw [hs]
    unfold getS
    by_cases h : lowerS l[i].f0.data.toList = lowerS name
    · refine Ev.step (f := fun _ => some (l[i].f1, true)) (fun k => by
        simp only [head_Get.l0]
        rw [if_pos (by omega), if_pos (by omega), if_pos (by omega), hr, e0]
        simp only [Option.bind_some, e1]
        rw [B_toList, B_toList, if_pos h]) ?_
      rw [if_pos h]
      exact Ev.now _
    · refine Ev.step (f := fun k => head_Get.l0 k (B name) l (l.length : Int) ((i + 1 : Nat) : Int)) (fun k => by
        simp only [head_Get.l0]
        rw [if_pos (by omega), if_pos (by omega), if_pos (by omega), hr, e0]
        simp only [Option.bind_some, e1]
        rw [B_toList, B_toList, if_neg h, hw]) ?_
      rw [if_neg h]
      exact ih (i + 1) (by omega) (by omega)
theorem get_f (name : List UInt8) (hn : name.length ≤ 140737488351232) (l : List S26) (hl : okH l) : Ev (fun k => head_Get.f k (B name) l) (getS name l) := by
  have := get_l name hn l hl l.length 0 (by omega) (by omega)
  exact this
theorem getS_ok (name : List UInt8) : ∀ l : List S26, okH l → (getS name l).1.size ≤ 140737488351232
  | [], _ => by unfold getS; decide
  | h :: r, hl => by
    unfold getS
    split
    · exact (hl.2 h List.mem_cons_self).2
    · exact getS_ok name r ⟨by have := hl.1; simp at this; omega, fun x hx => hl.2 x (List.mem_cons_of_mem _ hx)⟩
def tagS (l : List S26) : ByteArray := if strongB (getS [101, 116, 97, 103] l).1 = true then (getS [101, 116, 97, 103] l).1 else ⟨#[]⟩
theorem strong_f (a : ByteArray) (h : a.size ≤ 140737488351232) : part_strong.f a = some (strongB a) := by
  unfold part_strong.f
  rw [if_pos h]
theorem tag_f (l : List S26) (hl : okH l) : Ev (fun k => part_Tag.f k l) (tagS l) := by
  unfold part_Tag.f
  refine Ev.bind (a := getS [101, 116, 97, 103] l) (get_f [101, 116, 97, 103] (by decide) l hl) ?_
  unfold tagS
  refine Ev.congr (f := fun _ => some _) (fun k => ?_) (Ev.now _)
  rw [strong_f _ (getS_ok _ l hl)]
  simp only [Option.bind_some]
  split <;> rfl
def decB (n : Nat) : ByteArray := B (Lib.decDigits n)
theorem itoa_f (n : Nat) (h : n ≤ 9223372036854775807) : strconv_Itoa.f (n : Int) = some (decB n) := by
  unfold strconv_Itoa.f
  rw [if_pos (by omega), if_pos (by omega)]
  unfold Lib.itoa
  rw [if_neg (by omega)]
  rfl
/-- What asks for the rest. -/
def headsS (got : Int) (tag : ByteArray) : List S26 :=
  if got < 1 then [] else if tag.toList = [] then [] else
    [⟨B [82, 97, 110, 103, 101], B ([98, 121, 116, 101, 115, 61] ++ Lib.decDigits got.toNat ++ [45])⟩, ⟨B [73, 102, 45, 82, 97, 110, 103, 101], tag⟩]
theorem heads_f (got : Int) (tag : ByteArray) (h : got ≤ 9223372036854775807) : part_Heads.f got tag = some (headsS got tag) := by
  unfold part_Heads.f headsS
  by_cases h1 : got < 1
  · rw [if_pos h1, if_pos h1]
  · rw [if_neg h1, if_neg h1]
    by_cases h2 : tag.toList = []
    · rw [if_pos h2, if_pos h2]
    · rw [if_neg h2, if_neg h2]
      have e := itoa_f got.toNat (by omega)
      rw [show ((got.toNat : Nat) : Int) = got by omega] at e
      have hl := Giv.dec_len 19 got.toNat (by have : (10 : Nat) ^ 19 = 10000000000000000000 := by decide
                                              omega)
      have hz : (decB got.toNat).size = (Lib.decDigits got.toNat).length := B_size _
      rw [e]
      simp only [Option.bind_some]
      rw [if_pos (by omega), if_pos (by omega)]
      have e2 : (⟨#[98, 121, 116, 101, 115, 61]⟩ : ByteArray) ++ decB got.toNat ++ (⟨#[45]⟩ : ByteArray) = B ([98, 121, 116, 101, 115, 61] ++ Lib.decDigits got.toNat ++ [45]) := by
        show B _ ++ B _ ++ B _ = _
        rw [B_append, B_append]
      rw [e2]
      rfl
theorem wakes15_f : Ev (fun k => postilionlaw15_wakes.f k) true := by
  unfold postilionlaw15_wakes.f
  rw [heads_f 0 _ (by decide), heads_f 3 _ (by decide)]
  simp only [Option.bind_some]
  have c0 : ((headsS 0 (⟨#[34, 97, 34]⟩ : ByteArray)).length : Int) = 0 := by decide
  have c3 : ((headsS 3 (⟨#[34, 97, 34]⟩ : ByteArray)).length : Int) = 2 := by
    unfold headsS
    rw [if_neg (by decide), if_neg (by rw [ByteArray.toList_eq]; decide)]
    rfl
  simp only [c0, c3, if_true]
  refine Ev.bind (tag_f _ ⟨by decide, fun h hm => by simp at hm; subst hm; decide⟩) ?_
  refine Ev.congr (f := fun _ => some true) (fun k => ?_) (Ev.now _)
  rw [ByteArray.toList_eq]
  congr 1
theorem digits_f (n : Int) (h : n ≤ 9223372036854775807) : postilionref01_Digits.f n = some (B (Lib.decDigits n.toNat)) := by
  unfold postilionref01_Digits.f
  rw [if_pos h]
  rfl
theorem spanS_of (x y z : Nat) : spanS (bytesL ++ Lib.decDigits x ++ [45] ++ Lib.decDigits y ++ [47] ++ Lib.decDigits z) =
    if x ≤ y ∧ y < z ∧ z < 1000000 then ((x : Int), (y : Int), (z : Int), true) else (0, 0, 0, false) := by
  have e1 : bytesL.isPrefixOf (bytesL ++ Lib.decDigits x ++ [45] ++ Lib.decDigits y ++ [47] ++ Lib.decDigits z) = true := by
    rw [List.isPrefixOf_iff_prefix]
    simp only [List.append_assoc]
    exact List.prefix_append _ _
  have e2 : (bytesL ++ Lib.decDigits x ++ [45] ++ Lib.decDigits y ++ [47] ++ Lib.decDigits z).drop 6 = (Lib.decDigits x ++ 45 :: Lib.decDigits y) ++ 47 :: Lib.decDigits z := by
    simp only [List.append_assoc]
    rw [show (6 : Nat) = bytesL.length from rfl, List.drop_left]
    simp
  have n1 : (47 : UInt8) ∉ Lib.decDigits x ++ 45 :: Lib.decDigits y := by
    have := dec_no x 47 (by decide)
    have := dec_no y 47 (by decide)
    simp
    exact ⟨by assumption, by assumption⟩
  have e3 := cut_yes (Lib.decDigits x ++ 45 :: Lib.decDigits y) (Lib.decDigits z) 47 n1
  have e4 := cut_yes (Lib.decDigits x) (Lib.decDigits y) 45 (dec_no x 45 (by decide))
  unfold spanS
  simp only [e1, if_true, e2, e3, e4, numS_dec]
  by_cases hx : x < 1000000
  · by_cases hy : y < 1000000
    · by_cases hz : z < 1000000
      · rw [if_pos hx, if_pos hy, if_pos hz]
        simp only [true_and]
        by_cases h : x ≤ y ∧ y < z
        · rw [if_pos (by omega), if_pos (by omega)]
        · rw [if_neg (by omega), if_neg (by omega)]
      · rw [if_neg hz, if_neg (by simp), if_neg (by omega)]
    · rw [if_neg hy, if_neg (by simp), if_neg (by omega)]
  · rw [if_neg hx, if_neg (by simp), if_neg (by omega)]
theorem bytes_l (x : Int) (n : Nat) (hn : n ≤ 140737488351232) : ∀ (d i : Nat) (xs : List Int), n - i = d → i ≤ n → xs.length = n →
    ∃ ys : List Int, ys.length = n ∧ Ev (fun k => postilionplay_Bytes.l0 k x xs (n : Int) (i : Int)) ys := by
  intro d
  induction d with
  | zero =>
    intro i xs hd hi hx
    exact ⟨xs, hx, Ev.step (f := fun _ => some xs) (fun k => by simp only [postilionplay_Bytes.l0]; rw [if_neg (by omega)]) (Ev.now _)⟩
  | succ d ih =>
    intro i xs hd hi hx
    have hw : wrap64 ((i : Int) + 1) = ((i + 1 : Nat) : Int) := by unfold wrap64; omega
    obtain ⟨ys, hy, he⟩ := ih (i + 1) (xs.set (i : Int).toNat ((wrap64 (x + (wrap64 ((i : Int) * (Go.bits .or .i64 (wrap64 (Int.tdiv x 5)) 1))))) % 256)) (by omega) (by omega) (by rw [List.length_set]; exact hx)
    exact ⟨ys, hy, Ev.step (f := fun k => postilionplay_Bytes.l0 k x _ (n : Int) ((i + 1 : Nat) : Int)) (fun k => by simp only [postilionplay_Bytes.l0]; rw [if_pos (by omega), if_pos (by omega), if_pos (by omega), hw]) he⟩
theorem bytes_f (x : Int) (n : Nat) (hn : n ≤ 140737488351232) : ∃ ys : List Int, ys.length = n ∧ Ev (fun k => postilionplay_Bytes.f k x (n : Int)) ys := by
  have hm : mx (n : Int) 0 = n := by unfold mx; omega
  obtain ⟨ys, hy, he⟩ := bytes_l x n hn n 0 (List.replicate n 0) (by omega) (by omega) (by simp)
  refine ⟨ys, hy, Ev.congr (f := fun k => postilionplay_Bytes.l0 k x (List.replicate n 0) (n : Int) ((0 : Nat) : Int)) (fun k => ?_) he⟩
  unfold postilionplay_Bytes.f
  rw [hm, if_pos (by omega), if_pos (by omega), Option.bind_some, List.length_replicate]
  rfl
theorem numV_bound : ∀ (l : List UInt8) (n : Int) (i : Nat), l.all isD = true → 0 ≤ n → n < 10 ^ i → 0 ≤ numV n l ∧ numV n l < 10 ^ (i + l.length) := by
  intro l
  induction l with
  | nil => intro n i _ h0 h1; exact ⟨h0, h1⟩
  | cons c l ih =>
    intro n i h h0 h1
    rw [List.all_cons, Bool.and_eq_true] at h
    have hc : 48 ≤ c.toNat ∧ c.toNat ≤ 57 := by
      have := h.1
      unfold isD at this
      simpa using this
    have := ih (10 * n + ((c.toNat : Int) - 48)) (i + 1) h.2 (by omega) (by rw [Int.pow_succ]; omega)
    rw [show i + 1 + l.length = i + (c :: l).length by simp; omega] at this
    exact this
theorem numS_bound (l : List UInt8) : 0 ≤ (numS l).1 ∧ (numS l).1 < 1000000 := by
  unfold numS
  split
  · rename_i h
    have := numV_bound l 0 0 h.2.2 (by decide) (by decide)
    have h6 : (10 : Int) ^ (0 + l.length) ≤ 1000000 := by
      have : l.length = 1 ∨ l.length = 2 ∨ l.length = 3 ∨ l.length = 4 ∨ l.length = 5 ∨ l.length = 6 := by omega
      rcases this with h | h | h | h | h | h <;> rw [h] <;> decide
    exact ⟨this.1, by simp only; omega⟩
  · exact ⟨by decide, by decide⟩
theorem pick_bound (p : Prop) [Decidable p] (x y z : List UInt8) (r : Int × Int × Int × Bool) (hr : r = if p then ((numS x).1, (numS y).1, (numS z).1, true) else (0, 0, 0, false)) :
    0 ≤ r.1 ∧ r.1 < 1000000 ∧ 0 ≤ r.2.1 ∧ r.2.1 < 1000000 ∧ 0 ≤ r.2.2.1 ∧ r.2.2.1 < 1000000 := by
  subst hr
  split
  · exact ⟨(numS_bound _).1, (numS_bound _).2, (numS_bound _).1, (numS_bound _).2, (numS_bound _).1, (numS_bound _).2⟩
  · exact ⟨by decide, by decide, by decide, by decide, by decide, by decide⟩
theorem spanS_bound (s : List UInt8) : 0 ≤ (spanS s).1 ∧ (spanS s).1 < 1000000 ∧ 0 ≤ (spanS s).2.1 ∧ (spanS s).2.1 < 1000000 ∧ 0 ≤ (spanS s).2.2.1 ∧ (spanS s).2.2.1 < 1000000 :=
  pick_bound _ _ _ _ (spanS s) rfl
def clenL : List UInt8 := [99, 111, 110, 116, 101, 110, 116, 45, 108, 101, 110, 103, 116, 104]
def crangeL : List UInt8 := [99, 111, 110, 116, 101, 110, 116, 45, 114, 97, 110, 103, 101]
def sizeS (l : List S26) (n : Nat) : Int × Bool := if (getS clenL l).2 = true then numS (getS clenL l).1.data.toList else ((n : Int), true)
theorem size_f (c : Int) (l : List S26) (body : ByteArray) (b : Bool) (hl : okH l) : Ev (fun k => part_size.f k c l body b) (sizeS l body.size) := by
  unfold part_size.f
  refine Ev.bind (a := getS clenL l) (get_f clenL (by decide) l hl) ?_
  unfold sizeS
  by_cases h : (getS clenL l).2 = true
  · simp only [if_pos h]
    refine Ev.bind (a := numS (getS clenL l).1.data.toList) ?_ ?_
    · have := number_f (getS clenL l).1.data.toList
      rw [B_data] at this
      exact this
    · exact Ev.now _
  · simp only [if_neg h]
    exact Ev.now _
def fitsS (code : Int) (l : List S26) (n : Nat) (got : Int) (tag : List UInt8) : Int × Bool :=
  let v := spanS (getS crangeL l).1.data.toList
  let z := sizeS l n
  if code = 206 ∧ tag ≠ [] ∧ (tagS l).data.toList = tag ∧ v.2.2.2 = true ∧ z.2 = true ∧ v.1 = got ∧ v.2.1 = v.2.2.1 - 1 ∧ z.1 = v.2.1 - v.1 + 1 then (v.2.2.1, true) else (0, false)
theorem fits_f (c : Int) (l : List S26) (body : ByteArray) (b : Bool) (got : Int) (tag : List UInt8) (hl : okH l) (hc : (getS crangeL l).1.size < 4294967281) :
    Ev (fun k => part_Fits.f k c l body b got (B tag)) (fitsS c l body.size got tag) := by
  unfold part_Fits.f
  refine Ev.bind (a := getS crangeL l) (get_f crangeL (by decide) l hl) ?_
  refine Ev.bind (a := spanS (getS crangeL l).1.data.toList) ?_ ?_
  · have := span_f (getS crangeL l).1.data.toList (by rw [data_length]; exact hc)
    rw [B_data] at this
    exact this
  refine Ev.bind (size_f c l body b hl) ?_
  unfold fitsS
  have hv := spanS_bound (getS crangeL l).1.data.toList
  generalize spanS (getS crangeL l).1.data.toList = v at *
  generalize sizeS l body.size = z at *
  dsimp only
  by_cases h1 : c = 206
  · by_cases h2 : tag = []
    · subst h2
      simp only [if_pos h1]
      refine Ev.congr (f := fun _ => some (0, false)) (fun k => by rw [B_toList, if_pos rfl]) ?_
      rw [if_neg (by simp)]
      exact Ev.now _
    · refine Ev.congr (fun k => by rw [if_pos h1, B_toList, if_neg h2]) ?_
      refine Ev.bind (tag_f l hl) ?_
      refine Ev.congr (f := fun _ => some _) (fun k => ?_) (Ev.now _)
      rw [ByteArray.toList_eq]
      have w1 : wrap64 (v.2.2.1 - 1) = v.2.2.1 - 1 := by unfold wrap64; omega
      have w2 : wrap64 ((wrap64 (v.2.1 - v.1)) + 1) = v.2.1 - v.1 + 1 := by unfold wrap64; omega
      rw [w1, w2]
      by_cases h3 : (tagS l).data.toList = tag
      · by_cases h4 : v.2.2.2 = true
        · by_cases h5 : z.2 = true
          · by_cases h6 : v.1 = got
            · by_cases h7 : v.2.1 = v.2.2.1 - 1
              · by_cases h8 : z.1 = v.2.1 - v.1 + 1
                · rw [if_pos h3, if_pos h4, if_pos h5, if_pos h6, if_pos h7, if_pos h8, if_pos ⟨h1, h2, h3, h4, h5, h6, h7, h8⟩]
                · rw [if_pos h3, if_pos h4, if_pos h5, if_pos h6, if_pos h7, if_neg h8, if_neg (fun h => h8 h.2.2.2.2.2.2.2)]
              · rw [if_pos h3, if_pos h4, if_pos h5, if_pos h6, if_neg h7, if_neg (fun h => h7 h.2.2.2.2.2.2.1)]
            · rw [if_pos h3, if_pos h4, if_pos h5, if_neg h6, if_neg (fun h => h6 h.2.2.2.2.2.1)]
          · rw [if_pos h3, if_pos h4, if_neg h5, if_neg (fun h => h5 h.2.2.2.2.1)]
        · rw [if_pos h3, if_neg h4, if_neg (fun h => h4 h.2.2.2.1)]
      · rw [if_neg h3, if_neg (fun h => h3 h.2.2.1)]
  · refine Ev.congr (f := fun _ => some (0, false)) (fun k => by rw [if_neg h1]) ?_
    rw [if_neg (fun h => h1 h.1)]
    exact Ev.now _
theorem getS_hit (name n : List UInt8) (v : ByteArray) (r : List S26) (h : lowerS n = lowerS name) : getS name (⟨B n, v⟩ :: r) = (v, true) := by
  unfold getS
  rw [data_B, if_pos h]
theorem getS_miss (name n : List UInt8) (v : ByteArray) (r : List S26) (h : ¬ lowerS n = lowerS name) : getS name (⟨B n, v⟩ :: r) = getS name r := by
  rw [getS, data_B, if_neg h]
def eN : List UInt8 := [69, 84, 97, 103]
def cN : List UInt8 := [67, 111, 110, 116, 101, 110, 116, 45, 82, 97, 110, 103, 101]
def spL (x y z : Nat) : List UInt8 := bytesL ++ Lib.decDigits x ++ [45] ++ Lib.decDigits y ++ [47] ++ Lib.decDigits z
theorem fits_2 (c : Int) (t v : ByteArray) (n : Nat) (got : Int) (tag : List UInt8) : fitsS c [⟨B eN, t⟩, ⟨B cN, v⟩] n got tag =
    let w := spanS v.data.toList
    if c = 206 ∧ tag ≠ [] ∧ (if strongB t = true then t else ⟨#[]⟩).data.toList = tag ∧ w.2.2.2 = true ∧ w.1 = got ∧ w.2.1 = w.2.2.1 - 1 ∧ (n : Int) = w.2.1 - w.1 + 1 then (w.2.2.1, true) else (0, false) := by
  unfold fitsS sizeS tagS
  rw [getS_miss crangeL eN t _ (by decide), getS_hit crangeL cN v _ (by decide), getS_hit [101, 116, 97, 103] eN t _ (by decide), getS_miss clenL eN t _ (by decide), getS_miss clenL cN v _ (by decide)]
  have h0 : (getS clenL []).2 = false := rfl
  rw [h0]
  simp
theorem fits_3 (c : Int) (t v u : ByteArray) (n : Nat) (got : Int) (tag : List UInt8) : fitsS c [⟨B eN, t⟩, ⟨B cN, v⟩, ⟨B clenL, u⟩] n got tag =
    let w := spanS v.data.toList
    let z := numS u.data.toList
    if c = 206 ∧ tag ≠ [] ∧ (if strongB t = true then t else ⟨#[]⟩).data.toList = tag ∧ w.2.2.2 = true ∧ z.2 = true ∧ w.1 = got ∧ w.2.1 = w.2.2.1 - 1 ∧ z.1 = w.2.1 - w.1 + 1 then (w.2.2.1, true) else (0, false) := by
  unfold fitsS sizeS tagS
  rw [getS_miss crangeL eN t _ (by decide), getS_hit crangeL cN v _ (by decide), getS_hit [101, 116, 97, 103] eN t _ (by decide), getS_miss clenL eN t _ (by decide), getS_miss clenL cN v _ (by decide), getS_hit clenL clenL u _ (by decide)]
  simp
def v1 : List UInt8 := [34, 118, 49, 34]
theorem ok3 (t v u : ByteArray) (ht : t.size ≤ 100) (hv : v.size ≤ 100) (hu : u.size ≤ 100) : okH [⟨B eN, t⟩, ⟨B cN, v⟩, ⟨B clenL, u⟩] := by
  refine ⟨by simp, fun h hm => ?_⟩
  simp at hm
  have q1 : (B eN).size = 4 := by decide
  have q2 : (B cN).size = 13 := by decide
  have q3 : (B clenL).size = 14 := by decide
  rcases hm with rfl | rfl | rfl
  · exact ⟨by simp only [q1]; omega, by simp only; omega⟩
  · exact ⟨by simp only [q2]; omega, by simp only; omega⟩
  · exact ⟨by simp only [q3]; omega, by simp only; omega⟩
theorem ok2 (t v : ByteArray) (ht : t.size ≤ 100) (hv : v.size ≤ 100) : okH [⟨B eN, t⟩, ⟨B cN, v⟩] := by
  refine ⟨by simp, fun h hm => ?_⟩
  simp at hm
  have q1 : (B eN).size = 4 := by decide
  have q2 : (B cN).size = 13 := by decide
  rcases hm with rfl | rfl
  · exact ⟨by simp only [q1]; omega, by simp only; omega⟩
  · exact ⟨by simp only [q2]; omega, by simp only; omega⟩
theorem fits3_f (c : Int) (t v u : ByteArray) (body : ByteArray) (got : Int) (tag : List UInt8) (ht : t.size ≤ 100) (hv : v.size ≤ 100) (hu : u.size ≤ 100) :
    Ev (fun k => part_Fits.f k c [⟨B eN, t⟩, ⟨B cN, v⟩, ⟨B clenL, u⟩] body false got (B tag)) (let w := spanS v.data.toList
    let z := numS u.data.toList
    if c = 206 ∧ tag ≠ [] ∧ (if strongB t = true then t else ⟨#[]⟩).data.toList = tag ∧ w.2.2.2 = true ∧ z.2 = true ∧ w.1 = got ∧ w.2.1 = w.2.2.1 - 1 ∧ z.1 = w.2.1 - w.1 + 1 then (w.2.2.1, true) else (0, false)) := by
  rw [← fits_3 c t v u body.size got tag]
  refine fits_f c _ body false got tag (ok3 t v u ht hv hu) ?_
  rw [getS_miss crangeL eN t _ (by decide), getS_hit crangeL cN v _ (by decide)]
  simp only; omega
theorem strong_v1 : strongB (B v1) = true := by decide
theorem strong_w : strongB (B [87, 47, 34, 118, 49, 34]) = false := by decide
theorem spL_size (x y z : Nat) (hx : x < 100) (hy : y < 100) (hz : z < 100) : (B (spL x y z)).size ≤ 100 := by
  have l1 := Giv.dec_len 2 x (by omega)
  have l2 := Giv.dec_len 2 y (by omega)
  have l3 := Giv.dec_len 2 z (by omega)
  rw [B_size]
  simp [spL, bytesL]
  omega
theorem dec_size (x : Nat) (hx : x < 100) : (B (Lib.decDigits x)).size ≤ 100 := by
  have l1 := Giv.dec_len 2 x (by omega)
  rw [B_size]
  omega
theorem spL_of (x y z : Nat) (hx : x ≤ y) (hy : y < z) (hz : z < 100) : spanS (B (spL x y z)).data.toList = ((x : Int), (y : Int), (z : Int), true) := by
  rw [data_B, spL, spanS_of, if_pos ⟨hx, hy, by omega⟩]
theorem numS_of (x : Nat) (hx : x < 100) : numS (B (Lib.decDigits x)).data.toList = ((x : Int), true) := by
  rw [data_B, numS_dec, if_pos (by omega)]
theorem cat (x y z : Nat) : ((((((⟨#[98, 121, 116, 101, 115, 32]⟩ : ByteArray) ++ B (Lib.decDigits x)) ++ (⟨#[45]⟩ : ByteArray)) ++ B (Lib.decDigits y)) ++ (⟨#[47]⟩ : ByteArray)) ++ B (Lib.decDigits z)) = B (spL x y z) := by
  show B bytesL ++ B _ ++ B [45] ++ B _ ++ B [47] ++ B _ = _
  simp only [B_append, spL]
theorem digN (x : Nat) (h : x < 100) : postilionref01_Digits.f (x : Int) = some (B (Lib.decDigits x)) := by
  have := digits_f (x : Int) (by omega)
  rwa [Int.toNat_natCast] at this
theorem wr0 (a : Int) : ∃ o : Nat, 1 ≤ o ∧ o ≤ 30 ∧ wrap64 (1 + a % 30) = (o : Int) :=
  ⟨(1 + a % 30).toNat, by omega, by omega, w64 (by omega) (by omega) (by omega)⟩
theorem wr1 (s f o : Nat) (hs1 : 1 ≤ s) (hs : s ≤ 40) (hf : f < s) (ho : o ≤ 30) : wrap64 ((f : Int) + o) = ((f + o : Nat) : Int) ∧ wrap64 ((s : Int) - 1) = ((s - 1 : Nat) : Int) ∧
    wrap64 ((s : Int) + o) = ((s + o : Nat) : Int) ∧ wrap64 ((s : Int) - f) = ((s - f : Nat) : Int) ∧ wrap64 (((s - f : Nat) : Int) + o) = ((s - f + o : Nat) : Int) :=
  ⟨w64 (by omega) (by omega) (by omega), w64 (by omega) (by omega) (by omega), w64 (by omega) (by omega) (by omega), w64 (by omega) (by omega) (by omega), w64 (by omega) (by omega) (by omega)⟩
theorem wr40 (a : Int) : ∃ o : Nat, 1 ≤ o ∧ o ≤ 40 ∧ wrap64 (1 + a % 40) = (o : Int) :=
  ⟨(1 + a % 40).toNat, by omega, by omega, w64 (by omega) (by omega) (by omega)⟩
theorem wrS (a : Int) (s : Nat) (hs : 1 ≤ s) : ∃ f : Nat, (f : Int) = a % (s : Int) ∧ f < s := by
  have b1 := Int.emod_nonneg a (show (s : Int) ≠ 0 by omega)
  have c1 := Int.emod_lt_of_pos a (show (0 : Int) < (s : Int) by omega)
  exact ⟨(a % (s : Int)).toNat, by omega, by omega⟩
theorem core1 (s f : Nat) (a2 a3 : Int) (body : ByteArray) (hs1 : 1 ≤ s) (hs : s ≤ 40) (hf : f < s) :
    Ev (fun k => postilionlaw15_PartFits.j1 k (s : Int) (f : Int) a2 a3 false 206 [⟨B eN, B v1⟩, ⟨B cN, B (spL f (s - 1) s)⟩, ⟨B clenL, B (Lib.decDigits (s - f))⟩] body false) true := by
  have h30 := within_f a2 30 (by decide) (by decide)
  have h4 := within_f a3 4 (by decide) (by decide)
  obtain ⟨o, ho1, ho2, hwo⟩ := wr0 a2
  obtain ⟨hw1, hw2, hw3, hw4, hw5⟩ := wr1 s f o hs1 hs hf ho2
  refine Ev.step (fun k => by simp only [postilionlaw15_PartFits.j1]; exact rfl) ?_
  simp only [h30, h4, hwo, hw1, hw2, hw3, hw4, hw5, Option.bind_some]
  clear h30 h4 hwo hw1 hw2 hw3 hw4 hw5
  generalize a3 % 4 = e
  have z1 := spL_size f (s - 1) s (by omega) (by omega) (by omega)
  have z2 := dec_size (s - f) (by omega)
  have z3 : (B v1).size ≤ 100 := by decide
  have p1 := spL_of f (s - 1) s (by omega) (by omega) (by omega)
  have p2 := numS_of (s - f) (by omega)
  have hwk := wakes15_f
  refine Ev.congr (fun k => if_neg (by decide)) ?_
  refine Ev.bind (a := (0, false)) ?_ ?_
  · have := fits3_f 206 (B v1) (B (spL f (s - 1) s)) (B (Lib.decDigits (s - f))) body ((f + o : Nat) : Int) v1 z3 z1 z2
    dsimp only at this
    rw [p1, p2, if_neg (fun h => by have := h.2.2.2.2.2.1; simp only at this; omega)] at this
    exact this
  refine Ev.bind (a := (0, false)) ?_ ?_
  · have := fits3_f 206 (B v1) (B (spL f (s - 1) s)) (B (Lib.decDigits (s - f))) body (f : Int) [34, 118, 50, 34] z3 z1 z2
    dsimp only at this
    rw [strong_v1, if_pos rfl, if_neg (fun h => by have := h.2.2.1; revert this; rw [data_B]; decide)] at this
    exact this
  refine Ev.bind (a := (0, false)) ?_ ?_
  · have := fits3_f 206 (B v1) (B (spL f (s - 1) s)) (B (Lib.decDigits (s - f))) body (f : Int) [] z3 z1 z2
    dsimp only at this
    rw [if_neg (fun h => h.2.1 rfl)] at this
    exact this
  have fin : Ev (fun k => if (false : Bool) = true then some false else if (false : Bool) = true then some false else if (false : Bool) = true then some false else if (false : Bool) = true then some false else ((postilionlaw15_wakes.f k).bind fun t188 => some t188)) true := by
    simp only [Bool.false_eq_true, if_false]
    exact Ev.bind hwk (Ev.now _)
  by_cases e0 : e = 0
  · simp only [if_pos e0]
    refine Ev.bind (a := (0, false)) ?_ fin
    have := fits3_f 200 (B v1) (B (spL f (s - 1) s)) (B (Lib.decDigits (s - f))) body (f : Int) v1 z3 z1 z2
    dsimp only at this
    rw [if_neg (fun h => by have := h.1; revert this; decide)] at this
    exact this
  · by_cases e1 : e = 1
    · simp only [if_neg e0, if_pos e1]
      have l1 := Giv.dec_len 2 f (by omega)
      have l2 := Giv.dec_len 2 (s - 1) (by omega)
      have l3 := Giv.dec_len 2 (s + o) (by omega)
      have q1 : (6 + (Lib.decDigits f).length ≤ 9223372036854775807) = True := eq_true (by omega)
      have q2 : (6 + (Lib.decDigits f).length + 1 ≤ 9223372036854775807) = True := eq_true (by omega)
      have q3 : (6 + (Lib.decDigits f).length + 1 + (Lib.decDigits (s - 1)).length ≤ 9223372036854775807) = True := eq_true (by omega)
      have q4 : (6 + (Lib.decDigits f).length + 1 + (Lib.decDigits (s - 1)).length + 1 ≤ 9223372036854775807) = True := eq_true (by omega)
      have q5 : (6 + (Lib.decDigits f).length + 1 + (Lib.decDigits (s - 1)).length + 1 + (Lib.decDigits (s + o)).length ≤ 9223372036854775807) = True := eq_true (by omega)
      have q6 : ((1 : Int) < (([⟨B eN, B v1⟩, ⟨B cN, B (spL f (s - 1) s)⟩, ⟨B clenL, B (Lib.decDigits (s - f))⟩] : List S26).length : Int)) = True := eq_true (by simp)
      simp only [digN f (by omega), digN (s - 1) (by omega), digN (s + o) (by omega), Option.bind_some, B_size, q1, q2, q3, q4, q5, q6, if_true, cat]
      refine Ev.bind (a := (0, false)) ?_ fin
      have := fits3_f 206 (B v1) (B (spL f (s - 1) (s + o))) (B (Lib.decDigits (s - f))) body (f : Int) v1 z3 (spL_size f (s - 1) (s + o) (by omega) (by omega) (by omega)) z2
      dsimp only at this
      rw [spL_of f (s - 1) (s + o) (by omega) (by omega) (by omega), p2, if_neg (fun h => by have := h.2.2.2.2.2.2.1; simp only at this; omega)] at this
      exact this
    · by_cases e2 : e = 2
      · simp only [if_neg e0, if_neg e1, if_pos e2]
        have q6 : ((2 : Int) < (([⟨B eN, B v1⟩, ⟨B cN, B (spL f (s - 1) s)⟩, ⟨B clenL, B (Lib.decDigits (s - f))⟩] : List S26).length : Int)) = True := eq_true (by simp)
        simp only [digN (s - f + o) (by omega), Option.bind_some, q6, if_true]
        refine Ev.bind (a := (0, false)) ?_ fin
        have := fits3_f 206 (B v1) (B (spL f (s - 1) s)) (B (Lib.decDigits (s - f + o))) body (f : Int) v1 z3 z1 (dec_size (s - f + o) (by omega))
        dsimp only at this
        rw [p1, numS_of (s - f + o) (by omega), if_neg (fun h => by have := h.2.2.2.2.2.2.2; simp only at this; omega)] at this
        exact this
      · simp only [if_neg e0, if_neg e1, if_neg e2]
        have q6 : ((0 : Int) < (([⟨B eN, B v1⟩, ⟨B cN, B (spL f (s - 1) s)⟩, ⟨B clenL, B (Lib.decDigits (s - f))⟩] : List S26).length : Int)) = True := eq_true (by simp)
        simp only [q6, if_true]
        refine Ev.bind (a := (0, false)) ?_ fin
        have := fits3_f 206 (B [87, 47, 34, 118, 49, 34]) (B (spL f (s - 1) s)) (B (Lib.decDigits (s - f))) body (f : Int) v1 (by decide) z1 z2
        dsimp only at this
        rw [strong_w, if_neg (fun h => by have := h.2.2.1; revert this; decide)] at this
        exact this
theorem core0 (s f : Nat) (a2 a3 : Int) (body : ByteArray) (hs1 : 1 ≤ s) (hs : s ≤ 40) (hf : f < s) :
    Ev (fun k => postilionlaw15_PartFits.j0 k (s : Int) (f : Int) a2 a3 false 206 [⟨B eN, B v1⟩, ⟨B cN, B (spL f (s - 1) s)⟩] body false) true := by
  have hw4 : wrap64 ((s : Int) - f) = ((s - f : Nat) : Int) := w64 (by omega) (by omega) (by omega)
  have z1 := spL_size f (s - 1) s (by omega) (by omega) (by omega)
  have z2 := dec_size (s - f) (by omega)
  have z3 : (B v1).size ≤ 100 := by decide
  have p1 := spL_of f (s - 1) s (by omega) (by omega) (by omega)
  have p2 := numS_of (s - f) (by omega)
  refine Ev.step (fun k => by simp only [postilionlaw15_PartFits.j0]; exact rfl) ?_
  have q6 : (([⟨B eN, B v1⟩, ⟨B cN, B (spL f (s - 1) s)⟩] : List S26).length < 4398046511104) = True := eq_true (by simp)
  simp only [hw4, digN (s - f) (by omega), Option.bind_some, q6, if_true]
  refine Ev.congr (fun k => if_neg (by decide)) ?_
  refine Ev.bind (a := ((s : Int), true)) ?_ ?_
  · have := fits3_f 206 (B v1) (B (spL f (s - 1) s)) (B (Lib.decDigits (s - f))) body (f : Int) v1 z3 z1 z2
    dsimp only at this
    rw [p1, p2, strong_v1, if_pos rfl, if_pos ⟨rfl, by decide, rfl, rfl, rfl, rfl, by simp only; omega, by simp only; omega⟩] at this
    exact this
  · have := core1 s f a2 a3 body hs1 hs hf
    simp only [if_true, bne_self_eq_false]
    exact this
theorem PartFits (a0 a1 a2 a3 : Int) (_w0 : (Lit.int .i64 a0).wf = true) (_w1 : (Lit.int .i64 a1).wf = true) (_w2 : (Lit.int .i64 a2).wf = true) (_w3 : (Lit.int .i64 a3).wf = true) : ∃ k, postilionlaw15_PartFits.f k a0 a1 a2 a3 = some true := by
  refine Ev.rounds ?_
  unfold postilionlaw15_PartFits.f
  obtain ⟨s, hs1, hs, hw0⟩ := wr40 a0
  have e0 := within_f a1 (s : Int) (by omega) (by omega)
  obtain ⟨f, hf, hfs⟩ := wrS a1 s hs1
  rw [← hf] at e0
  obtain ⟨-, hw2, -, hw4, -⟩ := wr1 s f 0 hs1 hs hfs (by omega)
  simp only [within_f a0 40 (by decide) (by decide), Option.bind_some, hw0, e0, hw2, hw4]
  clear hw0 e0 hf hw2 hw4
  have l1 := Giv.dec_len 2 f (by omega)
  have l2 := Giv.dec_len 2 (s - 1) (by omega)
  have l3 := Giv.dec_len 2 s (by omega)
  have q1 : (6 + (Lib.decDigits f).length ≤ 9223372036854775807) = True := eq_true (by omega)
  have q2 : (6 + (Lib.decDigits f).length + 1 ≤ 9223372036854775807) = True := eq_true (by omega)
  have q3 : (6 + (Lib.decDigits f).length + 1 + (Lib.decDigits (s - 1)).length ≤ 9223372036854775807) = True := eq_true (by omega)
  have q4 : (6 + (Lib.decDigits f).length + 1 + (Lib.decDigits (s - 1)).length + 1 ≤ 9223372036854775807) = True := eq_true (by omega)
  have q5 : (6 + (Lib.decDigits f).length + 1 + (Lib.decDigits (s - 1)).length + 1 + (Lib.decDigits s).length ≤ 9223372036854775807) = True := eq_true (by omega)
  simp only [Option.bind_some, digN f (by omega), digN (s - 1) (by omega), digN s (by omega), B_size, q1, q2, q3, q4, q5, if_true, cat]
  obtain ⟨ys, hy, he⟩ := bytes_f 65 (s - f) (by omega)
  refine Ev.bind he ?_
  have z1 := spL_size f (s - 1) s (by omega) (by omega) (by omega)
  have p1 := spL_of f (s - 1) s (by omega) (by omega) (by omega)
  refine Ev.bind (a := ((s : Int), true)) ?_ ?_
  · have := fits_f 206 [⟨B eN, B v1⟩, ⟨B cN, B (spL f (s - 1) s)⟩] (strOfNums ys) false (f : Int) v1 (ok2 _ _ (by decide) z1) (by
      rw [getS_miss crangeL eN _ _ (by decide), getS_hit crangeL cN _ _ (by decide)]
      simp only; omega)
    rw [fits_2, strOfNums_size, hy] at this
    dsimp only at this
    rw [p1, strong_v1, if_pos rfl, if_pos ⟨rfl, by decide, rfl, rfl, rfl, by simp only; omega, by simp only; omega⟩] at this
    exact this
  · simp only [if_true, bne_self_eq_false]
    exact core0 s f a2 a3 _ (by omega) (by omega) hfs
end Go.Proofs.YtiabjeeelgkneaaDoor.Pure
