/- What the printed functions of PartForms answer, in plain words. -/
import Derived.Test.YtiabjeeelgkneaaDoorBas
import Derived.Test.YtiabjeeelgkneaaDoorGPartFormsx
namespace Go.Proofs.YtiabjeeelgkneaaDoor.Pure
open Go.RowKit Go.Proofs.YtiabjeeelgkneaaDoorW.PrintWords Go.Proofs.YtiabjeeelgkneaaDoorW.PrintLast Go.Proofs.YtiabjeeelgkneaaDoorW.PrintMore
open Go.Proofs.YtiabjeeelgkneaaDoor.GPartForms Go.Proofs.YtiabjeeelgkneaaDoor.GivP Go.Proofs.YtiabjeeelgkneaaDoor.Bas Go.Proofs.YtiabjeeelgkneaaDoor.Giv
theorem within_f (a n : Int) (h : 1 ≤ n) (hn : n ≤ 4611686018427387904) : postilionkeep_Within.f a n = some (a % n) := by
  unfold postilionkeep_Within.f
  rw [if_neg (by omega), if_neg (by omega), ← tmod_emod a n h hn]
  split <;> rfl
theorem w64 {x y : Int} (h : x = y) (h1 : -9223372036854775808 ≤ x) (h2 : x ≤ 9223372036854775807) : wrap64 x = y := by
  subst h
  unfold wrap64
  omega
theorem number_l (l : List UInt8) (hl : l.length ≤ 6) : ∀ (d i : Nat) (n : Int), l.length - i = d → i ≤ l.length → 0 ≤ n → n < 10 ^ i →
    Ev (fun k => reply_Number.l0 k (B l) n (l.length : Int) (i : Int)) (if (l.drop i).all isD = true then (numV n (l.drop i), true) else (0, false)) := by
  intro d
  induction d with
  | zero =>
    intro i n hd hi h0 h1
    refine Ev.step (f := fun _ => some (n, true)) (fun k => by simp only [reply_Number.l0]; rw [if_neg (by omega)]) ?_
    rw [List.drop_eq_nil_of_le (by omega)]
    exact Ev.now _
  | succ d ih =>
    intro i n hd hi h0 h1
    have hlt : i < l.length := by omega
    have hb := bt_B l i hlt
    have hc : (l[i].toNat : Int) < 256 := by have := l[i].toNat_lt; omega
    have h6 : (10 : Int) ^ i ≤ 100000 := by
      have : i = 0 ∨ i = 1 ∨ i = 2 ∨ i = 3 ∨ i = 4 ∨ i = 5 := by omega
      rcases this with rfl | rfl | rfl | rfl | rfl | rfl <;> decide
    have hs : l.drop i = l[i] :: l.drop (i + 1) := List.drop_eq_getElem_cons hlt
    by_cases h2 : (l[i].toNat : Int) < 48
    · refine Ev.step (f := fun _ => some (0, false)) (fun k => by simp only [reply_Number.l0]; rw [if_pos (by omega), if_pos (by omega), if_pos (by rw [B_size]; omega), hb, if_pos h2]) ?_
      rw [hs, if_neg (by rw [List.all_cons, isD_no (.inl (by omega))]; simp)]
      exact Ev.now _
    · by_cases h3 : (l[i].toNat : Int) > 57
      · refine Ev.step (f := fun _ => some (0, false)) (fun k => by simp only [reply_Number.l0]; rw [if_pos (by omega), if_pos (by omega), if_pos (by rw [B_size]; omega), hb, if_neg h2, if_pos h3]) ?_
        rw [hs, if_neg (by rw [List.all_cons, isD_no (.inr (by omega))]; simp)]
        exact Ev.now _
      · have hw : wrap64 (wrap64 (10 * n) + ((l[i].toNat : Int) - 48) % 256) = 10 * n + ((l[i].toNat : Int) - 48) := by unfold wrap64; omega
        have hw2 : wrap64 ((i : Int) + 1) = ((i + 1 : Nat) : Int) := by unfold wrap64; omega
        refine Ev.step (f := fun k => reply_Number.l0 k (B l) (10 * n + ((l[i].toNat : Int) - 48)) (l.length : Int) ((i + 1 : Nat) : Int)) (fun k => by simp only [reply_Number.l0]; rw [if_pos (by omega), if_pos (by omega), if_pos (by rw [B_size]; omega), hb, if_neg h2, if_neg h3, hw, hw2]) ?_
        have := ih (i + 1) (10 * n + ((l[i].toNat : Int) - 48)) (by omega) (by omega) (by omega) (by rw [Int.pow_succ]; omega)
        rw [hs]
        have hd : isD l[i] = true := isD_yes (by omega) (by omega)
        simp only [List.all_cons, hd, Bool.true_and]
        exact this
theorem number_f (l : List UInt8) : Ev (fun k => reply_Number.f k (B l)) (numS l) := by
  by_cases h1 : l.length < 1
  · refine Ev.congr (f := fun k => reply_Number.j0 k (B l) true) (fun k => by unfold reply_Number.f; rw [B_size, if_pos (by omega)]) ?_
    refine Ev.step (f := fun _ => some (0, false)) (fun k => by simp only [reply_Number.j0, if_true]) ?_
    unfold numS
    rw [if_neg (by omega)]
    exact Ev.now _
  · by_cases h2 : l.length ≤ 6
    · refine Ev.congr (f := fun k => reply_Number.j0 k (B l) false) (fun k => by unfold reply_Number.f; rw [B_size, if_neg (by omega), decide_eq_false (by omega)]) ?_
      refine Ev.step (f := fun k => reply_Number.l0 k (B l) 0 (l.length : Int) ((0 : Nat) : Int)) (fun k => by simp only [reply_Number.j0]; rw [if_neg (by simp), B_size]; rfl) ?_
      have := number_l l h2 l.length 0 0 (by omega) (by omega) (by omega) (by decide)
      simp only [List.drop_zero] at this
      unfold numS
      by_cases h3 : l.all isD = true
      · rw [if_pos h3] at this
        rw [if_pos ⟨by omega, h2, h3⟩]
        exact this
      · rw [if_neg h3] at this
        rw [if_neg (fun h => h3 h.2.2)]
        exact this
    · refine Ev.congr (f := fun k => reply_Number.j0 k (B l) true) (fun k => by unfold reply_Number.f; rw [B_size, if_neg (by omega), decide_eq_true (by omega)]) ?_
      refine Ev.step (f := fun _ => some (0, false)) (fun k => by simp only [reply_Number.j0, if_true]) ?_
      unfold numS
      rw [if_neg (by omega)]
      exact Ev.now _
theorem cut_f (l m : List UInt8) (h : l.length < 4294967281) : strings_Cut.f (B l) (B m) = some (B (Lib.cut l m).1, B (Lib.cut l m).2.1, (Lib.cut l m).2.2) := by
  unfold strings_Cut.f
  rw [if_pos (by rw [B_size]; exact h), data_B, data_B]
  rfl
theorem pre_f (l m : List UInt8) : strings_CutPrefix.f (B l) (B m) = some (if m.isPrefixOf l = true then (B (l.drop m.length), true) else (B l, false)) := by
  unfold strings_CutPrefix.f stringslite_CutPrefix.f stringslite_HasPrefix.f
  rw [B_size, B_size]
  by_cases h : m.length ≤ l.length
  · rw [if_pos (by omega), if_pos (by omega), if_pos (by omega)]
    simp only [Option.bind_some]
    rw [B_extract, B_toList, B_toList]
    have e : (((l.take (m.length : Int).toNat).drop 0 == m) = true) = (m.isPrefixOf l = true) := by
      rw [List.drop_zero, beq_iff_eq, List.isPrefixOf_iff_prefix, List.prefix_iff_eq_take]
      simp only [Int.toNat_natCast]
      exact propext ⟨fun h => h.symm, fun h => h.symm⟩
    by_cases h2 : m.isPrefixOf l = true
    · rw [if_pos (by rw [e]; exact h2), if_pos (by omega), if_pos (by omega), if_pos h2, B_extract]
      simp
    · rw [if_neg (by rw [e]; exact h2), if_neg h2]
      rfl
  · rw [if_neg (by omega)]
    have h2 : ¬ m.isPrefixOf l = true := by
      rw [List.isPrefixOf_iff_prefix]
      intro hp
      exact h hp.length_le
    rw [if_neg h2]
    rfl
def bytesL : List UInt8 := [98, 121, 116, 101, 115, 32]
/-- What a span of a content-range tells. -/
def spanS (s : List UInt8) : Int × Int × Int × Bool :=
  let rest := if bytesL.isPrefixOf s = true then s.drop 6 else s
  let c1 := Lib.cut rest [47]
  let c2 := Lib.cut c1.1 [45]
  let x := numS c2.1
  let y := numS c2.2.1
  let z := numS c1.2.1
  if bytesL.isPrefixOf s = true ∧ c1.2.2 = true ∧ c2.2.2 = true ∧ x.2 = true ∧ y.2 = true ∧ z.2 = true ∧ x.1 ≤ y.1 ∧ y.1 < z.1 then (x.1, y.1, z.1, true) else (0, 0, 0, false)
theorem cut1_le (l m : List UInt8) : (Lib.cut l m).1.length ≤ l.length := by
  unfold Lib.cut
  split
  · simp; omega
  · exact Nat.le_refl _
theorem span_f (s : List UInt8) (h : s.length < 4294967281) : Ev (fun k => part_Span.f k (B s)) (spanS s) := by
  have hr : (if bytesL.isPrefixOf s = true then s.drop 6 else s).length < 4294967281 := by
    split
    · rw [List.length_drop]; omega
    · exact h
  unfold part_Span.f
  have e1 : strings_CutPrefix.f (B s) (⟨#[98, 121, 116, 101, 115, 32]⟩ : ByteArray) = some (B (if bytesL.isPrefixOf s = true then s.drop 6 else s), bytesL.isPrefixOf s) := by
    refine (pre_f s bytesL).trans ?_
    by_cases hp : bytesL.isPrefixOf s = true
    · rw [if_pos hp, if_pos hp, hp]; rfl
    · rw [if_neg hp, if_neg hp, Bool.eq_false_iff.2 hp]
  have hsp : spanS s = spanS s := rfl
  unfold spanS at hsp ⊢
  generalize (if bytesL.isPrefixOf s = true then s.drop 6 else s) = rest at *
  have e2 := cut_f rest [47] hr
  have hc1 := cut1_le rest [47]
  have e3 := cut_f (Lib.cut rest [47]).1 [45] (by omega)
  simp only [e1, Option.bind_some]
  have e2' : strings_Cut.f (B rest) (⟨#[47]⟩ : ByteArray) = _ := e2
  have e3' : strings_Cut.f (B (Lib.cut rest [47]).1) (⟨#[45]⟩ : ByteArray) = _ := e3
  simp only [e2', Option.bind_some, e3']
  generalize Lib.cut rest [47] = c1 at *
  generalize Lib.cut c1.1 [45] = c2 at *
  refine Ev.bind (number_f c2.1) ?_
  refine Ev.bind (number_f c2.2.1) ?_
  refine Ev.bind (number_f c1.2.1) ?_
  generalize numS c2.1 = x
  generalize numS c2.2.1 = y
  generalize numS c1.2.1 = z
  refine Ev.congr (f := fun _ => some _) (fun _ => ?_) (Ev.now _)
  generalize bytesL.isPrefixOf s = p
  cases p <;> cases c1.2.2 <;> cases c2.2.2 <;> cases x.2 <;> cases y.2 <;> cases z.2 <;> simp
  by_cases h1 : y.1 < x.1
  · rw [if_pos h1, if_neg (by omega)]
  · rw [if_neg h1]
    by_cases h2 : z.1 ≤ y.1
    · rw [if_pos h2, if_neg (by omega)]
    · rw [if_neg h2, if_pos (by omega)]
def lowerS (l : List UInt8) : List UInt8 := l.map lowerB
theorem lower_f (l : List UInt8) (h : l.length ≤ 140737488351232) : pct_Lower.f (B l) = some (B (lowerS l)) := by
  unfold pct_Lower.f
  rw [if_pos (by rw [B_size]; exact h), data_B]
  rfl
/-- The value of a name. -/
def getS (name : List UInt8) (l : List S26) : ByteArray × Bool :=
  match l with
  | [] => (⟨#[]⟩, false)
  | h :: r => if lowerS h.f0.data.toList = lowerS name then (h.f1, true) else getS name r
def okH (l : List S26) : Prop := l.length ≤ 140737488351232 ∧ ∀ h ∈ l, h.f0.size ≤ 140737488351232 ∧ h.f1.size ≤ 140737488351232
theorem get_l (name : List UInt8) (hn : name.length ≤ 140737488351232) (l : List S26) (hl : okH l) : ∀ (d i : Nat), l.length - i = d → i ≤ l.length →
    Ev (fun k => head_Get.l0 k (B name) l (l.length : Int) (i : Int)) (getS name (l.drop i)) := by
  intro d
  induction d with
  | zero =>
    intro i hd hi
    refine Ev.step (f := fun _ => some (⟨#[]⟩, false)) (fun k => by simp only [head_Get.l0]; rw [if_neg (by omega)]) ?_
    rw [List.drop_eq_nil_of_le (by omega)]
    exact Ev.now _
  | succ d ih =>
    intro i hd hi
    have hlt : i < l.length := by omega
    have hs : l.drop i = l[i] :: l.drop (i + 1) := List.drop_eq_getElem_cons hlt
    have hr : rd_T26 l (i : Int) = l[i] := by
      unfold rd_T26
      simp [List.getD_eq_getElem?_getD, List.getElem?_eq_getElem hlt]
    have hw : wrap64 ((i : Int) + 1) = ((i + 1 : Nat) : Int) := by
      have := hl.1
      unfold wrap64
      omega
    have h0 := (hl.2 l[i] (List.getElem_mem hlt)).1
    have e0 : pct_Lower.f l[i].f0 = some (B (lowerS l[i].f0.data.toList)) := by
      have := lower_f l[i].f0.data.toList (by rw [data_length]; exact h0)
      rw [B_data] at this
      exact this
    have e1 := lower_f name hn
    rw [hs]
    unfold getS
    by_cases h : lowerS l[i].f0.data.toList = lowerS name
    · refine Ev.step (f := fun _ => some (l[i].f1, true)) (fun k => by
        simp only [head_Get.l0]
        rw [if_pos (by omega), if_pos (by omega), if_pos (by omega), hr, e0]
        simp only [Option.bind_some, e1]
        rw [B_toList, B_toList, if_pos h]) ?_
      rw [if_pos h]
      exact Ev.now _
    · refine Ev.step (f := fun k => head_Get.l0 k (B name) l (l.length : Int) ((i + 1 : Nat) : Int)) (fun k => by
        simp only [head_Get.l0]
        rw [if_pos (by omega), if_pos (by omega), if_pos (by omega), hr, e0]
        simp only [Option.bind_some, e1]
        rw [B_toList, B_toList, if_neg h, hw]) ?_
      rw [if_neg h]
      exact ih (i + 1) (by omega) (by omega)
theorem get_f (name : List UInt8) (hn : name.length ≤ 140737488351232) (l : List S26) (hl : okH l) : Ev (fun k => head_Get.f k (B name) l) (getS name l) := by
  have := get_l name hn l hl l.length 0 (by omega) (by omega)
  exact this
theorem getS_ok (name : List UInt8) : ∀ l : List S26, okH l → (getS name l).1.size ≤ 140737488351232
  | [], _ => by unfold getS; decide
  | h :: r, hl => by
    unfold getS
    split
    · exact (hl.2 h List.mem_cons_self).2
    · exact getS_ok name r ⟨by have := hl.1; simp at this; omega, fun x hx => hl.2 x (List.mem_cons_of_mem _ hx)⟩
def tagS (l : List S26) : ByteArray := if strongB (getS [101, 116, 97, 103] l).1 = true then (getS [101, 116, 97, 103] l).1 else ⟨#[]⟩
theorem strong_f (a : ByteArray) (h : a.size ≤ 140737488351232) : part_strong.f a = some (strongB a) := by
  unfold part_strong.f
  rw [if_pos h]
theorem tag_f (l : List S26) (hl : okH l) : Ev (fun k => part_Tag.f k l) (tagS l) := by
  unfold part_Tag.f
  refine Ev.bind (a := getS [101, 116, 97, 103] l) (get_f [101, 116, 97, 103] (by decide) l hl) ?_
  unfold tagS
  refine Ev.congr (f := fun _ => some _) (fun k => ?_) (Ev.now _)
  rw [strong_f _ (getS_ok _ l hl)]
  simp only [Option.bind_some]
  split <;> rfl
def decB (n : Nat) : ByteArray := B (Lib.decDigits n)
theorem itoa_f (n : Nat) (h : n ≤ 9223372036854775807) : strconv_Itoa.f (n : Int) = some (decB n) := by
  unfold strconv_Itoa.f
  rw [if_pos (by omega), if_pos (by omega)]
  unfold Lib.itoa
  rw [if_neg (by omega)]
  rfl
/-- What asks for the rest. -/
def headsS (got : Int) (tag : ByteArray) : List S26 :=
  if got < 1 then [] else if tag.toList = [] then [] else
    [⟨B [82, 97, 110, 103, 101], B ([98, 121, 116, 101, 115, 61] ++ Lib.decDigits got.toNat ++ [45])⟩, ⟨B [73, 102, 45, 82, 97, 110, 103, 101], tag⟩]
theorem heads_f (got : Int) (tag : ByteArray) (h : got ≤ 9223372036854775807) : part_Heads.f got tag = some (headsS got tag) := by
  unfold part_Heads.f headsS
  by_cases h1 : got < 1
  · rw [if_pos h1, if_pos h1]
  · rw [if_neg h1, if_neg h1]
    by_cases h2 : tag.toList = []
    · rw [if_pos h2, if_pos h2]
    · rw [if_neg h2, if_neg h2]
      have e := itoa_f got.toNat (by omega)
      rw [show ((got.toNat : Nat) : Int) = got by omega] at e
      have hl := Giv.dec_len 19 got.toNat (by have : (10 : Nat) ^ 19 = 10000000000000000000 := by decide
                                              omega)
      have hz : (decB got.toNat).size = (Lib.decDigits got.toNat).length := B_size _
      rw [e]
      simp only [Option.bind_some]
      rw [if_pos (by omega), if_pos (by omega)]
      have e2 : (⟨#[98, 121, 116, 101, 115, 61]⟩ : ByteArray) ++ decB got.toNat ++ (⟨#[45]⟩ : ByteArray) = B ([98, 121, 116, 101, 115, 61] ++ Lib.decDigits got.toNat ++ [45]) := by
        show B _ ++ B _ ++ B _ = _
        rw [B_append, B_append]
      rw [e2]
      rfl
theorem wakes15_f : Ev (fun k => postilionlaw15_wakes.f k) true := by
  unfold postilionlaw15_wakes.f
  rw [heads_f 0 _ (by decide), heads_f 3 _ (by decide)]
  simp only [Option.bind_some]
  have c0 : ((headsS 0 (⟨#[34, 97, 34]⟩ : ByteArray)).length : Int) = 0 := by decide
  have c3 : ((headsS 3 (⟨#[34, 97, 34]⟩ : ByteArray)).length : Int) = 2 := by
    unfold headsS
    rw [if_neg (by decide), if_neg (by rw [ByteArray.toList_eq]; decide)]
    rfl
  simp only [c0, c3, if_true]
  refine Ev.bind (tag_f _ ⟨by decide, fun h hm => by simp at hm; subst hm; decide⟩) ?_
  refine Ev.congr (f := fun _ => some true) (fun k => ?_) (Ev.now _)
  rw [ByteArray.toList_eq]
  congr 1
theorem same_l (l : List S26) (hl : l.length ≤ 140737488351232) : ∀ (d i : Nat), l.length - i = d → i ≤ l.length → Ev (fun k => api_Head.l0 k l l (i : Int)) true := by
  intro d
  induction d with
  | zero =>
    intro i hd hi
    exact Ev.step (f := fun _ => some true) (fun k => by simp only [api_Head.l0]; rw [if_neg (by omega)]) (Ev.now _)
  | succ d ih =>
    intro i hd hi
    have hw : wrap64 ((i : Int) + 1) = ((i + 1 : Nat) : Int) := w64 (by omega) (by omega) (by omega)
    refine Ev.step (f := fun k => api_Head.l0 k l l ((i + 1 : Nat) : Int)) (fun k => by simp only [api_Head.l0]; rw [if_pos (by omega), if_pos (by omega), if_pos (by omega), if_neg (by simp), hw]) (ih (i + 1) (by omega) (by omega))
theorem same_f (l : List S26) (hl : l.length ≤ 140737488351232) : Ev (fun k => api_Head.f k l l) true := by
  refine Ev.congr (f := fun k => api_Head.l0 k l l ((0 : Nat) : Int)) (fun k => by unfold api_Head.f; rw [if_pos rfl]; rfl) (same_l l hl l.length 0 (by omega) (by omega))
theorem getS_hit (name n : List UInt8) (v : ByteArray) (r : List S26) (h : lowerS n = lowerS name) : getS name (⟨B n, v⟩ :: r) = (v, true) := by
  unfold getS
  rw [data_B, if_pos h]
theorem getS_miss (name n : List UInt8) (v : ByteArray) (r : List S26) (h : ¬ lowerS n = lowerS name) : getS name (⟨B n, v⟩ :: r) = getS name r := by
  rw [getS, data_B, if_neg h]
def untilS (c : UInt8) (l : List UInt8) : List UInt8 × List UInt8 := (l.takeWhile (· != c), l.dropWhile (· != c))
theorem until_no (c : UInt8) (l : List UInt8) (h : c ∉ l) : untilS c l = (l, []) := by
  have h1 : ∀ x ∈ l, (x != c) = true := fun x hx => by simp; rintro rfl; exact h hx
  unfold untilS
  have e1 : l.takeWhile (· != c) = l := by
    have := List.takeWhile_append_of_pos (l₂ := []) h1
    simpa using this
  have e2 : l.dropWhile (· != c) = [] := by
    have := List.dropWhile_append_of_pos (l₂ := []) h1
    simpa using this
  rw [e1, e2]
theorem until_yes (c : UInt8) (l r : List UInt8) (h : c ∉ l) : untilS c (l ++ c :: r) = (l, c :: r) := by
  have h1 : ∀ x ∈ l, (x != c) = true := fun x hx => by simp; rintro rfl; exact h hx
  unfold untilS
  rw [List.takeWhile_append_of_pos h1, List.dropWhile_append_of_pos h1]
  simp
theorem first_at (c : UInt8) (l : List UInt8) (h : c ∈ l) : ∃ a r, l = a ++ c :: r ∧ c ∉ a := by
  induction l with
  | nil => cases h
  | cons b l ih =>
    by_cases hb : b = c
    · exact ⟨[], l, by simp [hb], by simp⟩
    · obtain ⟨a, r, e, hn⟩ := ih (by rcases List.mem_cons.1 h with h | h; exact absurd h.symm hb; exact h)
      exact ⟨b :: a, r, by simp [e], by simp [hn]; exact fun e => hb e.symm⟩
/-- The span that the reference tells: the same. -/
def pickS (x y z : Int × Bool) : Int × Int × Int × Bool := if x.2 = true ∧ y.2 = true ∧ z.2 = true ∧ x.1 ≤ y.1 ∧ y.1 < z.1 then (x.1, y.1, z.1, true) else (0, 0, 0, false)
theorem numS_bad (l : List UInt8) (c : UInt8) (h : c ∈ l) (hc : isD c = false) : numS l = (0, false) := by
  unfold numS
  rw [if_neg]
  rintro ⟨-, -, h3⟩
  have := List.all_eq_true.1 h3 c h
  rw [hc] at this
  cases this
def spanR (s : List UInt8) : Int × Int × Int × Bool :=
  if bytesL.isPrefixOf s = true then
    let u := untilS 45 (s.drop 6)
    if u.2 = [] then (0, 0, 0, false) else
      let v := untilS 47 (u.2.drop 1)
      if v.2 = [] then (0, 0, 0, false) else pickS (numS u.1) (numS v.1) (numS (v.2.drop 1))
  else (0, 0, 0, false)
theorem spanR_eq (s : List UInt8) : spanR s = spanS s := by
  unfold spanR spanS
  by_cases hp : bytesL.isPrefixOf s = true
  · rw [if_pos hp]
    simp only [if_pos hp]
    generalize s.drop 6 = rest
    by_cases hm : (45 : UInt8) ∈ rest
    · obtain ⟨a, r, rfl, ha⟩ := first_at 45 rest hm
      rw [until_yes 45 a r ha]
      simp only [List.drop_succ_cons, List.drop_zero]
      rw [if_neg (by simp)]
      by_cases hs : (47 : UInt8) ∈ a
      · obtain ⟨b, q, rfl, hb⟩ := first_at 47 a hs
        have e1 : numS (b ++ 47 :: q) = (0, false) := numS_bad _ 47 (by simp) (by decide)
        rw [e1]
        have hb2 : (45 : UInt8) ∉ b := fun h => ha (List.mem_append_left _ h)
        rw [show b ++ 47 :: q ++ 45 :: r = b ++ 47 :: (q ++ 45 :: r) by simp, cut_yes b _ 47 hb]
        have e2 : pickS (0, false) (numS (untilS 47 r).1) (numS ((untilS 47 r).2.drop 1)) = (0, 0, 0, false) := by
          unfold pickS
          exact if_neg (fun h => by have := h.1; simp at this)
        rw [e2, ite_self]
        dsimp only
        rw [cut_no b 45 hb2]
        exact (if_neg (fun h => by have := h.2.2.1; simp at this)).symm
      · by_cases hs2 : (47 : UInt8) ∈ r
        · obtain ⟨b, q, rfl, hb⟩ := first_at 47 r hs2
          rw [until_yes 47 b q hb]
          simp only [List.drop_succ_cons, List.drop_zero]
          rw [if_neg (by simp)]
          have hn : (47 : UInt8) ∉ a ++ 45 :: b := by simp; exact ⟨hs, hb⟩
          rw [show a ++ 45 :: (b ++ 47 :: q) = (a ++ 45 :: b) ++ 47 :: q by simp, cut_yes _ q 47 hn]
          dsimp only
          rw [cut_yes a b 45 ha]
          unfold pickS
          simp [hp]
        · rw [until_no 47 r hs2]
          have hn : (47 : UInt8) ∉ a ++ 45 :: r := by simp; exact ⟨hs, hs2⟩
          rw [cut_no _ 47 hn, if_pos rfl, if_neg (fun h => by have := h.2.1; simp at this)]
    · rw [until_no 45 rest hm, if_pos rfl]
      have h45 : (45 : UInt8) ∉ (Lib.cut rest [47]).1 := by
        by_cases hs : (47 : UInt8) ∈ rest
        · obtain ⟨b, q, rfl, hb⟩ := first_at 47 rest hs
          rw [cut_yes b q 47 hb]
          exact fun h => hm (List.mem_append_left _ h)
        · rw [cut_no rest 47 hs]
          exact hm
      rw [cut_no _ 45 h45, if_neg (fun h => by have := h.2.2.1; simp at this)]
  · rw [if_neg hp]
    simp only [if_neg hp]
    rw [if_neg (fun h => hp h.1)]
theorem tag3 (v : ByteArray) : tagS [⟨B [120], ⟨#[]⟩⟩, ⟨B [69, 116, 97, 103], v⟩, ⟨B [101, 116, 97, 103], ⟨#[34, 122, 34]⟩⟩] = if strongB v = true then v else ⟨#[]⟩ := by
  unfold tagS
  rw [getS_miss [101, 116, 97, 103] [120] _ _ (by decide), getS_hit [101, 116, 97, 103] [69, 116, 97, 103] v _ (by decide)]
def fitOK (e : S22) : Bool := decide (e.f0.size ≤ 100) && ((if strongB e.f0 = true then e.f0 else (⟨#[]⟩ : ByteArray)).data.toList == e.f1.data.toList)
theorem forms_l (x0 : Int) (ys : List S22) (hy : ys.length ≤ 100) (ha : ∀ e ∈ ys, fitOK e = true) (r : Bool) (he : Ev (fun k => postilionlaw15_PartForms.l0 k x0 ys (ys.length : Int) (ys.length : Int)) r) : ∀ (d i : Nat), ys.length - i = d → i ≤ ys.length →
    Ev (fun k => postilionlaw15_PartForms.l0 k x0 ys (ys.length : Int) (i : Int)) r := by
  intro d
  induction d with
  | zero =>
    intro i hd hi
    rw [show i = ys.length by omega]
    exact he
  | succ d ih =>
    intro i hd hi
    have hlt : i < ys.length := by omega
    have hr : rd_T22 ys (i : Int) = ys[i] := by
      unfold rd_T22
      simp [List.getD_eq_getElem?_getD, List.getElem?_eq_getElem hlt]
    have hw : wrap64 ((i : Int) + 1) = ((i + 1 : Nat) : Int) := w64 (by omega) (by omega) (by omega)
    have h0 := ha ys[i] (List.getElem_mem hlt)
    unfold fitOK at h0
    simp only [Bool.and_eq_true, decide_eq_true_eq, beq_iff_eq] at h0
    refine Ev.step (fun k => by simp only [postilionlaw15_PartForms.l0]; rw [if_pos (by omega), if_pos (by omega), if_pos (by omega), hr]) ?_
    refine Ev.bind (a := if strongB ys[i].f0 = true then ys[i].f0 else (⟨#[]⟩ : ByteArray)) ?_ ?_
    · rw [← tag3]
      refine tag_f _ ⟨by simp, fun h hm => ?_⟩
      simp only [List.mem_cons, List.not_mem_nil, or_false] at hm
      rcases hm with rfl | rfl | rfl
      · exact ⟨show (B [120]).size ≤ _ by decide, show (B []).size ≤ _ by decide⟩
      · exact ⟨show (B [69, 116, 97, 103]).size ≤ _ by decide, by have := h0.1; simp only; omega⟩
      · exact ⟨show (B [101, 116, 97, 103]).size ≤ _ by decide, show (B [34, 122, 34]).size ≤ _ by decide⟩
    · refine Ev.congr (fun k => by rw [ByteArray.toList_eq, ByteArray.toList_eq, if_pos h0.2, hw]) ?_
      exact ih (i + 1) (by omega) (by omega)
def badL : List (List UInt8) := [[], [98, 121, 116, 101, 115], [98, 121, 116, 101, 115, 32, 51, 45, 55], [98, 121, 116, 101, 115, 32, 51, 45, 47, 56], [98, 121, 116, 101, 115, 32, 45, 55, 47, 56], [98, 121, 116, 101, 115, 32, 51, 45, 55, 47], [98, 121, 116, 101, 115, 32, 56, 45, 55, 47, 57], [98, 121, 116, 101, 115, 32, 51, 45, 56, 47, 56], [66, 121, 116, 101, 115, 32, 51, 45, 55, 47, 56], [98, 121, 116, 101, 115, 32, 32, 51, 45, 55, 47, 56], [98, 121, 116, 101, 115, 32, 51, 45, 55, 47, 56, 32], [98, 121, 116, 101, 115, 32, 120, 45, 55, 47, 56], [98, 121, 116, 101, 115, 32, 51, 45, 55, 47, 49, 50, 51, 52, 53, 54, 55], [98, 121, 116, 101, 115, 32, 42, 47, 56], [98, 121, 116, 101, 115, 32, 51, 45, 55, 45, 56, 47, 57]]
theorem bad_all : ∀ s ∈ badL, s.length < 100 ∧ (spanR s).2.2.2 = false := by decide
theorem good_span : spanR [98, 121, 116, 101, 115, 32, 51, 45, 55, 47, 56] = (3, 7, 8, true) := by decide
theorem dec12 : Lib.decDigits 12 = [49, 50] := by
  rw [Giv.dec_step 12 (by decide), Giv.dec_small (12 / 10) (by decide)]
  rfl
theorem heads12 : headsS 12 (⟨#[34, 116, 34]⟩ : ByteArray) = [(⟨(⟨#[82, 97, 110, 103, 101]⟩ : ByteArray), (⟨#[98, 121, 116, 101, 115, 61, 49, 50, 45]⟩ : ByteArray)⟩ : S26), (⟨(⟨#[73, 102, 45, 82, 97, 110, 103, 101]⟩ : ByteArray), (⟨#[34, 116, 34]⟩ : ByteArray)⟩ : S26)] := by
  unfold headsS
  rw [if_neg (by decide), if_neg (by rw [ByteArray.toList_eq]; decide), show (12 : Int).toNat = 12 from rfl, dec12]
  rfl
theorem forms_j1 (x0 : Int) : Ev (fun k => postilionlaw15_PartForms.j1 k x0 false) true := by
  have b1 := Int.emod_nonneg x0 (show (15 : Int) ≠ 0 by decide)
  have c1 := Int.emod_lt_of_pos x0 (show (0 : Int) < 15 by decide)
  have e1 : postilionkeep_Within.f x0 ((15 : Nat) : Int) = some (x0 % 15) := within_f x0 15 (by decide) (by decide)
  generalize x0 % 15 = t at *
  refine Ev.step (fun k => by simp only [postilionlaw15_PartForms.j1]; exact rfl) ?_
  refine Ev.congr (fun k => if_neg (by decide)) ?_
  simp only [Option.bind_some]
  generalize hy : ([_, _, _, _, _, _, _, _, _, _, _, _, _, _, _] : List ByteArray) = y
  have hl : y.length = 15 := by rw [← hy]; rfl
  have hyB : y = badL.map B := by rw [← hy]; rfl
  simp only [hl, e1, Option.bind_some]
  refine Ev.congr (fun k => by rw [if_pos b1, if_pos (by omega)]) ?_
  obtain ⟨s, hs, hr⟩ : ∃ s ∈ badL, rdOf ByteArray.empty y t = B s := by
    have hlt : t.toNat < badL.length := by have : badL.length = 15 := rfl
                                           omega
    refine ⟨badL[t.toNat], List.getElem_mem hlt, ?_⟩
    rw [hyB]
    unfold rdOf
    rw [List.getD_eq_getElem?_getD, List.getElem?_map, List.getElem?_eq_getElem hlt]
    rfl
  have hb := bad_all s hs
  rw [hr]
  refine Ev.bind (span_f s (by omega)) ?_
  rw [← spanR_eq, hb.2]
  have h12 := heads_f 12 (⟨#[34, 116, 34]⟩ : ByteArray) (by decide)
  rw [heads12] at h12
  have h12e : part_Heads.f 12 (⟨#[]⟩ : ByteArray) = some [] := by
    rw [heads_f 12 _ (by decide)]
    unfold headsS
    rw [if_neg (by decide), if_pos (by rw [ByteArray.toList_eq])]
  have hm1 : part_Heads.f (-1) (⟨#[34, 116, 34]⟩ : ByteArray) = some [] := by
    rw [heads_f (-1) _ (by decide)]
    unfold headsS
    rw [if_pos (by decide)]
  simp only [h12, h12e, hm1, Option.bind_some, Bool.false_eq_true, if_false, List.length_nil]
  refine Ev.bind (same_f _ (by simp)) ?_
  simp only [if_true]
  refine Ev.congr (fun k => if_pos (by rfl)) ?_
  refine Ev.congr (fun k => if_pos (by rfl)) ?_
  refine Ev.bind (tag_f [] ⟨by simp, fun h hm => by cases hm⟩) ?_
  refine Ev.congr (fun k => if_pos (by rw [ByteArray.toList_eq]; decide)) ?_
  exact Ev.bind wakes15_f (Ev.now _)
theorem PartForms (a0 : Int) (_w0 : (Lit.int .i64 a0).wf = true) : ∃ k, postilionlaw15_PartForms.f k a0 = some true := by
  refine Ev.rounds ?_
  unfold postilionlaw15_PartForms.f
  simp only [Option.bind_some]
  generalize hy : ([_, _, _, _, _, _, _, _, _, _, _] : List S22) = y
  have ha : ∀ e ∈ y, fitOK e = true := by
    rw [← List.all_eq_true, ← hy]
    decide
  have hl : y.length = 11 := by rw [← hy]; rfl
  refine forms_l a0 y (by omega) ha true ?_ y.length 0 (by omega) (by omega)
  refine Ev.step (fun k => by simp only [postilionlaw15_PartForms.l0]; rw [if_neg (by omega)]) ?_
  have := span_f [98, 121, 116, 101, 115, 32, 51, 45, 55, 47, 56] (by decide)
  rw [← spanR_eq, good_span] at this
  refine Ev.bind this ?_
  simp only [if_true]
  exact forms_j1 a0
end Go.Proofs.YtiabjeeelgkneaaDoor.Pure
