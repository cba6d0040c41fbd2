/- What the printed functions of CorsForms answer, in plain words. -/
import Derived.Test.YtllblgjhoeopjaaDoorVPureC
import Derived.Test.YtllblgjhoeopjaaDoorVGCorsFormsx
namespace Go.Proofs.YtllblgjhoeopjaaDoor.Pure
open Go.RowKit Go.Proofs.YtllblgjhoeopjaaDoorW.PrintWords Go.Proofs.YtllblgjhoeopjaaDoorW.PrintLast Go.Proofs.YtllblgjhoeopjaaDoorW.PrintMore
open Go.Proofs.YtllblgjhoeopjaaDoor.GPre Go.Proofs.YtllblgjhoeopjaaDoor.GCorsForms Go.Proofs.YtllblgjhoeopjaaDoor.GivC Go.Proofs.YtllblgjhoeopjaaDoor.GivPre Go.Proofs.YtllblgjhoeopjaaDoor.Bas Go.Proofs.YtllblgjhoeopjaaDoor.Giv
theorem within_f (a n : Int) (h : 1 ≤ n) (hn : n ≤ 4611686018427387904) : postilionkeep_Within.f a n = some (a % n) := by
  unfold postilionkeep_Within.f
  rw [if_neg (by omega), if_neg (by omega), ← tmod_emod a n h hn]
  split <;> rfl
theorem plain_f (m : List UInt8) (hs : List S27) (hn : hs.length ≤ 1000000) (ho : ∀ h ∈ hs, okW h) : Ev (fun k => cors_Plain.f k (B m) hs) (commons.any (· == m) && (unsafeS hs).isEmpty) := by
  unfold cors_Plain.f
  refine Ev.bind (common_f m) ?_
  by_cases g : commons.any (· == m) = true
  · rw [g]
    simp only [if_true, Bool.true_and]
    refine Ev.bind (unsafe_f hs hn ho) ?_
    refine Ev.congr (f := fun _ => some _) (fun k => ?_) (Ev.now _)
    congr 1
    rw [List.length_map]
    rcases unsafeS hs with _ | ⟨a, r⟩
    · rfl
    · rw [List.isEmpty_cons, beq_eq_false_iff_ne, List.length_cons]
      omega
  · rw [Bool.not_eq_true] at g
    rw [g, Bool.false_and]
    exact Ev.now _
theorem wakes13_f : Ev (fun k => postilionlaw13_wakes.f k) true := by
  unfold postilionlaw13_wakes.f
  have p1 := plain_f [71, 69, 84] [] (by decide) (fun h hm => by cases hm)
  have p2 := plain_f [80, 85, 84] [] (by decide) (fun h hm => by cases hm)
  rw [unsafe_nil] at p1 p2
  refine Ev.bind p1 ?_
  refine Ev.congr (fun k => if_pos (by decide)) ?_
  exact Ev.bind p2 (Ev.now _)
def abL : List UInt8 := [104, 116, 116, 112, 115, 58, 47, 47, 97, 46, 98]
def cdL : List UInt8 := [104, 116, 116, 112, 115, 58, 47, 47, 99, 46, 100]
/-- preS, what is unsafe told. -/
def preU (code : Int) (hs : List S27) (origin : List UInt8) (creds : Bool) (method : List UInt8) (us : List (List UInt8)) : Bool :=
  decide (200 ≤ code) && decide (code ≤ 299) && checkS hs origin creds && (commons.any (· == method) || allowsS hs methodsL (lowerS method) creds) && us.all fun n => allowsS hs headsL n creds
theorem preS_U (code : Int) (hs : List S27) (origin : List UInt8) (creds : Bool) (method : List UInt8) (ls : List S27) (us : List (List UInt8)) (h : unsafeS ls = us) : preS code hs origin creds method ls = preU code hs origin creds method us := by
  subst h
  rfl
def xoneH : S27 := ⟨B [88, 45, 79, 110, 101], B [49]⟩
def xoneL : List UInt8 := [120, 45, 111, 110, 101]
theorem compact_one (x : List UInt8) : Lib.compact [x] = [x] := by
  simp [Lib.compact, Lib.compactUpTo, Lib.keeps]
theorem unsafe_one (h : S27) : unsafeS [h] = if simpleS h = true then [] else [lowerS h.f0.data.toList] := by
  unfold unsafeS rawS
  by_cases g : simpleS h = true
  · rw [if_pos g, List.filter_cons_of_neg (by rw [g]; decide)]
    simp [Lib.compact, Lib.compactUpTo]
  · rw [if_neg g, List.filter_cons_of_pos (by rw [Bool.not_eq_true] at g; rw [g]; rfl), List.filter_nil, List.map_singleton, List.mergeSort_singleton, compact_one]
theorem unsafe_xone : unsafeS [xoneH] = [xoneL] := by
  rw [unsafe_one, if_neg (by decide)]
  rfl
theorem okR_small (hs : List S27) (h : (decide (hs.length ≤ 1000) && hs.all fun h => decide (h.f0.size ≤ 1000) && decide (h.f1.size ≤ 1000)) = true) : okR hs := by
  rw [Bool.and_eq_true, decide_eq_true_eq, List.all_eq_true] at h
  refine ⟨by omega, fun x hx => ?_⟩
  have := h.2 x hx
  rw [Bool.and_eq_true, decide_eq_true_eq, decide_eq_true_eq] at this
  exact ⟨by omega, by omega⟩
theorem sames_l (l : List ByteArray) (hl : l.length ≤ 140737488351232) : ∀ (d i : Nat), l.length - i = d → i ≤ l.length → Ev (fun k => postilionkeep_Same_string.l0 k l l (i : Int)) true := by
  intro d
  induction d with
  | zero =>
    intro i hd hi
    exact Ev.step (f := fun _ => some true) (fun k => by simp only [postilionkeep_Same_string.l0]; rw [if_neg (by omega)]) (Ev.now _)
  | succ d ih =>
    intro i hd hi
    have hw : wrap64 ((i : Int) + 1) = ((i + 1 : Nat) : Int) := w64 (by omega) (by omega) (by omega)
    refine Ev.step (f := fun k => postilionkeep_Same_string.l0 k l l ((i + 1 : Nat) : Int)) (fun k => by simp only [postilionkeep_Same_string.l0]; rw [if_pos (by omega), if_pos (by omega), if_pos (by omega), if_pos trivial, hw]) (ih (i + 1) (by omega) (by omega))
theorem sames_f (l : List ByteArray) (hl : l.length ≤ 140737488351232) : Ev (fun k => postilionkeep_Same_string.f k l l) true := by
  refine Ev.congr (f := fun k => postilionkeep_Same_string.l0 k l l ((0 : Nat) : Int)) (fun k => by unfold postilionkeep_Same_string.f; rw [if_pos rfl]; rfl) (sames_l l hl l.length 0 (by omega) (by omega))
def formsRows : List S39 := [(⟨200, ([] : List (S27)), false, false, false⟩ : S39), (⟨200, (([(⟨(⟨#[97, 108, 108, 111, 119, 45, 111, 114, 105, 103, 105, 110]⟩ : ByteArray), (⟨#[42]⟩ : ByteArray)⟩ : S27)] : List (S27))), true, false, false⟩ : S39), (⟨200, (([(⟨(⟨#[65, 108, 108, 111, 119, 45, 79, 114, 105, 103, 105, 110]⟩ : ByteArray), (⟨#[104, 116, 116, 112, 115, 58, 47, 47, 97, 46, 98]⟩ : ByteArray)⟩ : S27)] : List (S27))), true, false, false⟩ : S39), (⟨200, (([(⟨(⟨#[97, 108, 108, 111, 119, 45, 111, 114, 105, 103, 105, 110]⟩ : ByteArray), (⟨#[104, 116, 116, 112, 115, 58, 47, 47, 97, 46, 98]⟩ : ByteArray)⟩ : S27), (⟨(⟨#[97, 108, 108, 111, 119, 45, 99, 114, 101, 100, 115]⟩ : ByteArray), (⟨#[116, 114, 117, 101]⟩ : ByteArray)⟩ : S27)] : List (S27))), true, true, false⟩ : S39), (⟨200, (([(⟨(⟨#[97, 108, 108, 111, 119, 45, 111, 114, 105, 103, 105, 110]⟩ : ByteArray), (⟨#[104, 116, 116, 112, 115, 58, 47, 47, 97, 46, 98]⟩ : ByteArray)⟩ : S27), (⟨(⟨#[97, 108, 108, 111, 119, 45, 99, 114, 101, 100, 115]⟩ : ByteArray), (⟨#[84, 114, 117, 101]⟩ : ByteArray)⟩ : S27)] : List (S27))), true, false, false⟩ : S39), (⟨200, (([(⟨(⟨#[97, 108, 108, 111, 119, 45, 111, 114, 105, 103, 105, 110]⟩ : ByteArray), (⟨#[104, 116, 116, 112, 115, 58, 47, 47, 97, 46, 98, 47]⟩ : ByteArray)⟩ : S27)] : List (S27))), false, false, false⟩ : S39), (⟨200, (([(⟨(⟨#[97, 108, 108, 111, 119, 45, 111, 114, 105, 103, 105, 110]⟩ : ByteArray), (⟨#[110, 117, 108, 108]⟩ : ByteArray)⟩ : S27), (⟨(⟨#[97, 108, 108, 111, 119, 45, 111, 114, 105, 103, 105, 110]⟩ : ByteArray), (⟨#[42]⟩ : ByteArray)⟩ : S27)] : List (S27))), false, false, false⟩ : S39), (⟨204, (([(⟨(⟨#[97, 108, 108, 111, 119, 45, 111, 114, 105, 103, 105, 110]⟩ : ByteArray), (⟨#[42]⟩ : ByteArray)⟩ : S27), (⟨(⟨#[97, 108, 108, 111, 119, 45, 109, 101, 116, 104, 111, 100, 115]⟩ : ByteArray), (⟨#[120, 44, 32, 80, 85, 84]⟩ : ByteArray)⟩ : S27), (⟨(⟨#[97, 108, 108, 111, 119, 45, 104, 101, 97, 100, 115]⟩ : ByteArray), (⟨#[88, 45, 79, 78, 69]⟩ : ByteArray)⟩ : S27)] : List (S27))), true, false, true⟩ : S39), (⟨299, (([(⟨(⟨#[97, 108, 108, 111, 119, 45, 111, 114, 105, 103, 105, 110]⟩ : ByteArray), (⟨#[104, 116, 116, 112, 115, 58, 47, 47, 97, 46, 98]⟩ : ByteArray)⟩ : S27), (⟨(⟨#[97, 108, 108, 111, 119, 45, 109, 101, 116, 104, 111, 100, 115]⟩ : ByteArray), (⟨#[42]⟩ : ByteArray)⟩ : S27), (⟨(⟨#[97, 108, 108, 111, 119, 45, 104, 101, 97, 100, 115]⟩ : ByteArray), (⟨#[44, 42]⟩ : ByteArray)⟩ : S27)] : List (S27))), true, false, true⟩ : S39), (⟨200, (([(⟨(⟨#[97, 108, 108, 111, 119, 45, 111, 114, 105, 103, 105, 110]⟩ : ByteArray), (⟨#[104, 116, 116, 112, 115, 58, 47, 47, 97, 46, 98]⟩ : ByteArray)⟩ : S27), (⟨(⟨#[97, 108, 108, 111, 119, 45, 109, 101, 116, 104, 111, 100, 115]⟩ : ByteArray), (⟨#[112, 117, 116]⟩ : ByteArray)⟩ : S27)] : List (S27))), true, false, false⟩ : S39), (⟨300, (([(⟨(⟨#[97, 108, 108, 111, 119, 45, 111, 114, 105, 103, 105, 110]⟩ : ByteArray), (⟨#[42]⟩ : ByteArray)⟩ : S27), (⟨(⟨#[97, 108, 108, 111, 119, 45, 109, 101, 116, 104, 111, 100, 115]⟩ : ByteArray), (⟨#[42]⟩ : ByteArray)⟩ : S27), (⟨(⟨#[97, 108, 108, 111, 119, 45, 104, 101, 97, 100, 115]⟩ : ByteArray), (⟨#[42]⟩ : ByteArray)⟩ : S27)] : List (S27))), true, false, false⟩ : S39)]
def rowB (x : S39) : Bool := (checkS x.f1 abL false == x.f2) && (checkS x.f1 abL true == x.f3) && (preU x.f0 x.f1 abL false [80, 85, 84] [xoneL] == x.f4) && (decide (x.f1.length ≤ 1000) && x.f1.all fun h => decide (h.f0.size ≤ 1000) && decide (h.f1.size ≤ 1000))
set_option maxRecDepth 100000 in
theorem rows_all : formsRows.all rowB = true := by decide +kernel
def acceptX : S27 := ⟨B [97, 99, 99, 101, 112, 116], B [120]⟩
theorem unsafe_acceptX : unsafeS [acceptX] = [] := by
  rw [unsafe_one, if_pos (by decide)]
def m3 : List (List UInt8) := [[71, 69, 84], [72, 69, 65, 68], [80, 79, 83, 84]]
theorem m3_common : ∀ t : Fin 3, commons.any (· == m3.getD t []) = true := by decide
theorem listF : listS [32, 65, 32, 44, 98, 44, 44, 32, 44, 67, 9] = [[97], [98], [99]] := by decide
theorem forms_end (a0 : Int) (i : Int) (hi : ¬ i < 11) : Ev (fun k => postilionlaw13_CorsForms.l0 k a0 (B abL) formsRows 11 i (B [88, 45, 79, 110, 101]) (B [49])) true := by
  have b3 := Int.emod_nonneg a0 (show (3 : Int) ≠ 0 by decide)
  have c3 := Int.emod_lt_of_pos a0 (show (0 : Int) < 3 by decide)
  have e3 := within_f a0 3 (by decide) (by decide)
  obtain ⟨t, ht⟩ : ∃ t : Nat, (t : Int) = a0 % 3 := ⟨(a0 % 3).toNat, by omega⟩
  rw [← ht] at b3 c3 e3
  have ht3 : t < 3 := by omega
  have hc := m3_common ⟨t, ht3⟩
  have hr : rdOf ByteArray.empty (m3.map B) (t : Int) = B (m3.getD t []) := by
    unfold rdOf
    have : t < m3.length := ht3
    simp [List.getD_eq_getElem?_getD, List.getElem?_eq_getElem this]
  change commons.any (· == m3.getD t []) = true at hc
  have hr2 : rdOf ByteArray.empty [(⟨#[71, 69, 84]⟩ : ByteArray), (⟨#[72, 69, 65, 68]⟩ : ByteArray), (⟨#[80, 79, 83, 84]⟩ : ByteArray)] (t : Int) = B (m3.getD t []) := hr
  generalize m3.getD t [] = m at *
  have ok1 : okR [acceptX] := okR_small _ (by decide)
  have ok2 : okR [xoneH] := okR_small _ (by decide)
  have p1 := plain_f m [acceptX] ok1.1 ok1.2
  have p2 := plain_f m [xoneH] ok2.1 ok2.2
  have p3 := plain_f [68, 69, 76, 69, 84, 69] [] (by decide) (fun h hm => by cases hm)
  have p4 := plain_f [103, 101, 116] [] (by decide) (fun h hm => by cases hm)
  rw [unsafe_acceptX, hc] at p1
  rw [unsafe_xone, hc] at p2
  have l1 := clist_f [32, 65, 32, 44, 98, 44, 44, 32, 44, 67, 9] (by decide)
  have l2 := clist_f [] (by decide)
  rw [listF] at l1
  rw [show listS [] = [] by rfl] at l2
  refine Ev.step (f := fun k => (cors_Plain.f k (B m) [acceptX]).bind fun t160 => (if t160 = true then ((cors_Plain.f k (B m) [xoneH]).bind fun t164 => (if t164 = true then (some false) else ((cors_Plain.f k (B [68, 69, 76, 69, 84, 69]) []).bind fun t165 => (if t165 = true then (some false) else ((cors_Plain.f k (B [103, 101, 116]) []).bind fun t166 => (if t166 = true then (some false) else ((cors_List.f k (B [32, 65, 32, 44, 98, 44, 44, 32, 44, 67, 9])).bind fun t167 => ((postilionkeep_Same_string.f k t167 ([[97], [98], [99]].map B)).bind fun t173 => (if t173 = true then ((cors_List.f k (B [])).bind fun t174 => (if (t174.length : Int) = 0 then ((postilionlaw13_wakes.f k).bind fun t177 => (some t177)) else (some false))) else (some false)))))))))) else (some false))) (fun k => by
    simp only [postilionlaw13_CorsForms.l0]
    rw [if_neg hi, Option.bind_some]
    show ((postilionkeep_Within.f a0 3).bind fun t155 => (if 0 ≤ t155 then (if t155 < 3 then ((cors_Plain.f k (rdOf ByteArray.empty (m3.map B) t155) [acceptX]).bind fun t160 => _) else none) else none)) = _
    rw [e3, Option.bind_some, if_pos b3, if_pos c3, hr]
    simp only [hr2]
    rfl) ?_
  refine Ev.bind p1 ?_
  refine Ev.congr (fun k => if_pos rfl) ?_
  refine Ev.bind p2 ?_
  refine Ev.congr (fun k => if_neg (by decide)) ?_
  refine Ev.bind p3 ?_
  refine Ev.congr (fun k => if_neg (by decide)) ?_
  refine Ev.bind p4 ?_
  refine Ev.congr (fun k => if_neg (by decide)) ?_
  refine Ev.bind l1 ?_
  refine Ev.bind (sames_f ([[97], [98], [99]].map B) (by decide)) ?_
  refine Ev.congr (fun k => if_pos rfl) ?_
  refine Ev.bind l2 ?_
  refine Ev.congr (fun k => if_pos (by rfl)) ?_
  exact Ev.bind wakes13_f (Ev.now _)
theorem forms_l (a0 : Int) : ∀ (d i : Nat), 11 - i = d → i ≤ 11 → Ev (fun k => postilionlaw13_CorsForms.l0 k a0 (B abL) formsRows 11 (i : Int) (B [88, 45, 79, 110, 101]) (B [49])) true := by
  intro d
  induction d with
  | zero =>
    intro i hd hi
    exact forms_end a0 (i : Int) (by omega)
  | succ d ih =>
    intro i hd hi
    have hw : wrap64 ((i : Int) + 1) = ((i + 1 : Nat) : Int) := w64 (by omega) (by omega) (by omega)
    have hlen : formsRows.length = 11 := rfl
    have hlt : i < formsRows.length := by omega
    have hr : rd_T39 formsRows (i : Int) = formsRows[i] := by
      unfold rd_T39
      simp [List.getD_eq_getElem?_getD, List.getElem?_eq_getElem hlt]
    have hB := List.all_eq_true.1 rows_all formsRows[i] (List.getElem_mem hlt)
    generalize formsRows[i] = x at *
    unfold rowB at hB
    simp only [Bool.and_eq_true, beq_iff_eq] at hB
    obtain ⟨⟨⟨h1, h2⟩, h3⟩, h4⟩ := hB
    have ho : okR x.f1 := okR_small x.f1 (by rw [Bool.and_eq_true]; exact h4)
    have c1 := check_f x.f0 x.f1 ho ⟨#[]⟩ false abL false
    have c2 := check_f x.f0 x.f1 ho ⟨#[]⟩ false abL true
    have c3 := pre_f13 x.f0 x.f1 ho ⟨#[]⟩ false abL false [80, 85, 84] (by decide) [xoneH] (okR_small _ (by decide))
    rw [h1] at c1
    rw [h2] at c2
    rw [preS_U _ _ _ _ _ _ _ unsafe_xone, h3] at c3
    refine Ev.step (fun k => by
      simp only [postilionlaw13_CorsForms.l0]
      rw [if_pos (by omega), if_pos (by omega), if_pos (by rw [hlen]; omega), hr]) ?_
    refine Ev.bind c1 ?_
    refine Ev.congr (fun k => if_neg (by simp)) ?_
    refine Ev.bind c2 ?_
    refine Ev.congr (fun k => if_neg (by simp)) ?_
    refine Ev.bind c3 ?_
    refine Ev.congr (fun k => by rw [if_neg (by simp), hw]) (ih (i + 1) (by omega) (by omega))
theorem CorsForms (a0 : Int) (_w0 : (Lit.int .i64 a0).wf = true) : ∃ k, postilionlaw13_CorsForms.f k a0 = some true := by
  refine Ev.rounds ?_
  unfold postilionlaw13_CorsForms.f
  exact Ev.congr (fun k => rfl) (forms_l a0 11 0 (by omega) (by omega))
end Go.Proofs.YtllblgjhoeopjaaDoor.Pure
