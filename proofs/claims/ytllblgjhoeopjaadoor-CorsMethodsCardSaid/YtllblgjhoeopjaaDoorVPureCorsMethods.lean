/- What the printed functions of CorsMethods answer, in plain words. -/
import Derived.Test.YtllblgjhoeopjaaDoorVPureC
import Derived.Test.YtllblgjhoeopjaaDoorVGCorsMethodsx
namespace Go.Proofs.YtllblgjhoeopjaaDoor.Pure
open Go.RowKit Go.Proofs.YtllblgjhoeopjaaDoorW.PrintWords Go.Proofs.YtllblgjhoeopjaaDoorW.PrintLast Go.Proofs.YtllblgjhoeopjaaDoorW.PrintMore
open Go.Proofs.YtllblgjhoeopjaaDoor.GPre Go.Proofs.YtllblgjhoeopjaaDoor.GCorsMethods Go.Proofs.YtllblgjhoeopjaaDoor.GivC Go.Proofs.YtllblgjhoeopjaaDoor.GivPre Go.Proofs.YtllblgjhoeopjaaDoor.Bas Go.Proofs.YtllblgjhoeopjaaDoor.Giv
theorem within_f (a n : Int) (h : 1 ≤ n) (hn : n ≤ 4611686018427387904) : postilionkeep_Within.f a n = some (a % n) := by
  unfold postilionkeep_Within.f
  rw [if_neg (by omega), if_neg (by omega), ← tmod_emod a n h hn]
  split <;> rfl
theorem plain_f (m : List UInt8) (hs : List S27) (hn : hs.length ≤ 1000000) (ho : ∀ h ∈ hs, okW h) : Ev (fun k => cors_Plain.f k (B m) hs) (commons.any (· == m) && (unsafeS hs).isEmpty) := by
  unfold cors_Plain.f
  refine Ev.bind (common_f m) ?_
  by_cases g : commons.any (· == m) = true
  · rw [g]
    simp only [if_true, Bool.true_and]
    refine Ev.bind (unsafe_f hs hn ho) ?_
    refine Ev.congr (f := fun _ => some _) (fun k => ?_) (Ev.now _)
    congr 1
    rw [List.length_map]
    rcases unsafeS hs with _ | ⟨a, r⟩
    · rfl
    · rw [List.isEmpty_cons, beq_eq_false_iff_ne, List.length_cons]
      omega
  · rw [Bool.not_eq_true] at g
    rw [g, Bool.false_and]
    exact Ev.now _
theorem wakes13_f : Ev (fun k => postilionlaw13_wakes.f k) true := by
  unfold postilionlaw13_wakes.f
  have p1 := plain_f [71, 69, 84] [] (by decide) (fun h hm => by cases hm)
  have p2 := plain_f [80, 85, 84] [] (by decide) (fun h hm => by cases hm)
  rw [unsafe_nil] at p1 p2
  refine Ev.bind p1 ?_
  refine Ev.congr (fun k => if_pos (by decide)) ?_
  exact Ev.bind p2 (Ev.now _)
/-- preS, what is unsafe told. -/
def preU (code : Int) (hs : List S27) (origin : List UInt8) (creds : Bool) (method : List UInt8) (us : List (List UInt8)) : Bool :=
  decide (200 ≤ code) && decide (code ≤ 299) && checkS hs origin creds && (commons.any (· == method) || allowsS hs methodsL (lowerS method) creds) && us.all fun n => allowsS hs headsL n creds
theorem preS_U (code : Int) (hs : List S27) (origin : List UInt8) (creds : Bool) (method : List UInt8) (ls : List S27) (us : List (List UInt8)) (h : unsafeS ls = us) : preS code hs origin creds method ls = preU code hs origin creds method us := by
  subst h
  rfl
def xoneH : S27 := ⟨B [88, 45, 79, 110, 101], B [49]⟩
def xoneL : List UInt8 := [120, 45, 111, 110, 101]
theorem compact_one (x : List UInt8) : Lib.compact [x] = [x] := by
  simp [Lib.compact, Lib.compactUpTo, Lib.keeps]
theorem unsafe_one (h : S27) : unsafeS [h] = if simpleS h = true then [] else [lowerS h.f0.data.toList] := by
  unfold unsafeS rawS
  by_cases g : simpleS h = true
  · rw [if_pos g, List.filter_cons_of_neg (by rw [g]; decide)]
    simp [Lib.compact, Lib.compactUpTo]
  · rw [if_neg g, List.filter_cons_of_pos (by rw [Bool.not_eq_true] at g; rw [g]; rfl), List.filter_nil, List.map_singleton, List.mergeSort_singleton, compact_one]
theorem unsafe_xone : unsafeS [xoneH] = [xoneL] := by
  rw [unsafe_one, if_neg (by decide)]
  rfl
theorem okR_small (hs : List S27) (h : (decide (hs.length ≤ 1000) && hs.all fun h => decide (h.f0.size ≤ 1000) && decide (h.f1.size ≤ 1000)) = true) : okR hs := by
  rw [Bool.and_eq_true, decide_eq_true_eq, List.all_eq_true] at h
  refine ⟨by omega, fun x hx => ?_⟩
  have := h.2 x hx
  rw [Bool.and_eq_true, decide_eq_true_eq, decide_eq_true_eq] at this
  exact ⟨by omega, by omega⟩
def abL : List UInt8 := [104, 116, 116, 112, 115, 58, 47, 47, 97, 46, 98]
def cdL : List UInt8 := [104, 116, 116, 112, 115, 58, 47, 47, 99, 46, 100]
def mL (put star : Bool) : List UInt8 := [68, 69, 76, 69, 84, 69] ++ (if put then [44, 80, 85, 84] else []) ++ (if star then [44, 42] else [])
def hL (x all : Bool) : List UInt8 := [121] ++ (if x then [44, 120, 45, 111, 110, 101] else []) ++ (if all then [32, 44, 32, 42] else [])
def hs2 : List S27 := [⟨B originL, B abL⟩, ⟨B credsL, B trueL⟩]
def hs4 (put star x all : Bool) : List S27 := hs2 ++ [⟨B methodsL, B (mL put star)⟩, ⟨B headsL, B (hL x all)⟩]
def meths : List (List UInt8) := [[80, 85, 84], [80, 79, 83, 84], [68, 69, 76, 69, 84, 69]]
def mayS (m : List UInt8) (put star creds : Bool) : Bool := !(m == [80, 85, 84]) || put || (star && !creds)
set_option maxRecDepth 100000 in
theorem facts13 : ∀ put star x all creds : Bool, ∀ i : Fin 3, preU 200 (hs4 put star x all) abL creds (meths.getD i []) [] = mayS (meths.getD i []) put star creds ∧
    preU 200 (hs4 put star x all) abL creds (meths.getD i []) [xoneL] = (mayS (meths.getD i []) put star creds && (x || (all && !creds))) ∧ preU 200 (hs4 put star x all) cdL creds (meths.getD i []) [] = false := by decide +kernel
theorem okR_hs4 (put star x all : Bool) : okR (hs4 put star x all) := by
  apply okR_small
  cases put <;> cases star <;> cases x <;> cases all <;> decide
def acceptH : S27 := ⟨B [65, 99, 99, 101, 112, 116], B []⟩
theorem unsafe_accept : unsafeS [acceptH] = [] := by
  rw [unsafe_one, if_pos (by decide)]
theorem meth_len (i : Fin 3) : (meths.getD i []).length ≤ 1000 := by
  revert i
  decide
theorem methods_j4 (put star x all creds : Bool) (i : Fin 3) : Ev (fun k => postilionlaw13_CorsMethods.j4 k x all creds (B (meths.getD i [])) (mayS (meths.getD i []) put star creds) 200 (hs4 put star x all) (⟨#[]⟩ : ByteArray) false) true := by
  obtain ⟨f1, f2, f3⟩ := facts13 put star x all creds i
  have ho := okR_hs4 put star x all
  have hml := meth_len i
  have p1 := pre_f13 200 (hs4 put star x all) ho ⟨#[]⟩ false abL creds (meths.getD i []) (by omega) [] ⟨by decide, fun h hm => by cases hm⟩
  have p2 := pre_f13 200 (hs4 put star x all) ho ⟨#[]⟩ false abL creds (meths.getD i []) (by omega) [xoneH] (okR_small _ (by decide))
  have p3 := pre_f13 200 (hs4 put star x all) ho ⟨#[]⟩ false abL creds (meths.getD i []) (by omega) [acceptH] (okR_small _ (by decide))
  have p4 := pre_f13 200 (hs4 put star x all) ho ⟨#[]⟩ false cdL creds (meths.getD i []) (by omega) [] ⟨by decide, fun h hm => by cases hm⟩
  rw [preS_U _ _ _ _ _ _ _ unsafe_nil, f1] at p1
  rw [preS_U _ _ _ _ _ _ _ unsafe_xone, f2] at p2
  rw [preS_U _ _ _ _ _ _ _ unsafe_accept, f1] at p3
  rw [preS_U _ _ _ _ _ _ _ unsafe_nil, f3] at p4
  generalize meths.getD i [] = m at *
  generalize mayS m put star creds = may at *
  have tail : Ev (fun k => (cors_Pre.f k 200 (hs4 put star x all) ⟨#[]⟩ false (B abL) creds (B m) [acceptH]).bind fun t131 => (if (t131 == may) = true then ((cors_Pre.f k 200 (hs4 put star x all) ⟨#[]⟩ false (B cdL) creds (B m) []).bind fun t132 => (if t132 = true then (some false) else ((postilionlaw13_wakes.f k).bind fun t133 => (some t133)))) else (some false))) true := by
    refine Ev.bind p3 ?_
    refine Ev.congr (fun k => if_pos (by simp)) ?_
    refine Ev.bind p4 ?_
    refine Ev.congr (fun k => if_neg (by decide)) ?_
    exact Ev.bind wakes13_f (Ev.now _)
  refine Ev.step (fun k => by simp only [postilionlaw13_CorsMethods.j4]; exact rfl) ?_
  refine Ev.bind p1 ?_
  refine Ev.congr (fun k => if_pos (by simp)) ?_
  refine Ev.bind p2 ?_
  rcases may with _ | _
  · exact tail
  · rcases x with _ | _
    · rcases all with _ | _
      · exact tail
      · refine Ev.congr (fun k => ?_) tail
        rw [if_pos rfl, if_neg (by decide), if_pos rfl, if_pos (by simp)]
        rfl
    · exact tail
theorem methods_j3 (a0 : Int) (put star x all creds : Bool) : Ev (fun k => postilionlaw13_CorsMethods.j3 k a0 put star x all creds (B (mL put star)) (B (hL x all)) 200 hs2 (⟨#[]⟩ : ByteArray) false) true := by
  have b3 := Int.emod_nonneg a0 (show (3 : Int) ≠ 0 by decide)
  have c3 := Int.emod_lt_of_pos a0 (show (0 : Int) < 3 by decide)
  have e3 := within_f a0 3 (by decide) (by decide)
  obtain ⟨t, ht⟩ : ∃ t : Nat, (t : Int) = a0 % 3 := ⟨(a0 % 3).toNat, by omega⟩
  rw [← ht] at b3 c3 e3
  have ht3 : t < 3 := by omega
  have hj := methods_j4 put star x all creds ⟨t, ht3⟩
  have hr : rdOf ByteArray.empty (meths.map B) (t : Int) = B (meths.getD t []) := by
    unfold rdOf
    have : t < meths.length := ht3
    simp [List.getD_eq_getElem?_getD, List.getElem?_eq_getElem this]
  change Ev (fun k => postilionlaw13_CorsMethods.j4 k x all creds (B (meths.getD t [])) (mayS (meths.getD t []) put star creds) 200 (hs4 put star x all) (⟨#[]⟩ : ByteArray) false) true at hj
  generalize meths.getD t [] = m at *
  refine Ev.step (f := fun k => if (B m).toList = ([80, 85, 84] : List UInt8) then (if put = true then postilionlaw13_CorsMethods.j4 k x all creds (B m) true 200 (hs4 put star x all) ⟨#[]⟩ false else (if star = true then postilionlaw13_CorsMethods.j4 k x all creds (B m) (!creds) 200 (hs4 put star x all) ⟨#[]⟩ false else postilionlaw13_CorsMethods.j4 k x all creds (B m) false 200 (hs4 put star x all) ⟨#[]⟩ false)) else postilionlaw13_CorsMethods.j4 k x all creds (B m) true 200 (hs4 put star x all) ⟨#[]⟩ false) (fun k => by
    simp only [postilionlaw13_CorsMethods.j3]
    rw [Option.bind_some, if_pos (by simp [hs2])]
    show ((postilionkeep_Within.f a0 3).bind fun t120 => (if 0 ≤ t120 then (if t120 < 3 then (if (rdOf ByteArray.empty (meths.map B) t120).toList = ([80, 85, 84] : List UInt8) then (if put = true then postilionlaw13_CorsMethods.j4 k x all creds (rdOf ByteArray.empty (meths.map B) t120) true 200 (hs4 put star x all) ⟨#[]⟩ false else (if star = true then postilionlaw13_CorsMethods.j4 k x all creds (rdOf ByteArray.empty (meths.map B) t120) (!creds) 200 (hs4 put star x all) ⟨#[]⟩ false else postilionlaw13_CorsMethods.j4 k x all creds (rdOf ByteArray.empty (meths.map B) t120) false 200 (hs4 put star x all) ⟨#[]⟩ false)) else postilionlaw13_CorsMethods.j4 k x all creds (rdOf ByteArray.empty (meths.map B) t120) true 200 (hs4 put star x all) ⟨#[]⟩ false) else none) else none)) = _
    rw [e3, Option.bind_some, if_pos b3, if_pos c3, hr]) ?_
  rw [B_toList]
  by_cases g : m = [80, 85, 84]
  · have hm : mayS m put star creds = (put || (star && !creds)) := by
      unfold mayS
      rw [show (m == [80, 85, 84]) = true by rw [beq_iff_eq]; exact g]
      rfl
    rw [hm] at hj
    refine Ev.congr (fun k => if_pos g) ?_
    cases put
    · cases star
      · exact hj
      · exact hj
    · exact hj
  · have hm : mayS m put star creds = true := by
      unfold mayS
      rw [show (m == [80, 85, 84]) = false by rw [beq_eq_false_iff_ne]; exact g]
      rfl
    rw [hm] at hj
    exact Ev.congr (fun k => if_neg g) hj
theorem methods_j2 (a0 : Int) (put star x all creds : Bool) : Ev (fun k => postilionlaw13_CorsMethods.j2 k a0 put star x all creds (B (mL put star)) (B (hL x false)) 200 hs2 (⟨#[]⟩ : ByteArray) false) true := by
  have hj := methods_j3 a0 put star x all creds
  cases all
  · exact Ev.step (fun k => by simp only [postilionlaw13_CorsMethods.j2]; rw [if_neg (by decide)]) hj
  · refine Ev.step (fun k => by
      simp only [postilionlaw13_CorsMethods.j2]
      rw [if_pos trivial, if_pos (by cases x <;> decide), show B (hL x false) ++ (⟨#[32, 44, 32, 42]⟩ : ByteArray) = B (hL x true) by
        show B (hL x false) ++ B [32, 44, 32, 42] = _
        rw [B_append]
        cases x <;> rfl]) hj
theorem methods_j1 (a0 : Int) (put star x all creds : Bool) : Ev (fun k => postilionlaw13_CorsMethods.j1 k a0 put star x all creds (B (mL put star)) (B (hL false false)) 200 hs2 (⟨#[]⟩ : ByteArray) false) true := by
  have hj := methods_j2 a0 put star x all creds
  cases x
  · exact Ev.step (fun k => by simp only [postilionlaw13_CorsMethods.j1]; rw [if_neg (by decide)]) hj
  · refine Ev.step (fun k => by
      simp only [postilionlaw13_CorsMethods.j1]
      rw [if_pos trivial, if_pos (by decide), show B (hL false false) ++ (⟨#[44, 120, 45, 111, 110, 101]⟩ : ByteArray) = B (hL true false) by
        show B (hL false false) ++ B [44, 120, 45, 111, 110, 101] = _
        rw [B_append]
        rfl]) hj
theorem methods_j0 (a0 : Int) (put star x all creds : Bool) : Ev (fun k => postilionlaw13_CorsMethods.j0 k a0 put star x all creds (B (mL put false)) (B (hL false false)) 200 hs2 (⟨#[]⟩ : ByteArray) false) true := by
  have hj := methods_j1 a0 put star x all creds
  cases star
  · exact Ev.step (fun k => by simp only [postilionlaw13_CorsMethods.j0]; rw [if_neg (by decide)]) hj
  · refine Ev.step (fun k => by
      simp only [postilionlaw13_CorsMethods.j0]
      rw [if_pos trivial, if_pos (by cases put <;> decide), show B (mL put false) ++ (⟨#[44, 42]⟩ : ByteArray) = B (mL put true) by
        show B (mL put false) ++ B [44, 42] = _
        rw [B_append]
        cases put <;> rfl]) hj
theorem CorsMethods (a0 : Int) (a1 a2 a3 a4 a5 : Bool) (_w0 : (Lit.int .i64 a0).wf = true) : ∃ k, postilionlaw13_CorsMethods.f k a0 a1 a2 a3 a4 a5 = some true := by
  refine Ev.rounds ?_
  unfold postilionlaw13_CorsMethods.f
  have hj := methods_j0 a0 a1 a2 a3 a4 a5
  cases a1
  · exact Ev.congr (fun k => rfl) hj
  · refine Ev.congr (fun k => ?_) hj
    rw [Option.bind_some, if_pos rfl, if_pos (by decide)]
    show postilionlaw13_CorsMethods.j0 k a0 true a2 a3 a4 a5 (B [68, 69, 76, 69, 84, 69] ++ B [44, 80, 85, 84]) (B (hL false false)) 200 hs2 ⟨#[]⟩ false = _
    rw [B_append]
    rfl
end Go.Proofs.YtllblgjhoeopjaaDoor.Pure
