/- What the printed functions of CorsLaws answer, in plain words. -/
import Derived.Test.YtllblgjhoeopjaaDoorVPureC
import Derived.Test.YtllblgjhoeopjaaDoorVGCorsLawsx
namespace Go.Proofs.YtllblgjhoeopjaaDoor.Pure
open Go.RowKit Go.Proofs.YtllblgjhoeopjaaDoorW.PrintWords Go.Proofs.YtllblgjhoeopjaaDoorW.PrintLast Go.Proofs.YtllblgjhoeopjaaDoorW.PrintMore
open Go.Proofs.YtllblgjhoeopjaaDoor.GPre Go.Proofs.YtllblgjhoeopjaaDoor.GCorsLaws Go.Proofs.YtllblgjhoeopjaaDoor.GivC Go.Proofs.YtllblgjhoeopjaaDoor.GivPre Go.Proofs.YtllblgjhoeopjaaDoor.Bas Go.Proofs.YtllblgjhoeopjaaDoor.Giv
theorem within_f (a n : Int) (h : 1 ≤ n) (hn : n ≤ 4611686018427387904) : postilionkeep_Within.f a n = some (a % n) := by
  unfold postilionkeep_Within.f
  rw [if_neg (by omega), if_neg (by omega), ← tmod_emod a n h hn]
  split <;> rfl
theorem plain_f (m : List UInt8) (hs : List S27) (hn : hs.length ≤ 1000000) (ho : ∀ h ∈ hs, okW h) : Ev (fun k => cors_Plain.f k (B m) hs) (commons.any (· == m) && (unsafeS hs).isEmpty) := by
  unfold cors_Plain.f
  refine Ev.bind (common_f m) ?_
  by_cases g : commons.any (· == m) = true
  · rw [g]
    simp only [if_true, Bool.true_and]
    refine Ev.bind (unsafe_f hs hn ho) ?_
    refine Ev.congr (f := fun _ => some _) (fun k => ?_) (Ev.now _)
    congr 1
    rw [List.length_map]
    rcases unsafeS hs with _ | ⟨a, r⟩
    · rfl
    · rw [List.isEmpty_cons, beq_eq_false_iff_ne, List.length_cons]
      omega
  · rw [Bool.not_eq_true] at g
    rw [g, Bool.false_and]
    exact Ev.now _
theorem wakes13_f : Ev (fun k => postilionlaw13_wakes.f k) true := by
  unfold postilionlaw13_wakes.f
  have p1 := plain_f [71, 69, 84] [] (by decide) (fun h hm => by cases hm)
  have p2 := plain_f [80, 85, 84] [] (by decide) (fun h hm => by cases hm)
  rw [unsafe_nil] at p1 p2
  refine Ev.bind p1 ?_
  refine Ev.congr (fun k => if_pos (by decide)) ?_
  exact Ev.bind p2 (Ev.now _)
def abL : List UInt8 := [104, 116, 116, 112, 115, 58, 47, 47, 97, 46, 98]
def cdL : List UInt8 := [104, 116, 116, 112, 115, 58, 47, 47, 99, 46, 100]
/-- preS, what is unsafe told. -/
def preU (code : Int) (hs : List S27) (origin : List UInt8) (creds : Bool) (method : List UInt8) (us : List (List UInt8)) : Bool :=
  decide (200 ≤ code) && decide (code ≤ 299) && checkS hs origin creds && (commons.any (· == method) || allowsS hs methodsL (lowerS method) creds) && us.all fun n => allowsS hs headsL n creds
theorem preS_U (code : Int) (hs : List S27) (origin : List UInt8) (creds : Bool) (method : List UInt8) (ls : List S27) (us : List (List UInt8)) (h : unsafeS ls = us) : preS code hs origin creds method ls = preU code hs origin creds method us := by
  subst h
  rfl
def xoneH : S27 := ⟨B [88, 45, 79, 110, 101], B [49]⟩
def xoneL : List UInt8 := [120, 45, 111, 110, 101]
theorem compact_one (x : List UInt8) : Lib.compact [x] = [x] := by
  simp [Lib.compact, Lib.compactUpTo, Lib.keeps]
theorem unsafe_one (h : S27) : unsafeS [h] = if simpleS h = true then [] else [lowerS h.f0.data.toList] := by
  unfold unsafeS rawS
  by_cases g : simpleS h = true
  · rw [if_pos g, List.filter_cons_of_neg (by rw [g]; decide)]
    simp [Lib.compact, Lib.compactUpTo]
  · rw [if_neg g, List.filter_cons_of_pos (by rw [Bool.not_eq_true] at g; rw [g]; rfl), List.filter_nil, List.map_singleton, List.mergeSort_singleton, compact_one]
theorem unsafe_xone : unsafeS [xoneH] = [xoneL] := by
  rw [unsafe_one, if_neg (by decide)]
  rfl
theorem okR_small (hs : List S27) (h : (decide (hs.length ≤ 1000) && hs.all fun h => decide (h.f0.size ≤ 1000) && decide (h.f1.size ≤ 1000)) = true) : okR hs := by
  rw [Bool.and_eq_true, decide_eq_true_eq, List.all_eq_true] at h
  refine ⟨by omega, fun x hx => ?_⟩
  have := h.2 x hx
  rw [Bool.and_eq_true, decide_eq_true_eq, decide_eq_true_eq] at this
  exact ⟨by omega, by omega⟩
theorem bytes_l (x : Int) (n : Nat) (hn : n ≤ 140737488351232) : ∀ (d i : Nat) (xs : List Int), n - i = d → i ≤ n → xs.length = n →
    ∃ ys : List Int, ys.length = n ∧ Ev (fun k => postilionplay_Bytes.l0 k x xs (n : Int) (i : Int)) ys := by
  intro d
  induction d with
  | zero =>
    intro i xs hd hi hx
    exact ⟨xs, hx, Ev.step (f := fun _ => some xs) (fun k => by simp only [postilionplay_Bytes.l0]; rw [if_neg (by omega)]) (Ev.now _)⟩
  | succ d ih =>
    intro i xs hd hi hx
    have hw : wrap64 ((i : Int) + 1) = ((i + 1 : Nat) : Int) := by unfold wrap64; omega
    obtain ⟨ys, hy, he⟩ := ih (i + 1) (xs.set (i : Int).toNat ((wrap64 (x + (wrap64 ((i : Int) * (Go.bits .or .i64 (wrap64 (Int.tdiv x 5)) 1))))) % 256)) (by omega) (by omega) (by rw [List.length_set]; exact hx)
    exact ⟨ys, hy, Ev.step (f := fun k => postilionplay_Bytes.l0 k x _ (n : Int) ((i + 1 : Nat) : Int)) (fun k => by simp only [postilionplay_Bytes.l0]; rw [if_pos (by omega), if_pos (by omega), if_pos (by omega), hw]) he⟩
theorem bytes_f (x : Int) (n : Nat) (hn : n ≤ 140737488351232) : ∃ ys : List Int, ys.length = n ∧ Ev (fun k => postilionplay_Bytes.f k x (n : Int)) ys := by
  have hm : mx (n : Int) 0 = n := by unfold mx; omega
  obtain ⟨ys, hy, he⟩ := bytes_l x n hn n 0 (List.replicate n 0) (by omega) (by omega) (by simp)
  refine ⟨ys, hy, Ev.congr (f := fun k => postilionplay_Bytes.l0 k x (List.replicate n 0) (n : Int) ((0 : Nat) : Int)) (fun k => ?_) he⟩
  unfold postilionplay_Bytes.f
  rw [hm, if_pos (by omega), if_pos (by omega), Option.bind_some, List.length_replicate]
  rfl
def small (h : ByteArray × ByteArray) : Prop := h.1.size ≤ 100 ∧ h.2.size ≤ 100
def smallH (l : List S27) : Prop := ∀ h ∈ l, h.f0.size ≤ 100 ∧ h.f1.size ≤ 100
def smallB (l : List S27) : Bool := l.all fun h => decide (h.f0.size ≤ 100) && decide (h.f1.size ≤ 100)
theorem smallB_at {l : List S27} (h : smallB l = true) (i : Int) : small ((rd_T27 l i).f0, (rd_T27 l i).f1) := by
  unfold rd_T27
  rw [List.getD_eq_getElem?_getD]
  rcases hq : l[i.toNat]? with _ | x
  · exact ⟨by decide, by decide⟩
  · have := List.all_eq_true.1 h x (List.mem_of_getElem? hq)
    simpa [small] using this
theorem head_play (n : Int) : ∃ h : ByteArray × ByteArray, postilionplay_head.f n (⟨#[]⟩ : ByteArray) = some h ∧ small h := by
  unfold postilionplay_head.f
  simp only [Option.bind_some]
  generalize hy : ([_, _, _, _, _, _, _, _, _, _, _, _, _, _, _, _, _, _, _, _, _, _, _, _] : List S27) = y
  have hl : y.length = 24 := by rw [← hy]; rfl
  have hs : smallB y = true := by rw [← hy]; decide
  rw [hl]
  have b := Int.emod_nonneg n (show (24 : Int) ≠ 0 by decide)
  have c := Int.emod_lt_of_pos n (show (0 : Int) < 24 by decide)
  have e : postilionkeep_Within.f n ((24 : Nat) : Int) = some (n % 24) := within_f n 24 (by decide) (by decide)
  rw [e]
  simp only [Option.bind_some]
  rw [if_pos b, if_pos (by omega)]
  exact ⟨_, rfl, smallB_at hs _⟩
def goodR (x2 : ByteArray) (c : Int) (r : Int × List S27 × ByteArray × Bool) : Prop := r.2.1.length ≤ 10 ∧ smallH r.2.1 ∧ r.1 = c ∧ (r.2.2.1.size ≤ 60 ∨ r.2.2.1 = x2)
theorem reply_j2 (x0 : Int) (x2 : ByteArray) (c : Int) (h : List S27) (b : ByteArray) (t : Bool) (hl : h.length ≤ 10) (hs : smallH h) :
    ∃ r, goodR x2 c r ∧ Ev (fun k => postilionplay_Reply.j2 k x0 x2 c h b t) r := by
  have b1 := Int.emod_nonneg (wrap64 (Int.tdiv x0 5)) (show (7 : Int) ≠ 0 by decide)
  have c1 := Int.emod_lt_of_pos (wrap64 (Int.tdiv x0 5)) (show (0 : Int) < 7 by decide)
  have e1 := within_f (wrap64 (Int.tdiv x0 5)) 7 (by decide) (by decide)
  have e2 := within_f x0 50 (by decide) (by decide)
  generalize wrap64 (Int.tdiv x0 5) % 7 = t1 at *
  obtain ⟨n, hn, hr⟩ : ∃ n : Nat, n ≤ 60 ∧ rd [0, 5, 8, 3, 30, 49, 60] t1 = (n : Int) := by
    have : t1 = 0 ∨ t1 = 1 ∨ t1 = 2 ∨ t1 = 3 ∨ t1 = 4 ∨ t1 = 5 ∨ t1 = 6 := by omega
    rcases this with rfl | rfl | rfl | rfl | rfl | rfl | rfl
    · exact ⟨0, by decide, rfl⟩
    · exact ⟨5, by decide, rfl⟩
    · exact ⟨8, by decide, rfl⟩
    · exact ⟨3, by decide, rfl⟩
    · exact ⟨30, by decide, rfl⟩
    · exact ⟨49, by decide, rfl⟩
    · exact ⟨60, by decide, rfl⟩
  obtain ⟨ys, hy, he⟩ := bytes_f 99 n (by omega)
  by_cases g : x0 % 50 = 49
  · refine ⟨(c, h, x2, t), ⟨hl, hs, rfl, .inr rfl⟩, ?_⟩
    refine Ev.step (fun k => by simp only [postilionplay_Reply.j2]; exact rfl) ?_
    simp only [Option.bind_some, e1, e2]
    refine Ev.congr (fun k => by rw [if_pos b1, if_pos (by simp; omega), hr]) ?_
    refine Ev.bind he ?_
    simp only [if_pos g]
    exact Ev.now _
  · refine ⟨(c, h, strOfNums ys, t), ⟨hl, hs, rfl, .inl (by show (strOfNums ys).size ≤ 60; rw [strOfNums_size]; omega)⟩, ?_⟩
    refine Ev.step (fun k => by simp only [postilionplay_Reply.j2]; exact rfl) ?_
    simp only [Option.bind_some, e1, e2]
    refine Ev.congr (fun k => by rw [if_pos b1, if_pos (by simp; omega), hr]) ?_
    refine Ev.bind he ?_
    simp only [if_neg g]
    exact Ev.now _
theorem reply_j1 (x0 : Int) (x2 : ByteArray) (c : Int) (h : List S27) (b : ByteArray) (t : Bool) (hl : h.length ≤ 9) (hs : smallH h) :
    ∃ r, goodR x2 c r ∧ Ev (fun k => postilionplay_Reply.j1 k x0 x2 c h b t) r := by
  have e1 := within_f (wrap64 (Int.tdiv x0 7)) 3 (by decide) (by decide)
  by_cases g : wrap64 (Int.tdiv x0 7) % 3 > 0
  · obtain ⟨r, hr, he⟩ := reply_j2 x0 x2 c (h ++ [(⟨(⟨#[97, 108, 108, 111, 119, 45, 111, 114, 105, 103, 105, 110]⟩ : ByteArray), (⟨#[42]⟩ : ByteArray)⟩ : S27)]) b t (by rw [List.length_append]; simp only [List.length_singleton]; omega) (by
      intro x hx
      rcases List.mem_append.1 hx with hx | hx
      · exact hs x hx
      · have := List.mem_singleton.1 hx
        subst this
        exact ⟨by decide, by decide⟩)
    exact ⟨r, hr, Ev.step (f := fun k => postilionplay_Reply.j2 k x0 x2 c _ b t) (fun k => by simp only [postilionplay_Reply.j1, e1, Option.bind_some]; rw [if_pos g, if_pos (by omega)]) he⟩
  · obtain ⟨r, hr, he⟩ := reply_j2 x0 x2 c h b t (by omega) hs
    exact ⟨r, hr, Ev.step (f := fun k => postilionplay_Reply.j2 k x0 x2 c h b t) (fun k => by simp only [postilionplay_Reply.j1, e1, Option.bind_some]; rw [if_neg g]) he⟩
theorem reply_l0 (x0 : Int) (l1 : List Int) (x2 : ByteArray) (c : Int) (b : ByteArray) (t : Bool) (_hL : l1.length ≤ 140737488351232) : ∀ (d i : Nat) (h : List S27), 6 - i = d → i ≤ l1.length → h.length ≤ i → i ≤ 6 → smallH h →
    ∃ r, goodR x2 c r ∧ Ev (fun k => postilionplay_Reply.l0 k x0 l1 x2 (i : Int) c h b t) r := by
  have e1 := within_f (wrap64 (Int.tdiv x0 21)) 6 (by decide) (by decide)
  have c1 := Int.emod_lt_of_pos (wrap64 (Int.tdiv x0 21)) (show (0 : Int) < 6 by decide)
  generalize wrap64 (Int.tdiv x0 21) % 6 = m at *
  intro d
  induction d with
  | zero =>
    intro i h hd hi hl h6 hs
    obtain ⟨r, hr, he⟩ := reply_j1 x0 x2 c h b t (by omega) hs
    refine ⟨r, hr, Ev.step (f := fun k => postilionplay_Reply.j1 k x0 x2 c h b t) (fun k => ?_) he⟩
    simp only [postilionplay_Reply.l0, e1, Option.bind_some]
    by_cases g : (i : Int) < (l1.length : Int)
    · rw [if_pos g, if_neg (by omega)]
    · rw [if_neg g]
  | succ d ih =>
    intro i h hd hi hl h6 hs
    by_cases g : (i : Int) < (l1.length : Int)
    · by_cases g2 : (i : Int) < m
      · obtain ⟨hd2, e2, hs2⟩ := head_play (rd l1 (i : Int))
        obtain ⟨r, hr, he⟩ := ih (i + 1) (h ++ [⟨hd2.1, hd2.2⟩]) (by omega) (by omega) (by rw [List.length_append]; simp only [List.length_singleton]; omega) (by omega) (by
          intro x hx
          rcases List.mem_append.1 hx with hx | hx
          · exact hs x hx
          · have := List.mem_singleton.1 hx
            subst this
            exact hs2)
        have hw : wrap64 ((i : Int) + 1) = ((i + 1 : Nat) : Int) := w64 (by omega) (by omega) (by omega)
        exact ⟨r, hr, Ev.step (f := fun k => postilionplay_Reply.l0 k x0 l1 x2 ((i + 1 : Nat) : Int) c _ b t) (fun k => by
          simp only [postilionplay_Reply.l0, e1, e2, Option.bind_some]
          rw [if_pos g, if_pos g2, if_pos (by omega), if_pos (by omega), hw]) he⟩
      · obtain ⟨r, hr, he⟩ := reply_j1 x0 x2 c h b t (by omega) hs
        exact ⟨r, hr, Ev.step (f := fun k => postilionplay_Reply.j1 k x0 x2 c h b t) (fun k => by
          simp only [postilionplay_Reply.l0, e1, Option.bind_some]
          rw [if_pos g, if_neg g2]) he⟩
    · obtain ⟨r, hr, he⟩ := reply_j1 x0 x2 c h b t (by omega) hs
      exact ⟨r, hr, Ev.step (f := fun k => postilionplay_Reply.j1 k x0 x2 c h b t) (fun k => by
        simp only [postilionplay_Reply.l0, e1, Option.bind_some]
        rw [if_neg g]) he⟩
theorem reply_play (x0 : Int) (l1 : List Int) (x2 : ByteArray) (hL : l1.length ≤ 140737488351232) : ∃ c r, 100 ≤ c ∧ c ≤ 599 ∧ goodR x2 c r ∧ Ev (fun k => postilionplay_Reply.f k x0 l1 x2) r := by
  have b1 := Int.emod_nonneg x0 (show (21 : Int) ≠ 0 by decide)
  have c1 := Int.emod_lt_of_pos x0 (show (0 : Int) < 21 by decide)
  have e1 := within_f x0 21 (by decide) (by decide)
  have hc : 100 ≤ rd [200, 200, 200, 206, 301, 302, 303, 307, 308, 404, 416, 429, 500, 503, 204, 100, 599, 400, 201, 416, 206] (x0 % 21) ∧ rd [200, 200, 200, 206, 301, 302, 303, 307, 308, 404, 416, 429, 500, 503, 204, 100, 599, 400, 201, 416, 206] (x0 % 21) ≤ 599 := by
    obtain ⟨n, hn⟩ : ∃ n : Nat, (n : Int) = x0 % 21 := ⟨(x0 % 21).toNat, by omega⟩
    rw [← hn] at c1 ⊢
    have hn2 : n < 21 := by omega
    have : ∀ n : Fin 21, 100 ≤ rd [200, 200, 200, 206, 301, 302, 303, 307, 308, 404, 416, 429, 500, 503, 204, 100, 599, 400, 201, 416, 206] ((n.val : Nat) : Int) ∧ rd [200, 200, 200, 206, 301, 302, 303, 307, 308, 404, 416, 429, 500, 503, 204, 100, 599, 400, 201, 416, 206] ((n.val : Nat) : Int) ≤ 599 := by decide
    exact this ⟨n, hn2⟩
  obtain ⟨r, hr, he⟩ := reply_l0 x0 l1 x2 (rd [200, 200, 200, 206, 301, 302, 303, 307, 308, 404, 416, 429, 500, 503, 204, 100, 599, 400, 201, 416, 206] (x0 % 21)) (⟨#[]⟩ : ByteArray) false hL 6 0 [] (by omega) (by omega) (by simp) (by omega) (fun x hx => by cases hx)
  refine ⟨_, r, hc.1, hc.2, hr, Ev.congr (fun k => ?_) he⟩
  unfold postilionplay_Reply.f
  simp only [e1, Option.bind_some]
  rw [if_pos b1, if_pos (by simp; omega)]
  rfl
theorem smallB_rd {l : List S27} (h : smallB l = true) (i : Int) : (rd_T27 l i).f0.size ≤ 100 ∧ (rd_T27 l i).f1.size ≤ 100 := smallB_at h i
theorem smallH_snoc {acc : List S27} (hs : smallH acc) {x : S27} (hx : x.f0.size ≤ 100 ∧ x.f1.size ≤ 100) : smallH (acc ++ [x]) := by
  intro y hy
  rcases List.mem_append.1 hy with hy | hy
  · exact hs y hy
  · rw [List.mem_singleton.1 hy]
    exact hx
theorem heads_j1 (x0 : Int) (x6 : List S27) (h6 : smallB x6 = true) (hl6 : 1 ≤ x6.length) (hl6' : x6.length ≤ 100) (acc : List S27) (hl : acc.length ≤ 3) (hs : smallH acc) :
    ∃ r, r.length ≤ 6 ∧ smallH r ∧ Ev (fun k => postilionplay_Heads.j1 k x0 x6 acc) r := by
  have e1 := within_f (wrap64 (Int.tdiv x0 9)) 20 (by decide) (by decide)
  have e2 := within_f x0 (x6.length : Int) (by omega) (by omega)
  have b2 := Int.emod_nonneg x0 (show (x6.length : Int) ≠ 0 by omega)
  have c2 := Int.emod_lt_of_pos x0 (show (0 : Int) < (x6.length : Int) by omega)
  generalize wrap64 (Int.tdiv x0 9) % 20 = m at *
  by_cases g1 : m = 18
  · refine ⟨acc ++ [⟨(rd_T27 x6 (x0 % (x6.length : Int))).f0, (rd_T27 x6 (x0 % (x6.length : Int))).f1⟩], by rw [List.length_append, List.length_singleton]; omega, smallH_snoc hs (smallB_rd h6 _), ?_⟩
    exact Ev.step (f := fun _ => some _) (fun k => by
      simp only [postilionplay_Heads.j1, e1, Option.bind_some]
      rw [if_pos g1, e2, Option.bind_some, if_pos b2, if_pos c2, if_pos (by omega)]) (Ev.now _)
  · by_cases g2 : m = 19
    · refine ⟨acc ++ acc, by rw [List.length_append]; omega, fun y hy => ?_, ?_⟩
      · rcases List.mem_append.1 hy with hy | hy
        · exact hs y hy
        · exact hs y hy
      · exact Ev.step (f := fun _ => some _) (fun k => by
          simp only [postilionplay_Heads.j1, e1, Option.bind_some]
          rw [if_neg g1, if_pos g2, if_pos (by omega)]) (Ev.now _)
    · exact ⟨acc, by omega, hs, Ev.step (f := fun _ => some _) (fun k => by
        simp only [postilionplay_Heads.j1, e1, Option.bind_some]
        rw [if_neg g1, if_neg g2]) (Ev.now _)⟩
theorem heads_l0 (x0 : Int) (x5 x6 : List S27) (h5 : smallB x5 = true) (hl5 : 1 ≤ x5.length) (hl5' : x5.length ≤ 100) (h6 : smallB x6 = true) (hl6 : 1 ≤ x6.length) (hl6' : x6.length ≤ 100) : ∀ (d i : Nat) (acc : List S27), 2 - i = d → i ≤ 2 → acc.length ≤ i → smallH acc →
    ∃ r, r.length ≤ 6 ∧ smallH r ∧ Ev (fun k => postilionplay_Heads.l0 k x0 x5 x6 acc (i : Int)) r := by
  have e1 := within_f x0 4 (by decide) (by decide)
  generalize x0 % 4 = m at *
  intro d
  induction d with
  | zero =>
    intro i acc hd hi hl hs
    obtain ⟨r, r1, r2, he⟩ := heads_j1 x0 x6 h6 hl6 hl6' acc (by omega) hs
    refine ⟨r, r1, r2, Ev.step (f := fun k => postilionplay_Heads.j1 k x0 x6 acc) (fun k => ?_) he⟩
    simp only [postilionplay_Heads.l0, e1, Option.bind_some]
    by_cases g : (i : Int) < m
    · rw [if_pos g, if_neg (by omega)]
    · rw [if_neg g]
  | succ d ih =>
    intro i acc hd hi hl hs
    by_cases g : (i : Int) < m
    · have hw : wrap64 ((i : Int) + 1) = ((i + 1 : Nat) : Int) := w64 (by omega) (by omega) (by omega)
      generalize hq : wrap64 ((wrap64 (Int.tdiv x0 4)) + (wrap64 ((i : Int) * (wrap64 (1 + (Int.tmod (wrap64 (Int.tdiv x0 64)) 5)))))) = q
      have e2 := within_f q (x5.length : Int) (by omega) (by omega)
      have b2 := Int.emod_nonneg q (show (x5.length : Int) ≠ 0 by omega)
      have c2 := Int.emod_lt_of_pos q (show (0 : Int) < (x5.length : Int) by omega)
      obtain ⟨r, r1, r2, he⟩ := ih (i + 1) (acc ++ [⟨(rd_T27 x5 (q % (x5.length : Int))).f0, (rd_T27 x5 (q % (x5.length : Int))).f1⟩]) (by omega) (by omega) (by rw [List.length_append, List.length_singleton]; omega) (smallH_snoc hs (smallB_rd h5 _))
      exact ⟨r, r1, r2, Ev.step (fun k => by
        simp only [postilionplay_Heads.l0, e1, Option.bind_some]
        rw [if_pos g, if_pos (by omega), hq, e2, Option.bind_some, if_pos b2, if_pos c2, if_pos (by omega), hw]) he⟩
    · obtain ⟨r, r1, r2, he⟩ := heads_j1 x0 x6 h6 hl6 hl6' acc (by omega) hs
      exact ⟨r, r1, r2, Ev.step (f := fun k => postilionplay_Heads.j1 k x0 x6 acc) (fun k => by
        simp only [postilionplay_Heads.l0, e1, Option.bind_some]
        rw [if_neg g]) he⟩
theorem heads_play (x0 : Int) : ∃ r, r.length ≤ 6 ∧ smallH r ∧ Ev (fun k => postilionplay_Heads.f k x0 (⟨#[]⟩ : ByteArray)) r := by
  unfold postilionplay_Heads.f
  exact heads_l0 x0 _ _ (by decide) (by decide) (by decide) (by decide) (by decide) (by decide) 2 0 [] (by omega) (by omega) (by simp) (fun x hx => by cases hx)
theorem small_okR {hs : List S27} (hl : hs.length ≤ 1000) (h : smallH hs) : okR hs := ⟨by omega, fun x hx => by have := h x hx; exact ⟨by omega, by omega⟩⟩
def origins : List (List UInt8) := [[104, 116, 116, 112, 115, 58, 47, 47, 97, 46, 98], [104, 116, 116, 112, 58, 47, 47, 99, 46, 100], [110, 117, 108, 108]]
def methods4 : List (List UInt8) := [[71, 69, 84], [80, 79, 83, 84], [80, 85, 84], [68, 69, 76, 69, 84, 69]]
def starH : List S27 := [⟨B [65, 108, 108, 111, 119, 45, 79, 114, 105, 103, 105, 110], B [42]⟩, ⟨B credsL, B trueL⟩, ⟨B methodsL, B [42]⟩, ⟨B headsL, B [42]⟩]
def ownH (o : List UInt8) : List S27 := [⟨B originL, B o⟩, ⟨B credsL, B trueL⟩]
set_option maxRecDepth 100000 in
theorem factsL : ∀ t : Fin 3, checkS starH (origins.getD t []) true = false ∧ checkS starH (origins.getD t []) false = true ∧ checkS (ownH (origins.getD t [])) (origins.getD t []) true = true ∧ checkS (ownH (origins.getD t [])) (origins.getD t [] ++ [120]) true = false ∧
    preU 204 (ownH (origins.getD t [])) (origins.getD t []) true [80, 79, 83, 84] [] = true ∧ preU 204 (ownH (origins.getD t [])) (origins.getD t []) true [80, 85, 84] [] = false ∧ (origins.getD t []).length ≤ 100 ∧ okR (ownH (origins.getD t [])) := by
  intro t
  match t with
  | 0 => exact ⟨by decide +kernel, by decide +kernel, by decide +kernel, by decide +kernel, by decide +kernel, by decide +kernel, by decide, okR_small _ (by decide)⟩
  | 1 => exact ⟨by decide +kernel, by decide +kernel, by decide +kernel, by decide +kernel, by decide +kernel, by decide +kernel, by decide, okR_small _ (by decide)⟩
  | 2 => exact ⟨by decide +kernel, by decide +kernel, by decide +kernel, by decide +kernel, by decide +kernel, by decide +kernel, by decide, okR_small _ (by decide)⟩
theorem star_allows (name n : List UInt8) (h : (listS (valS name starH)).any (· == [42]) = true) : allowsS starH name n false = true := by
  unfold allowsS
  rw [h]
  simp
set_option maxRecDepth 100000 in
theorem star_lists : (listS (valS methodsL starH)).any (· == [42]) = true ∧ (listS (valS headsL starH)).any (· == [42]) = true := by decide +kernel
theorem star_pre (o m : List UInt8) (ls : List S27) (hc : checkS starH o false = true) : preS 200 starH o false m ls = true := by
  unfold preS
  rw [hc, star_allows methodsL (lowerS m) star_lists.1]
  simp only [Bool.or_true, Bool.and_true]
  rw [show (decide ((200 : Int) ≤ 200) && decide ((200 : Int) ≤ 299)) = true by decide, Bool.true_and, List.all_eq_true]
  exact fun n _ => star_allows headsL n star_lists.2
theorem check_weak (hs : List S27) (o : List UInt8) (h : checkS hs o true = true) : checkS hs o false = true := by
  unfold checkS at h ⊢
  by_cases c1 : (getS originL hs).2 = true
  · rw [if_pos c1] at h ⊢
    by_cases c2 : valS originL hs = o
    · rw [if_pos c2]
      rfl
    · rw [if_neg c2] at h ⊢
      by_cases c3 : valS originL hs = [42]
      · rw [if_pos c3]
        rfl
      · rw [if_neg c3] at h
        cases h
  · rw [if_neg c1] at h
    cases h
theorem pre_check (code : Int) (hs : List S27) (o : List UInt8) (creds : Bool) (m : List UInt8) (ls : List S27) (h : preS code hs o creds m ls = true) : checkS hs o creds = true ∧ 200 ≤ code ∧ code ≤ 299 := by
  unfold preS at h
  simp only [Bool.and_eq_true, decide_eq_true_eq] at h
  exact ⟨h.1.1.2, h.1.1.1.1, h.1.1.1.2⟩
theorem plain_pre (code : Int) (hs : List S27) (o : List UInt8) (creds : Bool) (m : List UInt8) (ls : List S27) (hc : checkS hs o creds = true) (hp : (commons.any (· == m) && (unsafeS ls).isEmpty) = true) (h1 : 200 ≤ code) (h2 : code < 300) : preS code hs o creds m ls = true := by
  rw [Bool.and_eq_true, List.isEmpty_iff] at hp
  unfold preS
  rw [hc, hp.1, hp.2, decide_eq_true h1, decide_eq_true (by omega : code ≤ 299)]
  rfl
theorem laws_end (ls : List S27) (hl : okR ls) (t : Fin 3) (m : List UInt8) (hm : m.length ≤ 1000) (x35 : List Bool) (n i : Int) (hi : ¬ i < n) (code : Int) (hs : List S27) (ho : okR hs) (b : ByteArray) (t4 : Bool) :
    Ev (fun k => postilionlaw13_CorsLaws.l0 k ls (B (origins.getD t [])) (B m) x35 n i code hs b t4) true := by
  obtain ⟨f1, f2, f3, f4, f5, f6, f7, f8⟩ := factsL t
  generalize origins.getD t [] = o at *
  have okS : okR starH := okR_small _ (by decide)
  have c1 := check_f code hs ho b t4 o true
  have c2 := check_f code hs ho b t4 o false
  have s1 := check_f 200 starH okS ⟨#[]⟩ false o true
  have s2 := check_f 200 starH okS ⟨#[]⟩ false o false
  have s3 := pre_f13 200 starH okS ⟨#[]⟩ false o false m (by omega) ls hl
  have o1 := check_f 204 (ownH o) f8 ⟨#[]⟩ false o true
  have o2 := check_f 204 (ownH o) f8 ⟨#[]⟩ false (o ++ [120]) true
  have o3 := pre_f13 204 (ownH o) f8 ⟨#[]⟩ false o true [80, 79, 83, 84] (by decide) [] ⟨by decide, fun h hm => by cases hm⟩
  have o4 := pre_f13 204 (ownH o) f8 ⟨#[]⟩ false o true [80, 85, 84] (by decide) [] ⟨by decide, fun h hm => by cases hm⟩
  rw [f1] at s1
  rw [f2] at s2
  rw [star_pre o m ls f2] at s3
  rw [f3] at o1
  rw [f4] at o2
  rw [preS_U _ _ _ _ _ _ _ unsafe_nil, f5] at o3
  rw [preS_U _ _ _ _ _ _ _ unsafe_nil, f6] at o4
  have tail : Ev (fun k => (cors_Check.f k 200 starH ⟨#[]⟩ false (B o) true).bind fun t218 => (if t218 = true then (some false) else ((cors_Check.f k 200 starH ⟨#[]⟩ false (B o) false).bind fun t219 => (if t219 = true then ((cors_Pre.f k 200 starH ⟨#[]⟩ false (B o) false (B m) ls).bind fun t220 => (if t220 = true then ((cors_Check.f k 204 (ownH o) ⟨#[]⟩ false (B o) true).bind fun t221 => (if t221 = true then (if (B o).size + 1 ≤ 9223372036854775807 then ((cors_Check.f k 204 (ownH o) ⟨#[]⟩ false (B o ++ (⟨#[120]⟩ : ByteArray)) true).bind fun t222 => (if t222 = true then (some false) else ((cors_Pre.f k 204 (ownH o) ⟨#[]⟩ false (B o) true (B [80, 79, 83, 84]) []).bind fun t223 => (if t223 = true then ((cors_Pre.f k 204 (ownH o) ⟨#[]⟩ false (B o) true (B [80, 85, 84]) []).bind fun t224 => (if t224 = true then (some false) else ((postilionlaw13_wakes.f k).bind fun t225 => (some t225)))) else (some false))))) else (none)) else (some false))) else (some false))) else (some false))))) true := by
    refine Ev.bind s1 ?_
    refine Ev.congr (fun k => if_neg (by decide)) ?_
    refine Ev.bind s2 ?_
    refine Ev.congr (fun k => if_pos rfl) ?_
    refine Ev.bind s3 ?_
    refine Ev.congr (fun k => if_pos rfl) ?_
    refine Ev.bind o1 ?_
    refine Ev.congr (fun k => by rw [if_pos rfl, if_pos (by rw [B_size]; omega), show B o ++ (⟨#[120]⟩ : ByteArray) = B (o ++ [120]) from B_append o [120]]) ?_
    refine Ev.bind o2 ?_
    refine Ev.congr (fun k => if_neg (by decide)) ?_
    refine Ev.bind o3 ?_
    refine Ev.congr (fun k => if_pos rfl) ?_
    refine Ev.bind o4 ?_
    refine Ev.congr (fun k => if_neg (by decide)) ?_
    exact Ev.bind wakes13_f (Ev.now _)
  refine Ev.step (fun k => by
    simp only [postilionlaw13_CorsLaws.l0]
    rw [if_neg hi]) ?_
  simp only [Option.bind_some]
  refine Ev.bind c1 ?_
  by_cases g : checkS hs o true = true
  · refine Ev.congr (fun k => if_pos g) ?_
    refine Ev.bind c2 ?_
    exact Ev.congr (fun k => if_pos (check_weak hs o g)) tail
  · exact Ev.congr (fun k => if_neg g) tail
theorem laws_l (ls : List S27) (hl : okR ls) (t : Fin 3) (m : List UInt8) (hm : m.length ≤ 1000) (code : Int) (hs : List S27) (ho : okR hs) (b : ByteArray) (t4 : Bool) : ∀ (d i : Nat), 2 - i = d → i ≤ 2 →
    Ev (fun k => postilionlaw13_CorsLaws.l0 k ls (B (origins.getD t [])) (B m) [true, false] 2 (i : Int) code hs b t4) true := by
  intro d
  induction d with
  | zero =>
    intro i hd hi
    exact laws_end ls hl t m hm _ 2 (i : Int) (by omega) code hs ho b t4
  | succ d ih =>
    intro i hd hi
    have hw : wrap64 ((i : Int) + 1) = ((i + 1 : Nat) : Int) := w64 (by omega) (by omega) (by omega)
    have hn := ih (i + 1) (by omega) (by omega)
    obtain ⟨_, _, _, _, _, _, f7, _⟩ := factsL t
    generalize origins.getD t [] = o at *
    generalize hcr : rdOf false [true, false] (i : Int) = creds
    have c1 := check_f code hs ho b t4 o creds
    have c2 := pre_f13 code hs ho b t4 o creds m (by omega) ls hl
    have hj : Ev (fun k => postilionlaw13_CorsLaws.j1 k ls (B o) (B m) (checkS hs o creds) (preS code hs o creds m ls) [true, false] 2 (i : Int) false code hs b t4) true := by
      refine Ev.step (fun k => by
        simp only [postilionlaw13_CorsLaws.j1]
        rw [if_neg (by decide), hw]) ?_
      by_cases g : checkS hs o creds = true
      · refine Ev.congr (fun k => if_pos g) ?_
        refine Ev.bind (plain_f m ls hl.1 hl.2) ?_
        by_cases gp : (commons.any (· == m) && (unsafeS ls).isEmpty) = true
        · refine Ev.congr (fun k => if_pos gp) ?_
          by_cases g1 : code ≥ 200
          · refine Ev.congr (fun k => if_pos g1) ?_
            by_cases g2 : code < 300
            · refine Ev.congr (fun k => by rw [if_pos g2, if_pos (plain_pre code hs o creds m ls g gp g1 g2)]) hn
            · exact Ev.congr (fun k => if_neg g2) hn
          · exact Ev.congr (fun k => if_neg g1) hn
        · exact Ev.congr (fun k => if_neg gp) hn
      · exact Ev.congr (fun k => if_neg g) hn
    refine Ev.step (fun k => by
      simp only [postilionlaw13_CorsLaws.l0]
      rw [if_pos (by omega), if_pos (by omega), if_pos (by simp only [List.length_cons, List.length_nil]; omega), hcr]) ?_
    refine Ev.bind c1 ?_
    refine Ev.bind c2 ?_
    by_cases g : preS code hs o creds m ls = true
    · obtain ⟨g1, g2, g3⟩ := pre_check code hs o creds m ls g
      exact Ev.congr (fun k => by rw [if_pos g, if_pos g1, if_neg (by omega), decide_eq_false (by omega)]) hj
    · exact Ev.congr (fun k => if_neg g) hj
theorem CorsLaws (a0 a1 : Int) (l2 : List Int) (a3 : Int) (_w0 : (Lit.int .i64 a0).wf = true) (_w1 : (Lit.int .i64 a1).wf = true) (_m2 : l2.length ≤ maxLen) (_b2 : l2.length * 8 ≤ 140737488351232) (_w2 : ∀ x ∈ l2, (Lit.int .i64 x).wf = true) (_w3 : (Lit.int .i64 a3).wf = true) :
    ∃ k, postilionlaw13_CorsLaws.f k a0 a1 l2 a3 = some true := by
  refine Ev.rounds ?_
  obtain ⟨c, r, _, _, ⟨g1, g2, g3, g4⟩, he⟩ := reply_play a0 l2 (⟨#[]⟩ : ByteArray) (by omega)
  obtain ⟨ls, p1, p2, hp⟩ := heads_play a1
  unfold postilionlaw13_CorsLaws.f
  refine Ev.bind he ?_
  refine Ev.congr (f := fun k => (postilionplay_Heads.f k a1 (⟨#[]⟩ : ByteArray)).bind fun t180 => _) (fun k => rfl) ?_
  refine Ev.bind hp ?_
  have b3 := Int.emod_nonneg a3 (show (3 : Int) ≠ 0 by decide)
  have c3 := Int.emod_lt_of_pos a3 (show (0 : Int) < 3 by decide)
  have e3 := within_f a3 3 (by decide) (by decide)
  obtain ⟨t, ht⟩ : ∃ t : Nat, (t : Int) = a3 % 3 := ⟨(a3 % 3).toNat, by omega⟩
  rw [← ht] at b3 c3 e3
  have ht3 : t < 3 := by omega
  have b4 := Int.emod_nonneg a1 (show (4 : Int) ≠ 0 by decide)
  have c4 := Int.emod_lt_of_pos a1 (show (0 : Int) < 4 by decide)
  have e4 := within_f a1 4 (by decide) (by decide)
  obtain ⟨u, hu⟩ : ∃ u : Nat, (u : Int) = a1 % 4 := ⟨(a1 % 4).toNat, by omega⟩
  rw [← hu] at b4 c4 e4
  have hu4 : u < 4 := by omega
  have r3 : rdOf ByteArray.empty (origins.map B) (t : Int) = B (origins.getD t []) := by
    unfold rdOf
    have : t < origins.length := ht3
    simp [List.getD_eq_getElem?_getD, List.getElem?_eq_getElem this]
  have r4 : rdOf ByteArray.empty (methods4.map B) (u : Int) = B (methods4.getD u []) := by
    unfold rdOf
    have : u < methods4.length := hu4
    simp [List.getD_eq_getElem?_getD, List.getElem?_eq_getElem this]
  have hm : ∀ u : Fin 4, (methods4.getD u []).length ≤ 1000 := by decide
  have hml := hm ⟨u, hu4⟩
  change (methods4.getD u []).length ≤ 1000 at hml
  have hfin := laws_l ls (small_okR (by omega) p2) ⟨t, ht3⟩ (methods4.getD u []) hml r.1 r.2.1 (small_okR (by omega) g2) r.2.2.1 r.2.2.2 2 0 (by omega) (by omega)
  refine Ev.congr (fun k => ?_) hfin
  rw [Option.bind_some]
  show ((postilionkeep_Within.f a3 3).bind fun t186 => (if 0 ≤ t186 then (if t186 < 3 then ((postilionkeep_Within.f a1 4).bind fun t191 => (if 0 ≤ t191 then (if t191 < 4 then (postilionlaw13_CorsLaws.l0 k ls (rdOf ByteArray.empty (origins.map B) t186) (rdOf ByteArray.empty (methods4.map B) t191) [true, false] 2 0 r.1 r.2.1 r.2.2.1 r.2.2.2) else none) else none)) else none) else none)) = _
  rw [e3, Option.bind_some, if_pos b3, if_pos c3, e4, Option.bind_some, if_pos b4, if_pos c4, r3, r4]
  rfl
end Go.Proofs.YtllblgjhoeopjaaDoor.Pure
