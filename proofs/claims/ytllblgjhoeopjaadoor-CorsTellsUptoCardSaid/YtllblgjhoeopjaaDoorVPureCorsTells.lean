/- What the printed functions of CorsTells answer, in plain words. -/
import Derived.Test.YtllblgjhoeopjaaDoorVPureC
import Derived.Test.YtllblgjhoeopjaaDoorVGivUns
import Derived.Test.YtllblgjhoeopjaaDoorVGCorsTellsx
import Derived.Lib.SlicesCompact
import Derived.Sort.Walk0
namespace Go.Proofs.YtllblgjhoeopjaaDoor.Pure
open Go.RowKit Go.Proofs.YtllblgjhoeopjaaDoorW.PrintWords Go.Proofs.YtllblgjhoeopjaaDoorW.PrintLast Go.Proofs.YtllblgjhoeopjaaDoorW.PrintMore
open Go.Proofs.YtllblgjhoeopjaaDoor.GPre Go.Proofs.YtllblgjhoeopjaaDoor.GUnsafe Go.Proofs.YtllblgjhoeopjaaDoor.GivUns Go.Proofs.YtllblgjhoeopjaaDoor.GCorsTells Go.Proofs.YtllblgjhoeopjaaDoor.GivC Go.Proofs.YtllblgjhoeopjaaDoor.GivPre Go.Proofs.YtllblgjhoeopjaaDoor.Bas Go.Proofs.YtllblgjhoeopjaaDoor.Giv
theorem within_f (a n : Int) (h : 1 ≤ n) (hn : n ≤ 4611686018427387904) : postilionkeep_Within.f a n = some (a % n) := by
  unfold postilionkeep_Within.f
  rw [if_neg (by omega), if_neg (by omega), ← tmod_emod a n h hn]
  split <;> rfl
theorem plain_f (m : List UInt8) (hs : List S27) (hn : hs.length ≤ 1000000) (ho : ∀ h ∈ hs, okW h) : Ev (fun k => cors_Plain.f k (B m) hs) (commons.any (· == m) && (unsafeS hs).isEmpty) := by
  unfold cors_Plain.f
  refine Ev.bind (common_f m) ?_
  by_cases g : commons.any (· == m) = true
  · rw [g]
    simp only [if_true, Bool.true_and]
    refine Ev.bind (unsafe_f hs hn ho) ?_
    refine Ev.congr (f := fun _ => some _) (fun k => ?_) (Ev.now _)
    congr 1
    rw [List.length_map]
    rcases unsafeS hs with _ | ⟨a, r⟩
    · rfl
    · rw [List.isEmpty_cons, beq_eq_false_iff_ne, List.length_cons]
      omega
  · rw [Bool.not_eq_true] at g
    rw [g, Bool.false_and]
    exact Ev.now _
theorem wakes13_f : Ev (fun k => postilionlaw13_wakes.f k) true := by
  unfold postilionlaw13_wakes.f
  have p1 := plain_f [71, 69, 84] [] (by decide) (fun h hm => by cases hm)
  have p2 := plain_f [80, 85, 84] [] (by decide) (fun h hm => by cases hm)
  rw [unsafe_nil] at p1 p2
  refine Ev.bind p1 ?_
  refine Ev.congr (fun k => if_pos (by decide)) ?_
  exact Ev.bind p2 (Ev.now _)
theorem sames_l (l : List ByteArray) (hl : l.length ≤ 140737488351232) : ∀ (d i : Nat), l.length - i = d → i ≤ l.length → Ev (fun k => postilionkeep_Same_string.l0 k l l (i : Int)) true := by
  intro d
  induction d with
  | zero =>
    intro i hd hi
    exact Ev.step (f := fun _ => some true) (fun k => by simp only [postilionkeep_Same_string.l0]; rw [if_neg (by omega)]) (Ev.now _)
  | succ d ih =>
    intro i hd hi
    have hw : wrap64 ((i : Int) + 1) = ((i + 1 : Nat) : Int) := w64 (by omega) (by omega) (by omega)
    refine Ev.step (f := fun k => postilionkeep_Same_string.l0 k l l ((i + 1 : Nat) : Int)) (fun k => by simp only [postilionkeep_Same_string.l0]; rw [if_pos (by omega), if_pos (by omega), if_pos (by omega), if_pos trivial, hw]) (ih (i + 1) (by omega) (by omega))
theorem sames_f (l : List ByteArray) (hl : l.length ≤ 140737488351232) : Ev (fun k => postilionkeep_Same_string.f k l l) true := by
  refine Ev.congr (f := fun k => postilionkeep_Same_string.l0 k l l ((0 : Nat) : Int)) (fun k => by unfold postilionkeep_Same_string.f; rw [if_pos rfl]; rfl) (sames_l l hl l.length 0 (by omega) (by omega))
theorem bytes_l (x : Int) (n : Nat) (hn : n ≤ 140737488351232) : ∀ (d i : Nat) (xs : List Int), n - i = d → i ≤ n → xs.length = n →
    ∃ ys : List Int, ys.length = n ∧ Ev (fun k => postilionplay_Bytes.l0 k x xs (n : Int) (i : Int)) ys := by
  intro d
  induction d with
  | zero =>
    intro i xs hd hi hx
    exact ⟨xs, hx, Ev.step (f := fun _ => some xs) (fun k => by simp only [postilionplay_Bytes.l0]; rw [if_neg (by omega)]) (Ev.now _)⟩
  | succ d ih =>
    intro i xs hd hi hx
    have hw : wrap64 ((i : Int) + 1) = ((i + 1 : Nat) : Int) := by unfold wrap64; omega
    obtain ⟨ys, hy, he⟩ := ih (i + 1) (xs.set (i : Int).toNat ((wrap64 (x + (wrap64 ((i : Int) * (Go.bits .or .i64 (wrap64 (Int.tdiv x 5)) 1))))) % 256)) (by omega) (by omega) (by rw [List.length_set]; exact hx)
    exact ⟨ys, hy, Ev.step (f := fun k => postilionplay_Bytes.l0 k x _ (n : Int) ((i + 1 : Nat) : Int)) (fun k => by simp only [postilionplay_Bytes.l0]; rw [if_pos (by omega), if_pos (by omega), if_pos (by omega), hw]) he⟩
theorem bytes_f (x : Int) (n : Nat) (hn : n ≤ 140737488351232) : ∃ ys : List Int, ys.length = n ∧ Ev (fun k => postilionplay_Bytes.f k x (n : Int)) ys := by
  have hm : mx (n : Int) 0 = n := by unfold mx; omega
  obtain ⟨ys, hy, he⟩ := bytes_l x n hn n 0 (List.replicate n 0) (by omega) (by omega) (by simp)
  refine ⟨ys, hy, Ev.congr (f := fun k => postilionplay_Bytes.l0 k x (List.replicate n 0) (n : Int) ((0 : Nat) : Int)) (fun k => ?_) he⟩
  unfold postilionplay_Bytes.f
  rw [hm, if_pos (by omega), if_pos (by omega), Option.bind_some, List.length_replicate]
  rfl
def small (h : ByteArray × ByteArray) : Prop := h.1.size ≤ 100 ∧ h.2.size ≤ 100
def smallH (l : List S27) : Prop := ∀ h ∈ l, h.f0.size ≤ 100 ∧ h.f1.size ≤ 100
def smallB (l : List S27) : Bool := l.all fun h => decide (h.f0.size ≤ 100) && decide (h.f1.size ≤ 100)
theorem smallB_at {l : List S27} (h : smallB l = true) (i : Int) : small ((rd_T27 l i).f0, (rd_T27 l i).f1) := by
  unfold rd_T27
  rw [List.getD_eq_getElem?_getD]
  rcases hq : l[i.toNat]? with _ | x
  · exact ⟨by decide, by decide⟩
  · have := List.all_eq_true.1 h x (List.mem_of_getElem? hq)
    simpa [small] using this
theorem head_play (n : Int) : ∃ h : ByteArray × ByteArray, postilionplay_head.f n (⟨#[]⟩ : ByteArray) = some h ∧ small h := by
  unfold postilionplay_head.f
  simp only [Option.bind_some]
  generalize hy : ([_, _, _, _, _, _, _, _, _, _, _, _, _, _, _, _, _, _, _, _, _, _, _, _] : List S27) = y
  have hl : y.length = 24 := by rw [← hy]; rfl
  have hs : smallB y = true := by rw [← hy]; decide
  rw [hl]
  have b := Int.emod_nonneg n (show (24 : Int) ≠ 0 by decide)
  have c := Int.emod_lt_of_pos n (show (0 : Int) < 24 by decide)
  have e : postilionkeep_Within.f n ((24 : Nat) : Int) = some (n % 24) := within_f n 24 (by decide) (by decide)
  rw [e]
  simp only [Option.bind_some]
  rw [if_pos b, if_pos (by omega)]
  exact ⟨_, rfl, smallB_at hs _⟩
def goodR (x2 : ByteArray) (c : Int) (r : Int × List S27 × ByteArray × Bool) : Prop := r.2.1.length ≤ 10 ∧ smallH r.2.1 ∧ r.1 = c ∧ (r.2.2.1.size ≤ 60 ∨ r.2.2.1 = x2)
theorem reply_j2 (x0 : Int) (x2 : ByteArray) (c : Int) (h : List S27) (b : ByteArray) (t : Bool) (hl : h.length ≤ 10) (hs : smallH h) :
    ∃ r, goodR x2 c r ∧ Ev (fun k => postilionplay_Reply.j2 k x0 x2 c h b t) r := by
  have b1 := Int.emod_nonneg (wrap64 (Int.tdiv x0 5)) (show (7 : Int) ≠ 0 by decide)
  have c1 := Int.emod_lt_of_pos (wrap64 (Int.tdiv x0 5)) (show (0 : Int) < 7 by decide)
  have e1 := within_f (wrap64 (Int.tdiv x0 5)) 7 (by decide) (by decide)
  have e2 := within_f x0 50 (by decide) (by decide)
  generalize wrap64 (Int.tdiv x0 5) % 7 = t1 at *
  obtain ⟨n, hn, hr⟩ : ∃ n : Nat, n ≤ 60 ∧ rd [0, 5, 8, 3, 30, 49, 60] t1 = (n : Int) := by
    have : t1 = 0 ∨ t1 = 1 ∨ t1 = 2 ∨ t1 = 3 ∨ t1 = 4 ∨ t1 = 5 ∨ t1 = 6 := by omega
    rcases this with rfl | rfl | rfl | rfl | rfl | rfl | rfl
    · exact ⟨0, by decide, rfl⟩
    · exact ⟨5, by decide, rfl⟩
    · exact ⟨8, by decide, rfl⟩
    · exact ⟨3, by decide, rfl⟩
    · exact ⟨30, by decide, rfl⟩
    · exact ⟨49, by decide, rfl⟩
    · exact ⟨60, by decide, rfl⟩
  obtain ⟨ys, hy, he⟩ := bytes_f 99 n (by omega)
  by_cases g : x0 % 50 = 49
  · refine ⟨(c, h, x2, t), ⟨hl, hs, rfl, .inr rfl⟩, ?_⟩
    refine Ev.step (fun k => by simp only [postilionplay_Reply.j2]; exact rfl) ?_
    simp only [Option.bind_some, e1, e2]
    refine Ev.congr (fun k => by rw [if_pos b1, if_pos (by simp; omega), hr]) ?_
    refine Ev.bind he ?_
    simp only [if_pos g]
    exact Ev.now _
  · refine ⟨(c, h, strOfNums ys, t), ⟨hl, hs, rfl, .inl (by show (strOfNums ys).size ≤ 60; rw [strOfNums_size]; omega)⟩, ?_⟩
    refine Ev.step (fun k => by simp only [postilionplay_Reply.j2]; exact rfl) ?_
    simp only [Option.bind_some, e1, e2]
    refine Ev.congr (fun k => by rw [if_pos b1, if_pos (by simp; omega), hr]) ?_
    refine Ev.bind he ?_
    simp only [if_neg g]
    exact Ev.now _
theorem reply_j1 (x0 : Int) (x2 : ByteArray) (c : Int) (h : List S27) (b : ByteArray) (t : Bool) (hl : h.length ≤ 9) (hs : smallH h) :
    ∃ r, goodR x2 c r ∧ Ev (fun k => postilionplay_Reply.j1 k x0 x2 c h b t) r := by
  have e1 := within_f (wrap64 (Int.tdiv x0 7)) 3 (by decide) (by decide)
  by_cases g : wrap64 (Int.tdiv x0 7) % 3 > 0
  · obtain ⟨r, hr, he⟩ := reply_j2 x0 x2 c (h ++ [(⟨(⟨#[97, 108, 108, 111, 119, 45, 111, 114, 105, 103, 105, 110]⟩ : ByteArray), (⟨#[42]⟩ : ByteArray)⟩ : S27)]) b t (by rw [List.length_append]; simp only [List.length_singleton]; omega) (by
      intro x hx
      rcases List.mem_append.1 hx with hx | hx
      · exact hs x hx
      · have := List.mem_singleton.1 hx
        subst this
        exact ⟨by decide, by decide⟩)
    exact ⟨r, hr, Ev.step (f := fun k => postilionplay_Reply.j2 k x0 x2 c _ b t) (fun k => by simp only [postilionplay_Reply.j1, e1, Option.bind_some]; rw [if_pos g, if_pos (by omega)]) he⟩
  · obtain ⟨r, hr, he⟩ := reply_j2 x0 x2 c h b t (by omega) hs
    exact ⟨r, hr, Ev.step (f := fun k => postilionplay_Reply.j2 k x0 x2 c h b t) (fun k => by simp only [postilionplay_Reply.j1, e1, Option.bind_some]; rw [if_neg g]) he⟩
theorem reply_l0 (x0 : Int) (l1 : List Int) (x2 : ByteArray) (c : Int) (b : ByteArray) (t : Bool) (_hL : l1.length ≤ 140737488351232) : ∀ (d i : Nat) (h : List S27), 6 - i = d → i ≤ l1.length → h.length ≤ i → i ≤ 6 → smallH h →
    ∃ r, goodR x2 c r ∧ Ev (fun k => postilionplay_Reply.l0 k x0 l1 x2 (i : Int) c h b t) r := by
  have e1 := within_f (wrap64 (Int.tdiv x0 21)) 6 (by decide) (by decide)
  have c1 := Int.emod_lt_of_pos (wrap64 (Int.tdiv x0 21)) (show (0 : Int) < 6 by decide)
  generalize wrap64 (Int.tdiv x0 21) % 6 = m at *
  intro d
  induction d with
  | zero =>
    intro i h hd hi hl h6 hs
    obtain ⟨r, hr, he⟩ := reply_j1 x0 x2 c h b t (by omega) hs
    refine ⟨r, hr, Ev.step (f := fun k => postilionplay_Reply.j1 k x0 x2 c h b t) (fun k => ?_) he⟩
    simp only [postilionplay_Reply.l0, e1, Option.bind_some]
    by_cases g : (i : Int) < (l1.length : Int)
    · rw [if_pos g, if_neg (by omega)]
    · rw [if_neg g]
  | succ d ih =>
    intro i h hd hi hl h6 hs
    by_cases g : (i : Int) < (l1.length : Int)
    · by_cases g2 : (i : Int) < m
      · obtain ⟨hd2, e2, hs2⟩ := head_play (rd l1 (i : Int))
        obtain ⟨r, hr, he⟩ := ih (i + 1) (h ++ [⟨hd2.1, hd2.2⟩]) (by omega) (by omega) (by rw [List.length_append]; simp only [List.length_singleton]; omega) (by omega) (by
          intro x hx
          rcases List.mem_append.1 hx with hx | hx
          · exact hs x hx
          · have := List.mem_singleton.1 hx
            subst this
            exact hs2)
        have hw : wrap64 ((i : Int) + 1) = ((i + 1 : Nat) : Int) := w64 (by omega) (by omega) (by omega)
        exact ⟨r, hr, Ev.step (f := fun k => postilionplay_Reply.l0 k x0 l1 x2 ((i + 1 : Nat) : Int) c _ b t) (fun k => by
          simp only [postilionplay_Reply.l0, e1, e2, Option.bind_some]
          rw [if_pos g, if_pos g2, if_pos (by omega), if_pos (by omega), hw]) he⟩
      · obtain ⟨r, hr, he⟩ := reply_j1 x0 x2 c h b t (by omega) hs
        exact ⟨r, hr, Ev.step (f := fun k => postilionplay_Reply.j1 k x0 x2 c h b t) (fun k => by
          simp only [postilionplay_Reply.l0, e1, Option.bind_some]
          rw [if_pos g, if_neg g2]) he⟩
    · obtain ⟨r, hr, he⟩ := reply_j1 x0 x2 c h b t (by omega) hs
      exact ⟨r, hr, Ev.step (f := fun k => postilionplay_Reply.j1 k x0 x2 c h b t) (fun k => by
        simp only [postilionplay_Reply.l0, e1, Option.bind_some]
        rw [if_neg g]) he⟩
theorem reply_play (x0 : Int) (l1 : List Int) (x2 : ByteArray) (hL : l1.length ≤ 140737488351232) : ∃ c r, 100 ≤ c ∧ c ≤ 599 ∧ goodR x2 c r ∧ Ev (fun k => postilionplay_Reply.f k x0 l1 x2) r := by
  have b1 := Int.emod_nonneg x0 (show (21 : Int) ≠ 0 by decide)
  have c1 := Int.emod_lt_of_pos x0 (show (0 : Int) < 21 by decide)
  have e1 := within_f x0 21 (by decide) (by decide)
  have hc : 100 ≤ rd [200, 200, 200, 206, 301, 302, 303, 307, 308, 404, 416, 429, 500, 503, 204, 100, 599, 400, 201, 416, 206] (x0 % 21) ∧ rd [200, 200, 200, 206, 301, 302, 303, 307, 308, 404, 416, 429, 500, 503, 204, 100, 599, 400, 201, 416, 206] (x0 % 21) ≤ 599 := by
    obtain ⟨n, hn⟩ : ∃ n : Nat, (n : Int) = x0 % 21 := ⟨(x0 % 21).toNat, by omega⟩
    rw [← hn] at c1 ⊢
    have hn2 : n < 21 := by omega
    have : ∀ n : Fin 21, 100 ≤ rd [200, 200, 200, 206, 301, 302, 303, 307, 308, 404, 416, 429, 500, 503, 204, 100, 599, 400, 201, 416, 206] ((n.val : Nat) : Int) ∧ rd [200, 200, 200, 206, 301, 302, 303, 307, 308, 404, 416, 429, 500, 503, 204, 100, 599, 400, 201, 416, 206] ((n.val : Nat) : Int) ≤ 599 := by decide
    exact this ⟨n, hn2⟩
  obtain ⟨r, hr, he⟩ := reply_l0 x0 l1 x2 (rd [200, 200, 200, 206, 301, 302, 303, 307, 308, 404, 416, 429, 500, 503, 204, 100, 599, 400, 201, 416, 206] (x0 % 21)) (⟨#[]⟩ : ByteArray) false hL 6 0 [] (by omega) (by omega) (by simp) (by omega) (fun x hx => by cases hx)
  refine ⟨_, r, hc.1, hc.2, hr, Ev.congr (fun k => ?_) he⟩
  unfold postilionplay_Reply.f
  simp only [e1, Option.bind_some]
  rw [if_pos b1, if_pos (by simp; omega)]
  rfl
theorem smallB_rd {l : List S27} (h : smallB l = true) (i : Int) : (rd_T27 l i).f0.size ≤ 100 ∧ (rd_T27 l i).f1.size ≤ 100 := smallB_at h i
theorem smallH_snoc {acc : List S27} (hs : smallH acc) {x : S27} (hx : x.f0.size ≤ 100 ∧ x.f1.size ≤ 100) : smallH (acc ++ [x]) := by
  intro y hy
  rcases List.mem_append.1 hy with hy | hy
  · exact hs y hy
  · rw [List.mem_singleton.1 hy]
    exact hx
theorem heads_j1 (x0 : Int) (x6 : List S27) (h6 : smallB x6 = true) (hl6 : 1 ≤ x6.length) (hl6' : x6.length ≤ 100) (acc : List S27) (hl : acc.length ≤ 3) (hs : smallH acc) :
    ∃ r, r.length ≤ 6 ∧ smallH r ∧ Ev (fun k => postilionplay_Heads.j1 k x0 x6 acc) r := by
  have e1 := within_f (wrap64 (Int.tdiv x0 9)) 20 (by decide) (by decide)
  have e2 := within_f x0 (x6.length : Int) (by omega) (by omega)
  have b2 := Int.emod_nonneg x0 (show (x6.length : Int) ≠ 0 by omega)
  have c2 := Int.emod_lt_of_pos x0 (show (0 : Int) < (x6.length : Int) by omega)
  generalize wrap64 (Int.tdiv x0 9) % 20 = m at *
  by_cases g1 : m = 18
  · refine ⟨acc ++ [⟨(rd_T27 x6 (x0 % (x6.length : Int))).f0, (rd_T27 x6 (x0 % (x6.length : Int))).f1⟩], by rw [List.length_append, List.length_singleton]; omega, smallH_snoc hs (smallB_rd h6 _), ?_⟩
    exact Ev.step (f := fun _ => some _) (fun k => by
      simp only [postilionplay_Heads.j1, e1, Option.bind_some]
      rw [if_pos g1, e2, Option.bind_some, if_pos b2, if_pos c2, if_pos (by omega)]) (Ev.now _)
  · by_cases g2 : m = 19
    · refine ⟨acc ++ acc, by rw [List.length_append]; omega, fun y hy => ?_, ?_⟩
      · rcases List.mem_append.1 hy with hy | hy
        · exact hs y hy
        · exact hs y hy
      · exact Ev.step (f := fun _ => some _) (fun k => by
          simp only [postilionplay_Heads.j1, e1, Option.bind_some]
          rw [if_neg g1, if_pos g2, if_pos (by omega)]) (Ev.now _)
    · exact ⟨acc, by omega, hs, Ev.step (f := fun _ => some _) (fun k => by
        simp only [postilionplay_Heads.j1, e1, Option.bind_some]
        rw [if_neg g1, if_neg g2]) (Ev.now _)⟩
theorem heads_l0 (x0 : Int) (x5 x6 : List S27) (h5 : smallB x5 = true) (hl5 : 1 ≤ x5.length) (hl5' : x5.length ≤ 100) (h6 : smallB x6 = true) (hl6 : 1 ≤ x6.length) (hl6' : x6.length ≤ 100) : ∀ (d i : Nat) (acc : List S27), 2 - i = d → i ≤ 2 → acc.length ≤ i → smallH acc →
    ∃ r, r.length ≤ 6 ∧ smallH r ∧ Ev (fun k => postilionplay_Heads.l0 k x0 x5 x6 acc (i : Int)) r := by
  have e1 := within_f x0 4 (by decide) (by decide)
  generalize x0 % 4 = m at *
  intro d
  induction d with
  | zero =>
    intro i acc hd hi hl hs
    obtain ⟨r, r1, r2, he⟩ := heads_j1 x0 x6 h6 hl6 hl6' acc (by omega) hs
    refine ⟨r, r1, r2, Ev.step (f := fun k => postilionplay_Heads.j1 k x0 x6 acc) (fun k => ?_) he⟩
    simp only [postilionplay_Heads.l0, e1, Option.bind_some]
    by_cases g : (i : Int) < m
    · rw [if_pos g, if_neg (by omega)]
    · rw [if_neg g]
  | succ d ih =>
    intro i acc hd hi hl hs
    by_cases g : (i : Int) < m
    · have hw : wrap64 ((i : Int) + 1) = ((i + 1 : Nat) : Int) := w64 (by omega) (by omega) (by omega)
      generalize hq : wrap64 ((wrap64 (Int.tdiv x0 4)) + (wrap64 ((i : Int) * (wrap64 (1 + (Int.tmod (wrap64 (Int.tdiv x0 64)) 5)))))) = q
      have e2 := within_f q (x5.length : Int) (by omega) (by omega)
      have b2 := Int.emod_nonneg q (show (x5.length : Int) ≠ 0 by omega)
      have c2 := Int.emod_lt_of_pos q (show (0 : Int) < (x5.length : Int) by omega)
      obtain ⟨r, r1, r2, he⟩ := ih (i + 1) (acc ++ [⟨(rd_T27 x5 (q % (x5.length : Int))).f0, (rd_T27 x5 (q % (x5.length : Int))).f1⟩]) (by omega) (by omega) (by rw [List.length_append, List.length_singleton]; omega) (smallH_snoc hs (smallB_rd h5 _))
      exact ⟨r, r1, r2, Ev.step (fun k => by
        simp only [postilionplay_Heads.l0, e1, Option.bind_some]
        rw [if_pos g, if_pos (by omega), hq, e2, Option.bind_some, if_pos b2, if_pos c2, if_pos (by omega), hw]) he⟩
    · obtain ⟨r, r1, r2, he⟩ := heads_j1 x0 x6 h6 hl6 hl6' acc (by omega) hs
      exact ⟨r, r1, r2, Ev.step (f := fun k => postilionplay_Heads.j1 k x0 x6 acc) (fun k => by
        simp only [postilionplay_Heads.l0, e1, Option.bind_some]
        rw [if_neg g]) he⟩
theorem heads_play (x0 : Int) : ∃ r, r.length ≤ 6 ∧ smallH r ∧ Ev (fun k => postilionplay_Heads.f k x0 (⟨#[]⟩ : ByteArray)) r := by
  unfold postilionplay_Heads.f
  exact heads_l0 x0 _ _ (by decide) (by decide) (by decide) (by decide) (by decide) (by decide) 2 0 [] (by omega) (by omega) (by simp) (fun x hx => by cases hx)
theorem small_okR {hs : List S27} (hl : hs.length ≤ 1000) (h : smallH hs) : okR hs := ⟨by omega, fun x hx => by have := h x hx; exact ⟨by omega, by omega⟩⟩
/-! Names put in their places, one by one: the same as sorted and compacted. -/
def insS (n : List UInt8) : List (List UInt8) → List (List UInt8)
  | [] => [n]
  | x :: r => if x < n then x :: insS n r else if x = n then x :: r else n :: x :: r
theorem lt_of_not {x n : List UInt8} (h1 : ¬ x < n) (h2 : ¬ x = n) : n < x := by
  by_cases h : n < x
  · exact h
  · exact absurd (List.le_antisymm (show x ≤ n from h) (show n ≤ x from h1)) h2
theorem mem_insS (n x : List UInt8) : ∀ l : List (List UInt8), x ∈ insS n l ↔ x = n ∨ x ∈ l
  | [] => by simp [insS]
  | y :: r => by
    unfold insS
    split
    · rw [List.mem_cons, mem_insS n x r, List.mem_cons]
      constructor
      · rintro (h | h | h)
        · exact .inr (.inl h)
        · exact .inl h
        · exact .inr (.inr h)
      · rintro (h | h | h)
        · exact .inr (.inl h)
        · exact .inl h
        · exact .inr (.inr h)
    · split
      · rename_i h
        subst h
        simp
      · simp
theorem lt_trans3 {x y z : List UInt8} (h1 : x < y) (h2 : y < z) : x < z := List.lt_trans h1 h2
theorem ins_sorted (n : List UInt8) : ∀ l : List (List UInt8), l.Pairwise (· < ·) → (insS n l).Pairwise (· < ·)
  | [], _ => by simp [insS]
  | y :: r, h => by
    obtain ⟨h1, h2⟩ := List.pairwise_cons.1 h
    unfold insS
    split
    · rename_i hy
      refine List.pairwise_cons.2 ⟨fun x hx => ?_, ins_sorted n r h2⟩
      rcases (mem_insS n x r).1 hx with hx | hx
      · rw [hx]; exact hy
      · exact h1 x hx
    · split
      · exact h
      · rename_i hy he
        have hlt := lt_of_not hy he
        refine List.pairwise_cons.2 ⟨fun x hx => ?_, h⟩
        rcases List.mem_cons.1 hx with hx | hx
        · rw [hx]; exact hlt
        · exact lt_trans3 hlt (h1 x hx)
theorem strict_ext : ∀ a b : List (List UInt8), a.Pairwise (· < ·) → b.Pairwise (· < ·) → (∀ x, x ∈ a ↔ x ∈ b) → a = b
  | [], [], _, _, _ => rfl
  | [], y :: b, _, _, h => by have := (h y).2 (by simp); simp at this
  | x :: a, [], _, _, h => by have := (h x).1 (by simp); simp at this
  | x :: a, y :: b, ha, hb, h => by
    obtain ⟨ha1, ha2⟩ := List.pairwise_cons.1 ha
    obtain ⟨hb1, hb2⟩ := List.pairwise_cons.1 hb
    have hxy : x = y := by
      rcases List.mem_cons.1 ((h x).1 (by simp)) with e | e
      · exact e
      · rcases List.mem_cons.1 ((h y).2 (by simp)) with e2 | e2
        · exact e2.symm
        · exact absurd (lt_trans3 (hb1 x e) (ha1 y e2)) (List.lt_irrefl y)
    subst hxy
    rw [strict_ext a b ha2 hb2 (fun z => ?_)]
    constructor
    · intro hz
      rcases List.mem_cons.1 ((h z).1 (List.mem_cons_of_mem _ hz)) with e | e
      · subst e; exact absurd (ha1 z hz) (List.lt_irrefl z)
      · exact e
    · intro hz
      rcases List.mem_cons.1 ((h z).2 (List.mem_cons_of_mem _ hz)) with e | e
      · subst e; exact absurd (hb1 z hz) (List.lt_irrefl z)
      · exact e
theorem compact_upto (d : Array (List UInt8)) (hs : ∀ i j, i ≤ j → j < d.size → d[i]! ≤ d[j]!) : ∀ m, m ≤ d.size → (Lib.compactUpTo d m).Pairwise (· < ·) ∧ ∀ x, x ∈ Lib.compactUpTo d m ↔ ∃ i, i < m ∧ x = d[i]!
  | 0, _ => by
    have e : Lib.compactUpTo d 0 = [] := rfl
    rw [e]
    exact ⟨List.Pairwise.nil, fun x => by simp⟩
  | m + 1, hm => by
    obtain ⟨ih1, ih2⟩ := compact_upto d hs m (by omega)
    rw [Lib.compactUpTo_succ]
    by_cases hk : Lib.keeps d m = true
    · rw [if_pos hk]
      refine ⟨List.pairwise_append.2 ⟨ih1, by simp, fun x hx y hy => ?_⟩, fun x => ?_⟩
      · obtain ⟨i, hi, rfl⟩ := (ih2 x).1 hx
        rw [List.mem_singleton.1 hy]
        have hne : d[m]! ≠ d[m - 1]! := by
          unfold Lib.keeps at hk
          rcases of_decide_eq_true hk with h | h
          · omega
          · exact h
        have h1 := hs i (m - 1) (by omega) (by omega)
        have h2 := hs (m - 1) m (by omega) (by omega)
        by_cases g : d[i]! < d[m]!
        · exact g
        · exfalso
          have h3 : d[m]! ≤ d[i]! := g
          exact hne (List.le_antisymm (List.le_trans h3 h1) h2)
      · rw [List.mem_append, ih2, List.mem_singleton]
        constructor
        · rintro (⟨i, hi, rfl⟩ | rfl)
          · exact ⟨i, by omega, rfl⟩
          · exact ⟨m, by omega, rfl⟩
        · rintro ⟨i, hi, rfl⟩
          rcases Nat.lt_or_ge i m with g | g
          · exact .inl ⟨i, g, rfl⟩
          · exact .inr (by rw [show i = m by omega])
    · rw [if_neg hk, List.append_nil]
      refine ⟨ih1, fun x => ?_⟩
      rw [ih2]
      have hm0 : m ≠ 0 ∧ d[m]! = d[m - 1]! := by
        unfold Lib.keeps at hk
        rw [decide_eq_true_eq] at hk
        refine ⟨fun e => hk (.inl e), ?_⟩
        by_cases g : d[m]! = d[m - 1]!
        · exact g
        · exact absurd (.inr g) hk
      constructor
      · rintro ⟨i, hi, rfl⟩
        exact ⟨i, by omega, rfl⟩
      · rintro ⟨i, hi, rfl⟩
        rcases Nat.lt_or_ge i m with g | g
        · exact ⟨i, g, rfl⟩
        · exact ⟨m - 1, by omega, by rw [show i = m by omega]; exact hm0.2⟩
theorem compact_sorted (l : List (List UInt8)) : (Lib.compact (l.mergeSort fun x y => decide (x ≤ y))).Pairwise (· < ·) ∧ ∀ x, x ∈ Lib.compact (l.mergeSort fun x y => decide (x ≤ y)) ↔ x ∈ l := by
  have hp : (l.mergeSort fun x y => decide (x ≤ y)).Pairwise (fun a b => decide (a ≤ b) = true) := List.pairwise_mergeSort (fun a b c h1 h2 => by simp only [decide_eq_true_eq] at *; exact List.le_trans h1 h2) (fun a b => by simp only [Bool.or_eq_true, decide_eq_true_eq]; exact List.le_total a b) l
  have hm : ∀ x, x ∈ (l.mergeSort fun x y => decide (x ≤ y)) ↔ x ∈ l := fun x => List.mem_mergeSort
  generalize (l.mergeSort fun x y => decide (x ≤ y)) = s at *
  have hs : ∀ i j, i ≤ j → j < s.toArray.size → s.toArray[i]! ≤ s.toArray[j]! := by
    intro i j hij hj
    have hj' : j < s.length := by simpa using hj
    have hi' : i < s.length := by omega
    have ei : s.toArray[i]! = s[i] := by simp [getElem!_pos, hi']
    have ej : s.toArray[j]! = s[j] := by simp [getElem!_pos, hj']
    rw [ei, ej]
    rcases Nat.lt_or_ge i j with g | g
    · exact of_decide_eq_true ((List.pairwise_iff_getElem.1 hp) i j hi' hj' g)
    · have e : i = j := by omega
      subst e
      exact List.le_refl _
  obtain ⟨h1, h2⟩ := compact_upto s.toArray hs s.length (by simp)
  refine ⟨h1, fun x => ?_⟩
  show x ∈ Lib.compactUpTo s.toArray s.length ↔ _
  rw [h2, ← hm]
  constructor
  · rintro ⟨i, hi, rfl⟩
    simp [getElem!_pos, hi]
  · intro hx
    obtain ⟨i, hi, rfl⟩ := List.mem_iff_getElem.1 hx
    exact ⟨i, hi, by simp [getElem!_pos, hi]⟩
def foldS (l acc : List (List UInt8)) : List (List UInt8) := l.foldl (fun a n => insS n a) acc
theorem foldS_sorted : ∀ l acc : List (List UInt8), acc.Pairwise (· < ·) → (foldS l acc).Pairwise (· < ·)
  | [], _, h => h
  | n :: l, acc, h => foldS_sorted l _ (ins_sorted n acc h)
theorem mem_foldS (x : List UInt8) : ∀ l acc : List (List UInt8), x ∈ foldS l acc ↔ x ∈ l ∨ x ∈ acc
  | [], acc => by simp [foldS]
  | n :: l, acc => by
    show x ∈ foldS l (insS n acc) ↔ _
    rw [mem_foldS x l, mem_insS, List.mem_cons]
    constructor
    · rintro (h | h | h)
      · exact .inl (.inr h)
      · exact .inl (.inl h)
      · exact .inr h
    · rintro ((h | h) | h)
      · exact .inr (.inl h)
      · exact .inl h
      · exact .inr (.inr h)
theorem fold_compact (l : List (List UInt8)) : foldS l [] = Lib.compact (l.mergeSort fun x y => decide (x ≤ y)) := by
  obtain ⟨h1, h2⟩ := compact_sorted l
  refine strict_ext _ _ (foldS_sorted l [] List.Pairwise.nil) h1 (fun x => ?_)
  rw [mem_foldS, h2]
  simp
theorem rlower_f (l : List UInt8) (h : l.length ≤ 140737488351232) : postilionref01_Lower.f (B l) = some (B (lowerS l)) := by
  unfold postilionref01_Lower.f
  rw [if_pos (by rw [B_size]; exact h), data_B]
  rfl
theorem trimR_right : ∀ m : List UInt8, m.length ≤ 140737488351232 → Ev (fun k => postilionref01_Trim.l1 k (B m.reverse)) (B (m.dropWhile blankB).reverse) := by
  intro m
  induction m with
  | nil =>
    intro _
    change Ev (fun k => postilionref01_Trim.l1 k (B [])) (B [])
    exact Ev.step (f := fun _ => some (B [])) (fun k => by simp only [postilionref01_Trim.l1]; rw [if_neg (by rw [B_size]; simp)]) (Ev.now _)
  | cons c m ih =>
    intro hz
    rw [List.length_cons] at hz
    have hl : (m.reverse ++ [c]).length = m.reverse.length + 1 := by rw [List.length_append, List.length_singleton]
    have hl2 : m.reverse.length = m.length := List.length_reverse
    have hw : wrap64 (((B (m.reverse ++ [c])).size : Int) - 1) = (m.reverse.length : Int) := by rw [B_size, hl]; exact w64 (by omega) (by omega) (by omega)
    rw [List.reverse_cons]
    by_cases g : (c.toNat : Int) ≤ 32
    · rw [List.dropWhile_cons_of_pos (blankB_yes g)]
      exact Ev.step (fun k => by
        simp only [postilionref01_Trim.l1]
        rw [hw, if_pos (by rw [B_size, hl]; omega), if_pos (by omega), if_pos (by rw [B_size, hl]; omega), bt_last, if_pos g, if_pos (by rw [B_size, hl]; omega), B_extract, Int.toNat_natCast, List.drop_zero, List.take_left]) (ih (by omega))
    · rw [List.dropWhile_cons_of_neg (by rw [blankB_no g]; decide), List.reverse_cons]
      exact Ev.step (f := fun _ => some (B (m.reverse ++ [c]))) (fun k => by
        simp only [postilionref01_Trim.l1]
        rw [hw, if_pos (by rw [B_size, hl]; omega), if_pos (by omega), if_pos (by rw [B_size, hl]; omega), bt_last, if_neg g]) (Ev.now _)
theorem trimR_left (res : ByteArray) : ∀ l : List UInt8, Ev (fun k => postilionref01_Trim.j1 k (B (l.dropWhile blankB))) res → Ev (fun k => postilionref01_Trim.l0 k (B l)) res := by
  intro l
  induction l with
  | nil =>
    intro he
    change Ev (fun k => postilionref01_Trim.j1 k (B [])) res at he
    exact Ev.step (fun k => by simp only [postilionref01_Trim.l0]; rw [if_neg (by rw [B_size]; simp)]) he
  | cons c l ih =>
    intro he
    by_cases g : (c.toNat : Int) ≤ 32
    · rw [List.dropWhile_cons_of_pos (blankB_yes g)] at he
      exact Ev.step (fun k => by
        simp only [postilionref01_Trim.l0]
        rw [if_pos (by rw [B_size, List.length_cons]; omega), if_pos (by rw [B_size, List.length_cons]; omega), bt_first, if_pos g, if_pos (by rw [B_size, List.length_cons]; omega), B_extract, B_size, List.take_length, List.drop_succ_cons, List.drop_zero]) (ih he)
    · rw [List.dropWhile_cons_of_neg (by rw [blankB_no g]; decide)] at he
      exact Ev.step (fun k => by
        simp only [postilionref01_Trim.l0]
        rw [if_pos (by rw [B_size, List.length_cons]; omega), if_pos (by rw [B_size, List.length_cons]; omega), bt_first, if_neg g]) he
theorem rtrim_f (l : List UInt8) (hz : l.length ≤ 140737488351232) : Ev (fun k => postilionref01_Trim.f k (B l)) (B (trimS l)) := by
  unfold postilionref01_Trim.f trimS
  refine trimR_left _ l ?_
  refine Ev.step (f := fun k => postilionref01_Trim.l1 k (B (l.dropWhile blankB))) (fun k => by simp only [postilionref01_Trim.j1]) ?_
  have := trimR_right (l.dropWhile blankB).reverse (by rw [List.length_reverse]; have := dropW_le l; omega)
  rw [List.reverse_reverse] at this
  exact this
def untilS (c : UInt8) (l : List UInt8) : List UInt8 × List UInt8 := (l.takeWhile (· != c), l.dropWhile (· != c))
theorem until_l (l : List UInt8) (c : UInt8) (hl : l.length ≤ 140737488351232) : ∀ (d i : Nat), l.length - i = d → i ≤ l.length →
    Ev (fun k => postilionref01_until.l0 k (B l) (B [c]) (i : Int)) (B (l.take i ++ (untilS c (l.drop i)).1), B (untilS c (l.drop i)).2) := by
  intro d
  induction d with
  | zero =>
    intro i hd hi
    refine Ev.step (f := fun _ => some (B l, ⟨#[]⟩)) (fun k => by simp only [postilionref01_until.l0]; rw [if_neg (by rw [B_size]; omega)]) ?_
    rw [List.drop_eq_nil_of_le (by omega), List.take_of_length_le (by omega)]
    have e : (B (l ++ (untilS c []).1), B (untilS c []).2) = (B l, (⟨#[]⟩ : ByteArray)) := by simp [untilS]; rfl
    rw [e]
    exact Ev.now _
  | succ d ih =>
    intro i hd hi
    have hlt : i < l.length := by omega
    have hb := bt_B l i hlt
    have hc : bt (B [c]) 0 = (c.toNat : Int) := bt_B [c] 0 (by simp)
    have hs : l.drop i = l[i] :: l.drop (i + 1) := List.drop_eq_getElem_cons hlt
    have hw : wrap64 ((i : Int) + 1) = ((i + 1 : Nat) : Int) := by unfold wrap64; omega
    have hw1 : wrap64 ((0 : Int) + 1) = 1 := by unfold wrap64; decide
    have hz : ((B [c]).size : Int) = 1 := by rw [B_size]; rfl
    refine Ev.step (f := fun k => postilionref01_until.l1 k (B l) (B [c]) (i : Int) 0) (fun k => by simp only [postilionref01_until.l0]; rw [if_pos (by rw [B_size]; omega)]) ?_
    by_cases h : l[i] = c
    · refine Ev.step (f := fun _ => some (B (l.take i), B (l.drop i))) (fun k => by
        simp only [postilionref01_until.l1]
        rw [hz, if_pos (by omega), if_pos (by omega), if_pos (by rw [B_size]; omega), if_pos (by omega), hb, hc, h, if_pos rfl, if_pos (by rw [B_size]; omega), B_extract, B_extract, B_size]
        simp) ?_
      rw [hs]
      have e1 : (untilS c (l[i] :: l.drop (i + 1))).1 = [] := by simp [untilS, h]
      have e2 : (untilS c (l[i] :: l.drop (i + 1))).2 = l[i] :: l.drop (i + 1) := by simp [untilS, h]
      rw [e1, e2, List.append_nil]
      exact Ev.now _
    · refine Ev.step (f := fun k => postilionref01_until.l1 k (B l) (B [c]) (i : Int) 1) (fun k => by
        simp only [postilionref01_until.l1]
        rw [hz, if_pos (by omega), if_pos (by omega), if_pos (by rw [B_size]; omega), if_pos (by omega), hb, hc, if_neg (by
          intro e
          apply h
          apply UInt8.toNat_inj.1
          omega), hw1]) ?_
      refine Ev.step (f := fun k => postilionref01_until.l0 k (B l) (B [c]) ((i + 1 : Nat) : Int)) (fun k => by
        simp only [postilionref01_until.l1]
        rw [hz, if_neg (by omega), hw]) ?_
      have := ih (i + 1) (by omega) (by omega)
      rw [hs]
      have hb2 : (l[i] != c) = true := by simp [h]
      have e1 : (untilS c (l[i] :: l.drop (i + 1))).1 = l[i] :: (untilS c (l.drop (i + 1))).1 := List.takeWhile_cons_of_pos (p := (· != c)) hb2
      have e2 : (untilS c (l[i] :: l.drop (i + 1))).2 = (untilS c (l.drop (i + 1))).2 := List.dropWhile_cons_of_pos (p := (· != c)) hb2
      rw [e1, e2]
      rw [List.take_succ_eq_append_getElem hlt, List.append_assoc] at this
      exact this
theorem until_f (l : List UInt8) (c : UInt8) (hl : l.length ≤ 140737488351232) : Ev (fun k => postilionref01_until.f k (B l) (B [c])) (B (untilS c l).1, B (untilS c l).2) := by
  have := until_l l c hl l.length 0 (by omega) (by omega)
  simp only [List.take_zero, List.drop_zero, List.nil_append] at this
  exact this
theorem until_no (c : UInt8) (l : List UInt8) (h : c ∉ l) : untilS c l = (l, []) := by
  have h1 : ∀ x ∈ l, (x != c) = true := fun x hx => by simp; rintro rfl; exact h hx
  unfold untilS
  have e1 : l.takeWhile (· != c) = l := by
    have := List.takeWhile_append_of_pos (l₂ := []) h1
    simpa using this
  have e2 : l.dropWhile (· != c) = [] := by
    have := List.dropWhile_append_of_pos (l₂ := []) h1
    simpa using this
  rw [e1, e2]
theorem until_yes (c : UInt8) (l r : List UInt8) (h : c ∉ l) : untilS c (l ++ c :: r) = (l, c :: r) := by
  have h1 : ∀ x ∈ l, (x != c) = true := fun x hx => by simp; rintro rfl; exact h hx
  unfold untilS
  rw [List.takeWhile_append_of_pos h1, List.dropWhile_append_of_pos h1]
  simp
theorem first_at (c : UInt8) (l : List UInt8) (h : c ∈ l) : ∃ a r, l = a ++ c :: r ∧ c ∉ a := by
  induction l with
  | nil => cases h
  | cons b l ih =>
    by_cases hb : b = c
    · exact ⟨[], l, by simp [hb], by simp⟩
    · obtain ⟨a, r, e, hn⟩ := ih (by rcases List.mem_cons.1 h with h | h; exact absurd h.symm hb; exact h)
      exact ⟨b :: a, r, by simp [e], by simp [hn]; exact fun e => hb e.symm⟩
theorem rget_l (name : List UInt8) (hn : name.length ≤ 140737488351232) (l : List S27) (hl : okH l) : ∀ (d i : Nat), l.length - i = d → i ≤ l.length →
    Ev (fun k => postilionref01_Get.l0 k (B name) l (l.length : Int) (i : Int)) (getS name (l.drop i)) := by
  intro d
  induction d with
  | zero =>
    intro i hd hi
    refine Ev.step (f := fun _ => some (⟨#[]⟩, false)) (fun k => by simp only [postilionref01_Get.l0]; rw [if_neg (by omega)]) ?_
    rw [List.drop_eq_nil_of_le (by omega)]
    exact Ev.now _
  | succ d ih =>
    intro i hd hi
    have hlt : i < l.length := by omega
    have hs : l.drop i = l[i] :: l.drop (i + 1) := List.drop_eq_getElem_cons hlt
    have hr : rd_T27 l (i : Int) = l[i] := by
      unfold rd_T27
      simp [List.getD_eq_getElem?_getD, List.getElem?_eq_getElem hlt]
    have hw : wrap64 ((i : Int) + 1) = ((i + 1 : Nat) : Int) := by
      have := hl.1
      unfold wrap64
      omega
    have h0 := (hl.2 l[i] (List.getElem_mem hlt)).1
    have e0 : postilionref01_Lower.f l[i].f0 = some (B (lowerS l[i].f0.data.toList)) := by
      have := rlower_f l[i].f0.data.toList (by rw [data_length]; exact h0)
      rw [B_data] at this
      exact this
    have e1 := rlower_f name hn
    rw [hs]
    unfold getS
    by_cases h : lowerS l[i].f0.data.toList = lowerS name
    · refine Ev.step (f := fun _ => some (l[i].f1, true)) (fun k => by
        simp only [postilionref01_Get.l0]
        rw [if_pos (by omega), if_pos (by omega), if_pos (by omega), hr, e0]
        simp only [Option.bind_some, e1]
        rw [B_toList, B_toList, if_pos h]) ?_
      rw [if_pos h]
      exact Ev.now _
    · refine Ev.step (f := fun k => postilionref01_Get.l0 k (B name) l (l.length : Int) ((i + 1 : Nat) : Int)) (fun k => by
        simp only [postilionref01_Get.l0]
        rw [if_pos (by omega), if_pos (by omega), if_pos (by omega), hr, e0]
        simp only [Option.bind_some, e1]
        rw [B_toList, B_toList, if_neg h, hw]) ?_
      rw [if_neg h]
      exact ih (i + 1) (by omega) (by omega)
theorem rget_f (name : List UInt8) (hn : name.length ≤ 140737488351232) (l : List S27) (hl : okH l) : Ev (fun k => postilionref01_Get.f k (B name) l) (getS name l) := by
  have := rget_l name hn l hl l.length 0 (by omega) (by omega)
  exact this
theorem rcheck_f (code : Int) (hs : List S27) (ho : okR hs) (b : ByteArray) (t : Bool) (origin : List UInt8) (creds : Bool) : Ev (fun k => postilionref01_Cors.f k code hs b t (B origin) creds) (checkS hs origin creds) := by
  unfold postilionref01_Cors.f checkS
  have g1 := rget_f originL (by decide) hs (okR_okH ho)
  have g2 := rget_f credsL (by decide) hs (okR_okH ho)
  rw [getS_B] at g1 g2
  refine Ev.bind g1 ?_
  by_cases c1 : (getS originL hs).2 = true
  · rw [if_pos c1]
    refine Ev.congr (fun k => if_pos c1) ?_
    by_cases c2 : valS originL hs = origin
    · rw [if_pos c2]
      refine Ev.congr (fun k => if_pos (by rw [B_toList, B_toList]; exact c2)) ?_
      refine Ev.bind g2 ?_
      rcases creds with _ | _
      · exact Ev.now _
      · refine Ev.congr (f := fun _ => some (valS credsL hs == trueL)) (fun k => ?_) (Ev.now _)
        rw [if_pos rfl, B_toList]
        rfl
    · rw [if_neg c2]
      refine Ev.congr (fun k => if_neg (by rw [B_toList, B_toList]; exact c2)) ?_
      by_cases c3 : valS originL hs = [42]
      · rw [if_pos c3]
        refine Ev.congr (fun k => if_pos (by rw [B_toList]; exact c3)) ?_
        rcases creds with _ | _
        · refine Ev.congr (fun k => if_neg (by decide)) ?_
          exact Ev.bind g2 (Ev.now _)
        · exact Ev.now _
      · rw [if_neg c3]
        exact Ev.congr (f := fun _ => some false) (fun k => if_neg (by rw [B_toList]; exact c3)) (Ev.now _)
  · rw [if_neg c1]
    exact Ev.congr (f := fun _ => some false) (fun k => if_neg c1) (Ev.now _)
theorem cut_until (c : UInt8) (v : List UInt8) : (Lib.cut v [c]).1 = (untilS c v).1 := by
  by_cases h : c ∈ v
  · obtain ⟨a, r, rfl, hn⟩ := first_at c v h
    rw [cut_yes a r c hn, until_yes c a r hn]
  · rw [cut_no v c h, until_no c v h]
theorem rsimple_f (h : S27) (ho : okW h) : Ev (fun k => postilionref01_Simple.f k h.f0 h.f1) (simpleS h) := by
  obtain ⟨n, hn⟩ := ex_B h.f0
  obtain ⟨v, hv⟩ := ex_B h.f1
  obtain ⟨h1, h2⟩ := ho
  rw [hn, B_size] at h1
  rw [hv, B_size] at h2
  unfold simpleS postilionref01_Simple.f
  rw [hn, hv, data_B, data_B, rlower_f n (by omega)]
  simp only [Option.bind_some, B_toList]
  have hcl := cut1_le v [59]
  rw [cut_until 59 v] at hcl ⊢
  have htl := trimS_le (untilS 59 v).1
  have hlow := rlower_f (trimS (untilS 59 v).1) (by omega)
  by_cases g1 : lowerS n = [97, 99, 99, 101, 112, 116]
  · rw [if_pos g1]
    refine Ev.congr (fun k => if_pos g1) ?_
    rw [show (lowerS n == [97, 99, 99, 101, 112, 116]) = true by rw [beq_iff_eq]; exact g1]
    exact Ev.step (f := fun _ => some true) (fun k => by simp only [postilionref01_Simple.j0, if_true]) (Ev.now _)
  · rw [if_neg g1]
    refine Ev.congr (fun k => if_neg g1) ?_
    by_cases g2 : lowerS n = [97, 99, 99, 101, 112, 116, 45, 108, 97, 110, 103]
    · rw [if_pos g2, show (lowerS n == [97, 99, 99, 101, 112, 116, 45, 108, 97, 110, 103]) = true by rw [beq_iff_eq]; exact g2]
      exact Ev.step (f := fun _ => some true) (fun k => by simp only [postilionref01_Simple.j0, if_true]) (Ev.now _)
    · rw [if_neg g2, show (lowerS n == [97, 99, 99, 101, 112, 116, 45, 108, 97, 110, 103]) = false by rw [beq_eq_false_iff_ne]; exact g2]
      by_cases g3 : lowerS n = [99, 111, 110, 116, 101, 110, 116, 45, 116, 121, 112, 101]
      · rw [if_pos g3]
        refine Ev.step (fun k => by
          simp only [postilionref01_Simple.j0]
          rw [if_neg (by decide), if_pos (by rw [B_toList]; exact g3)]) ?_
        refine Ev.bind (until_f v 59 (by omega)) ?_
        refine Ev.bind (rtrim_f (untilS 59 v).1 (by omega)) ?_
        rw [hlow]
        simp only [Option.bind_some, B_toList]
        exact Ev.now _
      · rw [if_neg g3]
        exact Ev.step (f := fun _ => some false) (fun k => by
          simp only [postilionref01_Simple.j0]
          rw [if_neg (by decide), if_neg (by rw [B_toList]; exact g3)]) (Ev.now _)
/-! the reference's row of unsafe names -/
theorem less_B (x n : List UInt8) : Op.bytesLess (B x).toList (B n).toList = decide (x < n) := by
  rw [B_toList, B_toList, Go.Proofs.bytesLess_eq]
theorem put_less (x n : List UInt8) (r : List ByteArray) (h : x < n) : putN (B n) (B x :: r) = B x :: putN (B n) r := by
  have e : lessN (B n) (B x :: r) = lessN (B n) r + 1 := by
    show (if _ then _ else _) = _
    rw [if_pos (by rw [less_B]; exact decide_eq_true h)]
  unfold putN
  rw [e, List.take_succ_cons, List.drop_succ_cons]
  have e2 : (B x :: r).getD (lessN (B n) r + 1) ⟨#[]⟩ = r.getD (lessN (B n) r) ⟨#[]⟩ := by simp [List.getD_eq_getElem?_getD]
  rw [e2, List.length_cons]
  by_cases c : (r.getD (lessN (B n) r) ⟨#[]⟩).toList = (B n).toList ∧ lessN (B n) r < r.length
  · rw [if_pos c, if_pos ⟨c.1, by omega⟩]
  · rw [if_neg c, if_neg (fun g => c ⟨g.1, by omega⟩)]
    rfl
theorem put_stop (x n : List UInt8) (r : List ByteArray) (h : ¬ x < n) : putN (B n) (B x :: r) = if x = n then B x :: r else B n :: B x :: r := by
  have e : lessN (B n) (B x :: r) = 0 := by
    show (if _ then _ else _) = _
    rw [if_neg (by rw [less_B, decide_eq_true_eq]; exact h)]
  unfold putN
  rw [e, List.take_zero, List.drop_zero]
  have e2 : (B x :: r).getD 0 ⟨#[]⟩ = B x := by simp [List.getD_eq_getElem?_getD]
  rw [e2, B_toList, B_toList]
  by_cases c : x = n
  · rw [if_pos c, if_pos ⟨c, by simp⟩]
  · rw [if_neg c, if_neg (fun g => c g.1)]
    rfl
theorem put_ins (n : List UInt8) : ∀ out : List (List UInt8), putN (B n) (out.map B) = (insS n out).map B
  | [] => by
    unfold putN
    rw [if_neg (fun g => absurd g.2 (by simp))]
    simp [lessN, insS]
  | x :: r => by
    rw [List.map_cons]
    unfold insS
    by_cases h : x < n
    · rw [if_pos h, put_less x n _ h, put_ins n r, List.map_cons]
    · rw [if_neg h, put_stop x n _ h]
      by_cases c : x = n
      · rw [if_pos c, if_pos c, List.map_cons]
      · rw [if_neg c, if_neg c, List.map_cons, List.map_cons]
theorem ins_len (n : List UInt8) : ∀ l : List (List UInt8), (insS n l).length ≤ l.length + 1
  | [] => by simp [insS]
  | x :: r => by
    have := ins_len n r
    unfold insS
    split
    · simp only [List.length_cons]; omega
    · split <;> simp only [List.length_cons] <;> omega
theorem unsR_f : ∀ (hs : List S27) (acc : List (List UInt8)), (∀ h ∈ hs, okW h) → acc.length + hs.length ≤ 1000000 → Ev (fun k => unsR k (acc.map B) hs) ((foldS (rawS hs) acc).map B)
  | [], acc, _, _ => Ev.now _
  | h :: r, acc, ho, hl => by
    have h0 := ho h List.mem_cons_self
    rw [List.length_cons] at hl
    have hlow : postilionref01_Lower.f h.f0 = some (B (lowerS h.f0.data.toList)) := by
      have := rlower_f h.f0.data.toList (by rw [data_length]; have := h0.1; omega)
      rw [B_data] at this
      exact this
    show Ev (fun k => (postilionref01_Simple.f k h.f0 h.f1).bind fun s => if s = true then unsR k (acc.map B) r else (postilionref01_Lower.f h.f0).bind fun n => if (acc.map B).length < 4294967296 then unsR k (putN n (acc.map B)) r else none) _
    refine Ev.bind (rsimple_f h h0) ?_
    by_cases g : simpleS h = true
    · have e : rawS (h :: r) = rawS r := by
        unfold rawS
        rw [List.filter_cons_of_neg (by rw [g]; decide)]
      rw [e]
      exact Ev.congr (fun k => if_pos g) (unsR_f r acc (fun x hx => ho x (List.mem_cons_of_mem _ hx)) (by omega))
    · have e : rawS (h :: r) = lowerS h.f0.data.toList :: rawS r := by
        unfold rawS
        rw [List.filter_cons_of_pos (by rw [Bool.not_eq_true] at g; rw [g]; rfl)]
        rfl
      rw [e]
      have hil := ins_len (lowerS h.f0.data.toList) acc
      have ih := unsR_f r (insS (lowerS h.f0.data.toList) acc) (fun x hx => ho x (List.mem_cons_of_mem _ hx)) (by omega)
      refine Ev.congr (fun k => ?_) ih
      rw [if_neg g, hlow, Option.bind_some, if_pos (by rw [List.length_map]; omega), put_ins]
theorem runsafe_f (hs : List S27) (ho : okR hs) : Ev (fun k => postilionref01_Unsafe.f k hs) ((unsafeS hs).map B) := by
  have := unsR_f hs [] ho.2 (by have := ho.1; simpa using this)
  rw [fold_compact] at this
  exact this
theorem rmethod_f (m : List UInt8) : postilionref01_plainMethod.f (B m) = some (commons.any (· == m)) := by
  unfold postilionref01_plainMethod.f commons
  rw [B_toList]
  simp only [List.any_cons, List.any_nil, Bool.or_false]
  by_cases h1 : m = [71, 69, 84]
  · rw [if_pos h1, h1]
    rfl
  · rw [if_neg h1, show (([71, 69, 84] : List UInt8) == m) = false by rw [beq_eq_false_iff_ne]; exact fun e => h1 e.symm, Bool.false_or]
    by_cases h2 : m = [72, 69, 65, 68]
    · rw [if_pos h2, h2]
      rfl
    · rw [if_neg h2, show (([72, 69, 65, 68] : List UInt8) == m) = false by rw [beq_eq_false_iff_ne]; exact fun e => h2 e.symm, Bool.false_or]
      congr 1
      rw [Bool.eq_iff_iff, beq_iff_eq, beq_iff_eq]
      exact ⟨fun e => e.symm, fun e => e.symm⟩
theorem rplain_f (m : List UInt8) (hs : List S27) (ho : okR hs) : Ev (fun k => postilionref01_Plain.f k (B m) hs) (commons.any (· == m) && (unsafeS hs).isEmpty) := by
  unfold postilionref01_Plain.f
  rw [rmethod_f]
  simp only [Option.bind_some]
  by_cases g : commons.any (· == m) = true
  · rw [g]
    simp only [if_true, Bool.true_and]
    refine Ev.bind (runsafe_f hs ho) ?_
    refine Ev.congr (f := fun _ => some _) (fun k => ?_) (Ev.now _)
    congr 1
    rw [List.length_map]
    rcases unsafeS hs with _ | ⟨a, r⟩
    · rfl
    · rw [List.isEmpty_cons, beq_eq_false_iff_ne, List.length_cons]
      omega
  · rw [Bool.not_eq_true] at g
    rw [g, Bool.false_and]
    exact Ev.now _
/-- The row of parts, one by one. -/
theorem listS_one (a : List UInt8) (h : (44 : UInt8) ∉ a) : listS a = if partS a = [] then [] else [partS a] := by
  unfold listS
  rw [splitC_no a h, List.map_cons, List.map_nil]
  by_cases e : partS a = []
  · rw [if_pos e, e]
    rfl
  · rw [if_neg e]
    have hn : neB (partS a) = true := by
      unfold neB
      rw [Bool.not_eq_true', List.isEmpty_eq_false_iff]
      exact e
    rw [List.filter_cons_of_pos hn]
    rfl
theorem parts_l : ∀ (n : Nat) (s : List UInt8) (acc : List (List UInt8)), s.length ≤ n → acc.length + s.length ≤ 4000000000 →
    Ev (fun k => postilionref01_parts.l0 k (B s) (acc.map B)) ((acc ++ listS s).map B) := by
  intro n
  induction n with
  | zero =>
    intro s acc hn hz
    obtain rfl : s = [] := List.eq_nil_of_length_eq_zero (by omega)
    have hu := until_f [] 44 (by simp)
    have ht := rtrim_f [] (by simp)
    have hl := rlower_f (trimS []) (by decide)
    refine Ev.step (fun k => by simp only [postilionref01_parts.l0]; rfl) ?_
    refine Ev.bind hu ?_
    refine Ev.bind ht ?_
    rw [hl]
    refine Ev.congr (f := fun _ => some (acc.map B)) (fun k => ?_) ?_
    · rw [Option.bind_some, if_pos (by show (B ([] : List UInt8)).toList = []; rw [B_toList]), if_pos (by show (B ([] : List UInt8)).toList = []; rw [B_toList])]
    · rw [show listS [] = [] by decide, List.append_nil]
      exact Ev.now _
  | succ n ih =>
    intro s acc hn hz
    by_cases hc : (44 : UInt8) ∈ s
    · obtain ⟨a, r, rfl, ha⟩ := first44 s hc
      have hlen : (a ++ 44 :: r).length = a.length + (r.length + 1) := by rw [List.length_append, List.length_cons]
      rw [hlen] at hn hz
      have hu := until_f (a ++ 44 :: r) 44 (by omega)
      rw [until_yes 44 a r ha] at hu
      have ht := rtrim_f a (by omega)
      have htl := trimS_le a
      have hl := rlower_f (trimS a) (by omega)
      have hx : (B (44 :: r)).extract 1 (B (44 :: r)).size = B r := by
        rw [B_extract, B_size, List.take_length]
        rfl
      have hne : ¬ (B (44 :: r)).toList = ([] : List UInt8) := by rw [B_toList]; simp
      have hs1 : 1 ≤ ((B (44 :: r)).size : Int) := by rw [B_size, List.length_cons]; omega
      refine Ev.step (fun k => by simp only [postilionref01_parts.l0]; rfl) ?_
      refine Ev.bind hu ?_
      refine Ev.bind ht ?_
      rw [hl, listS_yes, listS_one a ha]
      by_cases e : partS a = []
      · have ih1 := ih r acc (by omega) (by omega)
        rw [if_pos e, List.nil_append]
        refine Ev.congr (fun k => ?_) ih1
        rw [Option.bind_some, if_pos (by rw [B_toList]; exact e), if_neg hne, if_pos hs1, hx]
      · have ih1 := ih r (acc ++ [partS a]) (by omega) (by rw [List.length_append, List.length_singleton]; omega)
        rw [if_neg e, ← List.append_assoc]
        refine Ev.congr (fun k => ?_) ih1
        rw [Option.bind_some, if_neg (by rw [B_toList]; exact e), if_pos (by rw [List.length_map]; omega), Option.bind_some, if_neg hne, if_pos hs1, hx, List.map_append]
        rfl
    · have hu := until_f s 44 (by omega)
      rw [until_no 44 s hc] at hu
      have ht := rtrim_f s (by omega)
      have htl := trimS_le s
      have hl := rlower_f (trimS s) (by omega)
      refine Ev.step (fun k => by simp only [postilionref01_parts.l0]; rfl) ?_
      refine Ev.bind hu ?_
      refine Ev.bind ht ?_
      rw [hl, listS_one s hc]
      by_cases e : partS s = []
      · rw [if_pos e, List.append_nil]
        refine Ev.congr (f := fun _ => some (acc.map B)) (fun k => ?_) (Ev.now _)
        rw [Option.bind_some, if_pos (by rw [B_toList]; exact e), if_pos (by show (B ([] : List UInt8)).toList = []; rw [B_toList])]
      · rw [if_neg e]
        refine Ev.congr (f := fun _ => some ((acc ++ [partS s]).map B)) (fun k => ?_) (Ev.now _)
        rw [Option.bind_some, if_neg (by rw [B_toList]; exact e), if_pos (by rw [List.length_map]; omega), Option.bind_some, if_pos (by show (B ([] : List UInt8)).toList = []; rw [B_toList]), List.map_append]
        rfl
theorem rparts_f (s : List UInt8) (hz : s.length ≤ 4000000000) : Ev (fun k => postilionref01_parts.f k (B s)) ((listS s).map B) := by
  have := parts_l s.length s [] (Nat.le_refl _) (by simpa using hz)
  rw [List.nil_append] at this
  exact this
theorem rlist_f (s : List UInt8) (hz : s.length ≤ 4000000000) : Ev (fun k => postilionref01_List.f k (B s)) ((listS s).map B) := by
  unfold postilionref01_List.f
  exact Ev.bind (rparts_f s hz) (Ev.now _)
def hitB (word : List UInt8) (creds : Bool) (x : List UInt8) : Bool := (x == word) || (!creds && (x == [42]))
theorem any_hit (word : List UInt8) (creds : Bool) : ∀ l : List (List UInt8), l.any (hitB word creds) = (l.any (· == word) || (!creds && l.any (· == [42])))
  | [] => by simp
  | x :: r => by
    rw [List.any_cons, List.any_cons, List.any_cons, any_hit word creds r]
    unfold hitB
    cases (x == word) <;> cases creds <;> cases (x == [42]) <;> simp
theorem listed_l (word : List UInt8) (creds : Bool) (l : List (List UInt8)) (hz : l.length ≤ 4294967290) : ∀ (d i : Nat), l.length - i = d → i ≤ l.length →
    Ev (fun k => postilionref01_listed.l0 k (B word) creds (l.map B) ((l.map B).length : Int) (i : Int)) ((l.drop i).any (hitB word creds)) := by
  intro d
  have hlm : (l.map B).length = l.length := List.length_map _
  induction d with
  | zero =>
    intro i hd hi
    refine Ev.step (f := fun _ => some false) (fun k => by simp only [postilionref01_listed.l0]; rw [if_neg (by omega)]) ?_
    rw [List.drop_eq_nil_of_le (by omega)]
    exact Ev.now _
  | succ d ih =>
    intro i hd hi
    have hlt : i < l.length := by omega
    have hs : l.drop i = l[i] :: l.drop (i + 1) := List.drop_eq_getElem_cons hlt
    have hr : rdOf ByteArray.empty (l.map B) (i : Int) = B l[i] := by
      unfold rdOf
      simp [List.getD_eq_getElem?_getD, List.getElem?_eq_getElem hlt]
    have hw : wrap64 ((i : Int) + 1) = ((i + 1 : Nat) : Int) := w64 (by omega) (by omega) (by omega)
    have hn := ih (i + 1) (by omega) (by omega)
    rw [hs, List.any_cons]
    by_cases g1 : l[i] = word
    · have e : hitB word creds l[i] = true := by unfold hitB; rw [beq_iff_eq.2 g1]; rfl
      rw [e, Bool.true_or]
      exact Ev.step (f := fun _ => some true) (fun k => by
        simp only [postilionref01_listed.l0]
        rw [if_pos (by omega), if_pos (by omega), if_pos (by omega), hr, B_toList, B_toList, if_pos g1]) (Ev.now _)
    · have e1 : (l[i] == word) = false := by rw [beq_eq_false_iff_ne]; exact g1
      by_cases g2 : l[i] = [42]
      · rcases creds with _ | _
        · have e : hitB word false l[i] = true := by unfold hitB; rw [e1, beq_iff_eq.2 g2]; rfl
          rw [e, Bool.true_or]
          exact Ev.step (f := fun _ => some true) (fun k => by
            simp only [postilionref01_listed.l0]
            rw [if_pos (by omega), if_pos (by omega), if_pos (by omega), hr, B_toList, B_toList, if_neg g1, if_pos g2, if_neg (by decide)]) (Ev.now _)
        · have e : hitB word true l[i] = false := by unfold hitB; rw [e1]; rfl
          rw [e, Bool.false_or]
          exact Ev.step (fun k => by
            simp only [postilionref01_listed.l0]
            rw [if_pos (by omega), if_pos (by omega), if_pos (by omega), hr, B_toList, B_toList, if_neg g1, if_pos g2, if_pos trivial, hw]) hn
      · have e2 : (l[i] == [42]) = false := by rw [beq_eq_false_iff_ne]; exact g2
        have e : hitB word creds l[i] = false := by unfold hitB; rw [e1, e2, Bool.and_false]; rfl
        rw [e, Bool.false_or]
        exact Ev.step (fun k => by
          simp only [postilionref01_listed.l0]
          rw [if_pos (by omega), if_pos (by omega), if_pos (by omega), hr, B_toList, B_toList, if_neg g1, if_neg g2, hw]) hn
theorem listed_f (code : Int) (hs : List S27) (ho : okR hs) (b : ByteArray) (t : Bool) (name word : List UInt8) (hn : name.length ≤ 1000) (creds : Bool) : Ev (fun k => postilionref01_listed.f k code hs b t (B name) (B word) creds) (allowsS hs name word creds) := by
  unfold postilionref01_listed.f allowsS
  have g1 := rget_f name (by omega) hs (okR_okH ho)
  rw [getS_B] at g1
  have hv := valS_le name hs ho
  have hl := listS_len (valS name hs)
  refine Ev.bind g1 ?_
  refine Ev.bind (rparts_f (valS name hs) (by omega)) ?_
  have := listed_l word creds (listS (valS name hs)) (by omega) (listS (valS name hs)).length 0 (by omega) (by omega)
  rw [List.drop_zero, any_hit] at this
  exact this
theorem rpre_l (creds : Bool) (us : List (List UInt8)) (hz : us.length ≤ 4294967290) (code : Int) (hs : List S27) (ho : okR hs) (b : ByteArray) (t : Bool) : ∀ (d i : Nat), us.length - i = d → i ≤ us.length →
    Ev (fun k => postilionref01_Pre.l0 k creds (us.map B) ((us.map B).length : Int) (i : Int) code hs b t) ((us.drop i).all fun n => allowsS hs headsL n creds) := by
  intro d
  have hlm : (us.map B).length = us.length := List.length_map _
  induction d with
  | zero =>
    intro i hd hi
    refine Ev.step (f := fun _ => some true) (fun k => by simp only [postilionref01_Pre.l0]; rw [if_neg (by omega)]) ?_
    rw [List.drop_eq_nil_of_le (by omega)]
    exact Ev.now _
  | succ d ih =>
    intro i hd hi
    have hlt : i < us.length := by omega
    have hsd : us.drop i = us[i] :: us.drop (i + 1) := List.drop_eq_getElem_cons hlt
    have hr : rdOf ByteArray.empty (us.map B) (i : Int) = B us[i] := by
      unfold rdOf
      simp [List.getD_eq_getElem?_getD, List.getElem?_eq_getElem hlt]
    have hw : wrap64 ((i : Int) + 1) = ((i + 1 : Nat) : Int) := w64 (by omega) (by omega) (by omega)
    have hn := ih (i + 1) (by omega) (by omega)
    rw [hsd, List.all_cons]
    refine Ev.step (fun k => by
      simp only [postilionref01_Pre.l0]
      rw [if_pos (by omega), if_pos (by omega), if_pos (by omega), hr]) ?_
    refine Ev.bind (listed_f code hs ho b t headsL us[i] (by decide) creds) ?_
    by_cases g : allowsS hs headsL us[i] creds = true
    · rw [g, Bool.true_and]
      exact Ev.congr (fun k => by rw [if_pos rfl, hw]) hn
    · rw [Bool.not_eq_true] at g
      rw [g, Bool.false_and]
      exact Ev.now _
theorem unsafeS_len (ls : List S27) (hl : okR ls) : (unsafeS ls).length ≤ 1000000 := by
  unfold unsafeS
  refine Nat.le_trans (GivC.compact_len _) ?_
  rw [List.length_mergeSort]
  unfold rawS
  rw [List.length_map]
  exact Nat.le_trans (List.length_filter_le _ _) hl.1
theorem rpre_no (creds : Bool) (ls : List S27) (code : Int) (hs : List S27) (b : ByteArray) (t : Bool) : Ev (fun k => postilionref01_Pre.j0 k creds ls true code hs b t) false :=
  Ev.step (f := fun _ => some false) (fun k => by simp only [postilionref01_Pre.j0, if_true]) (Ev.now _)
theorem rpre_yes (creds : Bool) (ls : List S27) (hl : okR ls) (code : Int) (hs : List S27) (ho : okR hs) (b : ByteArray) (t : Bool) : Ev (fun k => postilionref01_Pre.j0 k creds ls false code hs b t) ((unsafeS ls).all fun n => allowsS hs headsL n creds) := by
  have hul := unsafeS_len ls hl
  refine Ev.step (fun k => by
    simp only [postilionref01_Pre.j0]
    rw [if_neg (by decide)]) ?_
  refine Ev.bind (runsafe_f ls hl) ?_
  have := rpre_l creds (unsafeS ls) (by omega) code hs ho b t (unsafeS ls).length 0 (by omega) (by omega)
  rw [List.drop_zero] at this
  exact this
theorem rpre_f (code : Int) (hs : List S27) (ho : okR hs) (b : ByteArray) (t : Bool) (origin : List UInt8) (creds : Bool) (method : List UInt8) (hm : method.length ≤ 1000000) (ls : List S27) (hl : okR ls) :
    Ev (fun k => postilionref01_Pre.f k code hs b t (B origin) creds (B method) ls) (preS code hs origin creds method ls) := by
  unfold postilionref01_Pre.f preS
  by_cases c1 : code < 200
  · rw [decide_eq_false (by omega : ¬ 200 ≤ code)]
    simp only [Bool.false_and]
    exact Ev.congr (fun k => if_pos c1) (rpre_no creds ls code hs b t)
  · rw [decide_eq_true (by omega : 200 ≤ code), Bool.true_and]
    refine Ev.congr (fun k => if_neg c1) ?_
    by_cases c2 : code > 299
    · rw [decide_eq_false (by omega : ¬ code ≤ 299)]
      simp only [Bool.false_and]
      exact Ev.congr (fun k => if_pos c2) (rpre_no creds ls code hs b t)
    · rw [decide_eq_true (by omega : code ≤ 299), Bool.true_and]
      refine Ev.congr (fun k => if_neg c2) ?_
      refine Ev.bind (rcheck_f code hs ho b t origin creds) ?_
      by_cases c3 : checkS hs origin creds = true
      · rw [c3, Bool.true_and]
        have hrest := rpre_yes creds ls hl code hs ho b t
        by_cases c4 : commons.any (· == method) = true
        · rw [c4, Bool.true_or, Bool.true_and]
          refine Ev.congr (fun k => ?_) hrest
          rw [if_pos rfl, rmethod_f, Option.bind_some, if_pos c4]
        · have c4' := c4
          rw [Bool.not_eq_true] at c4
          rw [c4, Bool.false_or]
          have hlow := rlower_f method (by omega)
          refine Ev.congr (f := fun k => (postilionref01_listed.f k code hs b t (B methodsL) (B (lowerS method)) creds).bind fun t202 => postilionref01_Pre.j0 k creds ls (!t202) code hs b t) (fun k => ?_) ?_
          · rw [if_pos rfl, rmethod_f, Option.bind_some, if_neg c4', hlow, Option.bind_some]
            rfl
          · refine Ev.bind (listed_f code hs ho b t methodsL (lowerS method) (by decide) creds) ?_
            by_cases c5 : allowsS hs methodsL (lowerS method) creds = true
            · rw [c5, Bool.true_and]
              exact hrest
            · rw [Bool.not_eq_true] at c5
              rw [c5, Bool.false_and]
              exact rpre_no creds ls code hs b t
      · rw [Bool.not_eq_true] at c3
        rw [c3]
        simp only [Bool.false_and]
        exact rpre_no creds ls code hs b t
def methods7 : List (List UInt8) := [[71, 69, 84], [80, 79, 83, 84], [80, 85, 84], [68, 69, 76, 69, 84, 69], [72, 69, 65, 68], [112, 117, 116], []]
def origins5 : List (List UInt8) := [[104, 116, 116, 112, 115, 58, 47, 47, 97, 46, 98], [104, 116, 116, 112, 58, 47, 47, 97, 46, 98], [110, 117, 108, 108], [42], []]
def midL : List UInt8 := [44, 32, 65, 44, 44, 98, 32, 44]
theorem CorsTells (a0 a1 a2 : Int) (l3 : List Int) (a4 : ByteArray) (a5 : Bool) (_w0 : (Lit.int .i64 a0).wf = true) (_w1 : (Lit.int .i64 a1).wf = true) (_w2 : (Lit.int .i64 a2).wf = true) (_m3 : l3.length ≤ maxLen) (_b3 : l3.length * 8 ≤ 140737488351232) (_w3 : ∀ x ∈ l3, (Lit.int .i64 x).wf = true) (_u3 : l3.length ≤ 1048576) (_w4 : a4.size ≤ 140737488351232) (_u4 : a4.size ≤ 1048576) :
    ∃ k, postilionlaw13_CorsTells.f k a0 a1 a2 l3 a4 a5 = some true := by
  refine Ev.rounds ?_
  obtain ⟨s, rfl⟩ := ex_B a4
  rw [B_size] at _u4
  obtain ⟨c, r, _, _, ⟨g1, g2, g3, g4⟩, he⟩ := reply_play a0 l3 (B s) (by omega)
  obtain ⟨ls, p1, p2, hp⟩ := heads_play a1
  have hor := small_okR (hs := r.2.1) (by omega) g2
  have hol := small_okR (hs := ls) (by omega) p2
  unfold postilionlaw13_CorsTells.f
  refine Ev.bind he ?_
  refine Ev.congr (f := fun k => (postilionplay_Heads.f k a1 (⟨#[]⟩ : ByteArray)).bind fun t180 => _) (fun k => rfl) ?_
  refine Ev.bind hp ?_
  generalize hq : wrap64 (Int.tdiv a1 7) = q
  have b3 := Int.emod_nonneg q (show (7 : Int) ≠ 0 by decide)
  have c3 := Int.emod_lt_of_pos q (show (0 : Int) < 7 by decide)
  have e3 := within_f q 7 (by decide) (by decide)
  obtain ⟨t, ht⟩ : ∃ t : Nat, (t : Int) = q % 7 := ⟨(q % 7).toNat, by omega⟩
  rw [← ht] at b3 c3 e3
  have ht7 : t < 7 := by omega
  have b4 := Int.emod_nonneg a2 (show (5 : Int) ≠ 0 by decide)
  have c4 := Int.emod_lt_of_pos a2 (show (0 : Int) < 5 by decide)
  have e4 := within_f a2 5 (by decide) (by decide)
  obtain ⟨u, hu⟩ : ∃ u : Nat, (u : Int) = a2 % 5 := ⟨(a2 % 5).toNat, by omega⟩
  rw [← hu] at b4 c4 e4
  have hu5 : u < 5 := by omega
  have r3 : rdOf ByteArray.empty (methods7.map B) (t : Int) = B (methods7.getD t []) := by
    unfold rdOf
    have : t < methods7.length := ht7
    simp [List.getD_eq_getElem?_getD, List.getElem?_eq_getElem this]
  have r4 : rdOf ByteArray.empty (origins5.map B) (u : Int) = B (origins5.getD u []) := by
    unfold rdOf
    have : u < origins5.length := hu5
    simp [List.getD_eq_getElem?_getD, List.getElem?_eq_getElem this]
  have hm : ∀ t : Fin 7, (methods7.getD t []).length ≤ 1000 := by decide
  have hml := hm ⟨t, ht7⟩
  change (methods7.getD t []).length ≤ 1000 at hml
  generalize methods7.getD t [] = m at *
  generalize origins5.getD u [] = o at *
  have hz2 : (s ++ midL ++ s).length = s.length + 8 + s.length := by rw [List.length_append, List.length_append]; rfl
  have hB2 : (B s ++ (⟨#[44, 32, 65, 44, 44, 98, 32, 44]⟩ : ByteArray)) ++ B s = B (s ++ midL ++ s) := by
    rw [show (⟨#[44, 32, 65, 44, 44, 98, 32, 44]⟩ : ByteArray) = B midL from rfl, B_append, B_append]
  have hl1 := listS_len s
  have hl2 := listS_len (s ++ midL ++ s)
  have hs1 := sames_f ((listS s).map B) (by rw [List.length_map]; omega)
  have hs2 := sames_f ((listS (s ++ midL ++ s)).map B) (by rw [List.length_map]; omega)
  refine Ev.congr (f := fun k => (cors_Plain.f k (B m) ls).bind fun t231 => ((postilionref01_Plain.f k (B m) ls).bind fun t232 => (if (t231 == t232) = true then ((cors_Check.f k r.1 r.2.1 r.2.2.1 r.2.2.2 (B o) a5).bind fun t239 => ((postilionref01_Cors.f k r.1 r.2.1 r.2.2.1 r.2.2.2 (B o) a5).bind fun t240 => (if (t239 == t240) = true then ((cors_Pre.f k r.1 r.2.1 r.2.2.1 r.2.2.2 (B o) a5 (B m) ls).bind fun t247 => ((postilionref01_Pre.f k r.1 r.2.1 r.2.2.1 r.2.2.2 (B o) a5 (B m) ls).bind fun t248 => (if (t247 == t248) = true then ((cors_List.f k (B s)).bind fun t249 => ((postilionref01_List.f k (B s)).bind fun t252 => ((postilionkeep_Same_string.f k t249 t252).bind fun t255 => (if t255 = true then ((cors_List.f k (B (s ++ midL ++ s))).bind fun t256 => ((postilionref01_List.f k (B (s ++ midL ++ s))).bind fun t259 => ((postilionkeep_Same_string.f k t256 t259).bind fun t262 => (if t262 = true then ((postilionlaw13_wakes.f k).bind fun t263 => (some t263)) else (some false))))) else (some false))))) else (some false)))) else (some false)))) else (some false)))) (fun k => ?_) ?_
  · rw [Option.bind_some]
    show ((postilionkeep_Within.f q 7).bind fun t224 => (if 0 ≤ t224 then (if t224 < 7 then ((postilionkeep_Within.f a2 5).bind fun t229 => (if 0 ≤ t229 then (if t229 < 5 then ((cors_Plain.f k (rdOf ByteArray.empty (methods7.map B) t224) ls).bind fun t231 => ((postilionref01_Plain.f k (rdOf ByteArray.empty (methods7.map B) t224) ls).bind fun t232 => (if (t231 == t232) = true then ((cors_Check.f k r.1 r.2.1 r.2.2.1 r.2.2.2 (rdOf ByteArray.empty (origins5.map B) t229) a5).bind fun t239 => ((postilionref01_Cors.f k r.1 r.2.1 r.2.2.1 r.2.2.2 (rdOf ByteArray.empty (origins5.map B) t229) a5).bind fun t240 => (if (t239 == t240) = true then ((cors_Pre.f k r.1 r.2.1 r.2.2.1 r.2.2.2 (rdOf ByteArray.empty (origins5.map B) t229) a5 (rdOf ByteArray.empty (methods7.map B) t224) ls).bind fun t247 => ((postilionref01_Pre.f k r.1 r.2.1 r.2.2.1 r.2.2.2 (rdOf ByteArray.empty (origins5.map B) t229) a5 (rdOf ByteArray.empty (methods7.map B) t224) ls).bind fun t248 => (if (t247 == t248) = true then ((cors_List.f k (B s)).bind fun t249 => ((postilionref01_List.f k (B s)).bind fun t252 => ((postilionkeep_Same_string.f k t249 t252).bind fun t255 => (if t255 = true then (if (B s).size + 8 ≤ 9223372036854775807 then (if (B s).size + 8 + (B s).size ≤ 9223372036854775807 then ((cors_List.f k ((B s ++ (⟨#[44, 32, 65, 44, 44, 98, 32, 44]⟩ : ByteArray)) ++ B s)).bind fun t256 => ((postilionref01_List.f k ((B s ++ (⟨#[44, 32, 65, 44, 44, 98, 32, 44]⟩ : ByteArray)) ++ B s)).bind fun t259 => ((postilionkeep_Same_string.f k t256 t259).bind fun t262 => (if t262 = true then ((postilionlaw13_wakes.f k).bind fun t263 => (some t263)) else (some false))))) else (none)) else (none)) else (some false))))) else (some false)))) else (some false)))) else (some false)))) else none) else none)) else none) else none)) = _
    rw [e3, Option.bind_some, if_pos b3, if_pos c3, e4, Option.bind_some, if_pos b4, if_pos c4, r3, r4, hB2, B_size]
    simp only [if_pos (show s.length + 8 ≤ 9223372036854775807 by omega), if_pos (show s.length + 8 + s.length ≤ 9223372036854775807 by omega)]
  · refine Ev.bind (plain_f m ls hol.1 hol.2) ?_
    refine Ev.bind (rplain_f m ls hol) ?_
    refine Ev.congr (fun k => if_pos (beq_self_eq_true _)) ?_
    refine Ev.bind (check_f r.1 r.2.1 hor r.2.2.1 r.2.2.2 o a5) ?_
    refine Ev.bind (rcheck_f r.1 r.2.1 hor r.2.2.1 r.2.2.2 o a5) ?_
    refine Ev.congr (fun k => if_pos (beq_self_eq_true _)) ?_
    refine Ev.bind (pre_f13 r.1 r.2.1 hor r.2.2.1 r.2.2.2 o a5 m (by omega) ls hol) ?_
    refine Ev.bind (rpre_f r.1 r.2.1 hor r.2.2.1 r.2.2.2 o a5 m (by omega) ls hol) ?_
    refine Ev.congr (fun k => if_pos (beq_self_eq_true _)) ?_
    refine Ev.bind (clist_f s (by omega)) ?_
    refine Ev.bind (rlist_f s (by omega)) ?_
    refine Ev.bind hs1 ?_
    refine Ev.congr (fun k => if_pos rfl) ?_
    refine Ev.bind (clist_f (s ++ midL ++ s) (by omega)) ?_
    refine Ev.bind (rlist_f (s ++ midL ++ s) (by omega)) ?_
    refine Ev.bind hs2 ?_
    refine Ev.congr (fun k => if_pos rfl) ?_
    exact Ev.bind wakes13_f (Ev.now _)
end Go.Proofs.YtllblgjhoeopjaaDoor.Pure
