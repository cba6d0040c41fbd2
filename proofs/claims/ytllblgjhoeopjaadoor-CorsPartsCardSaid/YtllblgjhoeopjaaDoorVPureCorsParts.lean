/- What the printed functions of CorsParts answer, in plain words. -/
import Derived.Test.YtllblgjhoeopjaaDoorVBasC
import Derived.Test.YtllblgjhoeopjaaDoorVGCorsPartsx
namespace Go.Proofs.YtllblgjhoeopjaaDoor.Pure
open Go.RowKit Go.Proofs.YtllblgjhoeopjaaDoorW.PrintWords Go.Proofs.YtllblgjhoeopjaaDoorW.PrintLast Go.Proofs.YtllblgjhoeopjaaDoorW.PrintMore
open Go.Proofs.YtllblgjhoeopjaaDoor.GCorsParts Go.Proofs.YtllblgjhoeopjaaDoor.GivC Go.Proofs.YtllblgjhoeopjaaDoor.Bas Go.Proofs.YtllblgjhoeopjaaDoor.Giv
theorem within_f (a n : Int) (h : 1 ≤ n) (hn : n ≤ 4611686018427387904) : postilionkeep_Within.f a n = some (a % n) := by
  unfold postilionkeep_Within.f
  rw [if_neg (by omega), if_neg (by omega), ← tmod_emod a n h hn]
  split <;> rfl
theorem w64 {x y : Int} (h : x = y) (h1 : -9223372036854775808 ≤ x) (h2 : x ≤ 9223372036854775807) : wrap64 x = y := by
  subst h
  unfold wrap64
  omega
theorem cut_f (l m : List UInt8) (h : l.length < 4294967281) : strings_Cut.f (B l) (B m) = some (B (Lib.cut l m).1, B (Lib.cut l m).2.1, (Lib.cut l m).2.2) := by
  unfold strings_Cut.f
  rw [if_pos (by rw [B_size]; exact h), data_B, data_B]
  rfl
theorem cut1_le (l m : List UInt8) : (Lib.cut l m).1.length ≤ l.length := by
  unfold Lib.cut
  split
  · simp; omega
  · exact Nat.le_refl _
def lowerS (l : List UInt8) : List UInt8 := l.map lowerB
theorem lower_f (l : List UInt8) (h : l.length ≤ 140737488351232) : pct_Lower.f (B l) = some (B (lowerS l)) := by
  unfold pct_Lower.f
  rw [if_pos (by rw [B_size]; exact h), data_B]
  rfl
def okH (l : List S27) : Prop := l.length ≤ 140737488351232 ∧ ∀ h ∈ l, h.f0.size ≤ 140737488351232 ∧ h.f1.size ≤ 140737488351232
/-- Blanks and the like. -/
def blankB (c : UInt8) : Bool := decide (c.toNat ≤ 32)
def trimS (l : List UInt8) : List UInt8 := ((l.dropWhile blankB).reverse.dropWhile blankB).reverse
theorem bt_first (a : UInt8) (l : List UInt8) : bt (B (a :: l)) 0 = (a.toNat : Int) := bt_B (a :: l) 0 (by simp)
theorem bt_last (a : UInt8) (m : List UInt8) : bt (B (m ++ [a])) (m.length : Int) = (a.toNat : Int) := by
  rw [bt_B (m ++ [a]) m.length (by simp)]
  simp
theorem blankB_yes {c : UInt8} (h : (c.toNat : Int) ≤ 32) : blankB c = true := by
  unfold blankB
  rw [decide_eq_true_eq]
  omega
theorem blankB_no {c : UInt8} (h : ¬ (c.toNat : Int) ≤ 32) : blankB c = false := by
  unfold blankB
  rw [decide_eq_false_iff_not]
  omega
theorem trimP_right : ∀ m : List UInt8, m.length ≤ 140737488351232 → Ev (fun k => pct_Trim.l1 k (B m.reverse)) (B (m.dropWhile blankB).reverse) := by
  intro m
  induction m with
  | nil =>
    intro _
    change Ev (fun k => pct_Trim.l1 k (B [])) (B [])
    exact Ev.step (f := fun _ => some (B [])) (fun k => by simp only [pct_Trim.l1]; rw [if_neg (by rw [B_size]; simp)]) (Ev.now _)
  | cons c m ih =>
    intro hz
    rw [List.length_cons] at hz
    have hl : (m.reverse ++ [c]).length = m.reverse.length + 1 := by rw [List.length_append, List.length_singleton]
    have hl2 : m.reverse.length = m.length := List.length_reverse
    have hw : wrap64 (((B (m.reverse ++ [c])).size : Int) - 1) = (m.reverse.length : Int) := by rw [B_size, hl]; exact w64 (by omega) (by omega) (by omega)
    rw [List.reverse_cons]
    by_cases g : (c.toNat : Int) ≤ 32
    · rw [List.dropWhile_cons_of_pos (blankB_yes g)]
      exact Ev.step (fun k => by
        simp only [pct_Trim.l1]
        rw [hw, if_pos (by rw [B_size, hl]; omega), if_pos (by omega), if_pos (by rw [B_size, hl]; omega), bt_last, if_pos g, if_pos (by rw [B_size, hl]; omega), B_extract, Int.toNat_natCast, List.drop_zero, List.take_left]) (ih (by omega))
    · rw [List.dropWhile_cons_of_neg (by rw [blankB_no g]; decide), List.reverse_cons]
      exact Ev.step (f := fun _ => some (B (m.reverse ++ [c]))) (fun k => by
        simp only [pct_Trim.l1]
        rw [hw, if_pos (by rw [B_size, hl]; omega), if_pos (by omega), if_pos (by rw [B_size, hl]; omega), bt_last, if_neg g]) (Ev.now _)
theorem trimP_left (res : ByteArray) : ∀ l : List UInt8, Ev (fun k => pct_Trim.j1 k (B (l.dropWhile blankB))) res → Ev (fun k => pct_Trim.l0 k (B l)) res := by
  intro l
  induction l with
  | nil =>
    intro he
    change Ev (fun k => pct_Trim.j1 k (B [])) res at he
    exact Ev.step (fun k => by simp only [pct_Trim.l0]; rw [if_neg (by rw [B_size]; simp)]) he
  | cons c l ih =>
    intro he
    by_cases g : (c.toNat : Int) ≤ 32
    · rw [List.dropWhile_cons_of_pos (blankB_yes g)] at he
      exact Ev.step (fun k => by
        simp only [pct_Trim.l0]
        rw [if_pos (by rw [B_size, List.length_cons]; omega), if_pos (by rw [B_size, List.length_cons]; omega), bt_first, if_pos g, if_pos (by rw [B_size, List.length_cons]; omega), B_extract, B_size, List.take_length, List.drop_succ_cons, List.drop_zero]) (ih he)
    · rw [List.dropWhile_cons_of_neg (by rw [blankB_no g]; decide)] at he
      exact Ev.step (fun k => by
        simp only [pct_Trim.l0]
        rw [if_pos (by rw [B_size, List.length_cons]; omega), if_pos (by rw [B_size, List.length_cons]; omega), bt_first, if_neg g]) he
theorem dropW_le (l : List UInt8) : (l.dropWhile blankB).length ≤ l.length := (List.dropWhile_sublist _).length_le
theorem trimS_le (l : List UInt8) : (trimS l).length ≤ l.length := by
  unfold trimS
  rw [List.length_reverse]
  refine Nat.le_trans (dropW_le _) ?_
  rw [List.length_reverse]
  exact dropW_le l
theorem ptrim_f (l : List UInt8) (hz : l.length ≤ 140737488351232) : Ev (fun k => pct_Trim.f k (B l)) (B (trimS l)) := by
  unfold pct_Trim.f trimS
  refine trimP_left _ l ?_
  refine Ev.step (f := fun k => pct_Trim.l1 k (B (l.dropWhile blankB))) (fun k => by simp only [pct_Trim.j1]) ?_
  have := trimP_right (l.dropWhile blankB).reverse (by rw [List.length_reverse]; have := dropW_le l; omega)
  rw [List.reverse_reverse] at this
  exact this
/-- The parts between commas. -/
def splitC : List UInt8 → List (List UInt8)
  | [] => [[]]
  | c :: s => if c = 44 then [] :: splitC s else match splitC s with
    | [] => [[c]]
    | p :: r => (c :: p) :: r
theorem splitC_ne (s : List UInt8) : splitC s ≠ [] := by
  cases s with
  | nil => simp [splitC]
  | cons c s =>
    unfold splitC
    split
    · simp
    · split <;> simp
theorem splitC_no : ∀ a : List UInt8, (44 : UInt8) ∉ a → splitC a = [a]
  | [], _ => rfl
  | c :: a, h => by
    have h1 : c ≠ 44 := fun e => h (by rw [e]; exact List.mem_cons_self)
    unfold splitC
    rw [if_neg h1, splitC_no a fun hm => h (List.mem_cons_of_mem _ hm)]
theorem splitC_yes (x y : List UInt8) : splitC (x ++ 44 :: y) = splitC x ++ splitC y := by
  induction x with
  | nil => simp [splitC]
  | cons c x ih =>
    rw [List.cons_append]
    show (if c = 44 then [] :: splitC (x ++ 44 :: y) else match splitC (x ++ 44 :: y) with | [] => [[c]] | p :: r => (c :: p) :: r) = (if c = 44 then [] :: splitC x else match splitC x with | [] => [[c]] | p :: r => (c :: p) :: r) ++ splitC y
    rw [ih]
    by_cases h : c = 44
    · rw [if_pos h, if_pos h]; rfl
    · rw [if_neg h, if_neg h]
      rcases hx : splitC x with _ | ⟨p, r⟩
      · exact absurd hx (splitC_ne x)
      · rfl
theorem first44 : ∀ l : List UInt8, (44 : UInt8) ∈ l → ∃ a r, l = a ++ 44 :: r ∧ (44 : UInt8) ∉ a
  | [], h => by cases h
  | c :: l, h => by
    by_cases hc : c = 44
    · exact ⟨[], l, by rw [hc]; rfl, by simp⟩
    · obtain ⟨a, r, rfl, ha⟩ := first44 l ((List.mem_cons.1 h).resolve_left (fun e => hc e.symm))
      exact ⟨c :: a, r, rfl, fun hm => (List.mem_cons.1 hm).elim (fun e => hc e.symm) ha⟩
theorem index_44 (a r : List UInt8) (h : (44 : UInt8) ∉ a) : Lib.index (a ++ 44 :: r) [44] = (a.length : Int) := by
  have := cut_yes a r 44 h
  refine Lib.index_first (i := a.length) (by simp) ?_ fun j hj => ?_
  · unfold Lib.occAt
    simp [List.isPrefixOf]
  · unfold Lib.occAt
    rw [List.drop_append_of_le_length (by omega)]
    cases hd : a.drop j with
    | nil => have := congrArg List.length hd; simp at this; omega
    | cons b q =>
      have hb : b ∈ a := List.mem_of_mem_drop (by rw [hd]; exact List.mem_cons_self)
      have : ((44 : UInt8) == b) = false := by
        rw [beq_eq_false_iff_ne]
        intro e
        exact h (e ▸ hb)
      simp [List.isPrefixOf, this]
theorem index_no44 (l : List UInt8) (h : (44 : UInt8) ∉ l) : Lib.index l [44] = -1 := by
  refine Lib.index_none fun j _ => ?_
  unfold Lib.occAt
  cases hd : l.drop j with
  | nil => rfl
  | cons b r =>
    have hb : b ∈ l := List.mem_of_mem_drop (by rw [hd]; exact List.mem_cons_self)
    have : ((44 : UInt8) == b) = false := by
      rw [beq_eq_false_iff_ne]
      intro e
      exact h (e ▸ hb)
    simp [List.isPrefixOf, this]
theorem splitK_C : ∀ (n : Nat) (s : List UInt8), s.length ≤ n → Lib.splitK [44] 0 (Lib.count s [44]) s = splitC s := by
  intro n
  induction n with
  | zero =>
    intro s hs
    have : s = [] := List.eq_nil_of_length_eq_zero (by omega)
    subst this
    rw [Lib.count_miss (index_no44 [] (by simp))]
    rfl
  | succ n ih =>
    intro s hs
    by_cases h : (44 : UInt8) ∈ s
    · obtain ⟨a, r, rfl, ha⟩ := first44 s h
      have hi := index_44 a r ha
      have hdr : (a ++ 44 :: r).drop (a.length + 1) = r := by
        rw [← List.drop_drop, List.drop_left]
        rfl
      have hc := Lib.count_hit (s := a ++ 44 :: r) (sub := [44]) (i := a.length) (by simp) hi
      rw [List.length_singleton, hdr] at hc
      rw [hc, Nat.add_comm 1, splitC_yes, splitC_no a ha]
      unfold Lib.splitK
      rw [hi, if_neg (by simp), Int.toNat_natCast, List.length_singleton, hdr, Nat.add_zero, List.take_left, ih r (by simp at hs; omega)]
      rfl
    · rw [Lib.count_miss (index_no44 s h), splitC_no s h]
      rfl
theorem splitB_C (s : List UInt8) : Lib.splitB (B [44]) 0 (Lib.countB (B s) (B [44])) (B s) = (splitC s).map B := by
  have h := Lib.splitB_data (B [44]) 0 (Lib.countB (B s) (B [44])) (B s)
  rw [data_B, data_B] at h
  have hc : Lib.countB (B s) (B [44]) = Lib.count s [44] := by
    show Lib.count (B s).data.toList (B [44]).data.toList = _
    rw [data_B, data_B]
  rw [hc, splitK_C s.length s (Nat.le_refl _)] at h
  rw [hc, ← h, List.map_map]
  exact (List.map_id _).symm.trans (List.map_congr_left fun x _ => rfl)
theorem splitC_len (s : List UInt8) : (splitC s).length ≤ s.length + 1 := by
  induction s with
  | nil => simp [splitC]
  | cons c s ih =>
    unfold splitC
    split
    · simp only [List.length_cons]; omega
    · split
      · simp
      · rename_i p r hx
        rw [hx] at ih
        simp only [List.length_cons] at ih ⊢
        omega
theorem splitC_le (s : List UInt8) : ∀ p ∈ splitC s, p.length ≤ s.length := by
  induction s with
  | nil => intro p hp; simp [splitC] at hp; rw [hp]; exact Nat.le_refl _
  | cons c s ih =>
    intro p hp
    unfold splitC at hp
    split at hp
    · rcases List.mem_cons.1 hp with rfl | hp
      · simp
      · have := ih p hp; simp only [List.length_cons]; omega
    · rcases hx : splitC s with _ | ⟨q, r⟩
      · exact absurd hx (splitC_ne s)
      · rw [hx] at hp ih
        rcases List.mem_cons.1 hp with rfl | hp
        · have := ih q List.mem_cons_self; simp only [List.length_cons]; omega
        · have := ih p (List.mem_cons_of_mem _ hp); simp only [List.length_cons]; omega
def partS (p : List UInt8) : List UInt8 := lowerS (trimS p)
def neB (p : List UInt8) : Bool := !p.isEmpty
/-- The parts of a list. -/
def listS (s : List UInt8) : List (List UInt8) := ((splitC s).map partS).filter neB
theorem listS_yes (x y : List UInt8) : listS (x ++ 44 :: y) = listS x ++ listS y := by
  unfold listS
  rw [splitC_yes, List.map_append, List.filter_append]
theorem clist_l (ps : List (List UInt8)) (hn : ps.length ≤ 4294967290) (hp : ∀ p ∈ ps, p.length ≤ 4294967290) : ∀ (d i : Nat) (acc : List (List UInt8)), ps.length - i = d → i ≤ ps.length → acc.length ≤ i →
    Ev (fun k => cors_List.l0 k (acc.map B) (ps.map B) (ps.length : Int) (i : Int)) ((acc ++ ((ps.drop i).map partS).filter neB).map B) := by
  intro d
  induction d with
  | zero =>
    intro i acc hd hi ha
    refine Ev.step (f := fun _ => some (acc.map B)) (fun k => by simp only [cors_List.l0]; rw [if_neg (by omega)]) ?_
    rw [List.drop_eq_nil_of_le (by omega)]
    simp only [List.map_nil, List.filter_nil, List.append_nil]
    exact Ev.now _
  | succ d ih =>
    intro i acc hd hi ha
    have hlt : i < ps.length := by omega
    have hs : ps.drop i = ps[i] :: ps.drop (i + 1) := List.drop_eq_getElem_cons hlt
    have hw : wrap64 ((i : Int) + 1) = ((i + 1 : Nat) : Int) := w64 (by omega) (by omega) (by omega)
    have hr : rdOf ByteArray.empty (ps.map B) (i : Int) = B ps[i] := by
      unfold rdOf
      simp [List.getD_eq_getElem?_getD, List.getElem?_eq_getElem hlt]
    have hpl := hp ps[i] (List.getElem_mem hlt)
    have htl := trimS_le ps[i]
    have hlow := lower_f (trimS ps[i]) (by omega)
    refine Ev.step (fun k => by
      simp only [cors_List.l0]
      rw [if_pos (by omega), if_pos (by omega), if_pos (by rw [List.length_map]; omega), hr]) ?_
    refine Ev.bind (ptrim_f ps[i] (by omega)) ?_
    rw [hlow]
    simp only [Option.bind_some]
    rw [hs, List.map_cons]
    by_cases g : partS ps[i] = []
    · rw [List.filter_cons_of_neg (by rw [g]; decide)]
      refine Ev.congr (fun k => by rw [if_pos (by rw [B_toList]; exact g), hw]) (ih (i + 1) acc (by omega) (by omega) (by omega))
    · rw [List.filter_cons_of_pos (by
        unfold neB
        rw [Bool.not_eq_true']
        rcases hq : partS ps[i] with _ | ⟨a, b⟩
        · exact absurd hq g
        · rfl)]
      have := ih (i + 1) (acc ++ [partS ps[i]]) (by omega) (by omega) (by rw [List.length_append, List.length_singleton]; omega)
      rw [List.append_assoc, List.singleton_append, List.map_append (l₁ := acc)] at this
      refine Ev.congr (fun k => by rw [if_neg (by rw [B_toList]; exact g), if_pos (by rw [List.length_map]; omega), hw]; rfl) this
theorem clist_f (s : List UInt8) (hz : s.length < 4294967281) : Ev (fun k => cors_List.f k (B s)) ((listS s).map B) := by
  unfold cors_List.f strings_Split.f
  have h1 : (⟨#[44]⟩ : ByteArray) = B [44] := rfl
  rw [h1, if_pos (by rw [B_size]; exact hz), if_pos (by rw [B_size]; simp), splitB_C]
  simp only [Option.bind_some, List.length_map]
  have hl := splitC_len s
  exact clist_l (splitC s) (by omega) (fun p hp => by have := splitC_le s p hp; omega) (splitC s).length 0 [] (by omega) (by omega) (by simp)
theorem sames_l (l : List ByteArray) (hl : l.length ≤ 140737488351232) : ∀ (d i : Nat), l.length - i = d → i ≤ l.length → Ev (fun k => postilionkeep_Same_string.l0 k l l (i : Int)) true := by
  intro d
  induction d with
  | zero =>
    intro i hd hi
    exact Ev.step (f := fun _ => some true) (fun k => by simp only [postilionkeep_Same_string.l0]; rw [if_neg (by omega)]) (Ev.now _)
  | succ d ih =>
    intro i hd hi
    have hw : wrap64 ((i : Int) + 1) = ((i + 1 : Nat) : Int) := w64 (by omega) (by omega) (by omega)
    refine Ev.step (f := fun k => postilionkeep_Same_string.l0 k l l ((i + 1 : Nat) : Int)) (fun k => by simp only [postilionkeep_Same_string.l0]; rw [if_pos (by omega), if_pos (by omega), if_pos (by omega), if_pos trivial, hw]) (ih (i + 1) (by omega) (by omega))
theorem sames_f (l : List ByteArray) (hl : l.length ≤ 140737488351232) : Ev (fun k => postilionkeep_Same_string.f k l l) true := by
  refine Ev.congr (f := fun k => postilionkeep_Same_string.l0 k l l ((0 : Nat) : Int)) (fun k => by unfold postilionkeep_Same_string.f; rw [if_pos rfl]; rfl) (sames_l l hl l.length 0 (by omega) (by omega))
/-- Is a word among some? -/
theorem index_l (ps : List (List UInt8)) (hn : ps.length ≤ 4294967290) (v : List UInt8) : ∀ (d i : Nat), ps.length - i = d → i ≤ ps.length →
    ∃ r : Int, Ev (fun k => slices_Index_string_string.l0 k (ps.map B) (B v) (ps.length : Int) (i : Int)) r ∧ decide (r ≥ 0) = (ps.drop i).any (· == v) := by
  intro d
  induction d with
  | zero =>
    intro i hd hi
    refine ⟨-1, Ev.step (f := fun _ => some (-1)) (fun k => by simp only [slices_Index_string_string.l0]; rw [if_neg (by omega)]) (Ev.now _), ?_⟩
    rw [List.drop_eq_nil_of_le (by omega)]
    rfl
  | succ d ih =>
    intro i hd hi
    have hlt : i < ps.length := by omega
    have hs : ps.drop i = ps[i] :: ps.drop (i + 1) := List.drop_eq_getElem_cons hlt
    have hw : wrap64 ((i : Int) + 1) = ((i + 1 : Nat) : Int) := w64 (by omega) (by omega) (by omega)
    have hr : rdOf ByteArray.empty (ps.map B) (i : Int) = B ps[i] := by
      unfold rdOf
      simp [List.getD_eq_getElem?_getD, List.getElem?_eq_getElem hlt]
    by_cases g : v = ps[i]
    · refine ⟨(i : Int), Ev.step (f := fun _ => some (i : Int)) (fun k => by
        simp only [slices_Index_string_string.l0]
        rw [if_pos (by omega), if_pos (by omega), if_pos (by rw [List.length_map]; omega), hr, B_toList, B_toList, if_pos g]) (Ev.now _), ?_⟩
      rw [hs, List.any_cons, g, beq_self_eq_true, Bool.true_or, decide_eq_true_eq]
      omega
    · obtain ⟨r, he, hd2⟩ := ih (i + 1) (by omega) (by omega)
      refine ⟨r, Ev.step (fun k => by
        simp only [slices_Index_string_string.l0]
        rw [if_pos (by omega), if_pos (by omega), if_pos (by rw [List.length_map]; omega), hr, B_toList, B_toList, if_neg g, hw]) he, ?_⟩
      rw [hs, List.any_cons, hd2, show (ps[i] == v) = false by rw [beq_eq_false_iff_ne]; exact fun e => g e.symm, Bool.false_or]
theorem contains_f (ps : List (List UInt8)) (hn : ps.length ≤ 4294967290) (v : List UInt8) : Ev (fun k => slices_Contains_string_string.f k (ps.map B) (B v)) (ps.any (· == v)) := by
  unfold slices_Contains_string_string.f slices_Index_string_string.f
  obtain ⟨r, he, hd⟩ := index_l ps hn v ps.length 0 (by omega) (by omega)
  rw [List.drop_zero] at hd
  rw [List.length_map]
  refine Ev.bind he ?_
  rw [hd]
  exact Ev.now _
def commons : List (List UInt8) := [[71, 69, 84], [72, 69, 65, 68], [80, 79, 83, 84]]
theorem common_f (m : List UInt8) : Ev (fun k => cors_common.f k (B m)) (commons.any (· == m)) := by
  unfold cors_common.f
  exact Ev.bind (contains_f commons (by decide) m) (Ev.now _)
def plainT : List UInt8 := [116, 101, 120, 116, 47, 112, 108, 97, 105, 110]
/-- Is a header simple? -/
def simpleS (h : S27) : Bool :=
  if lowerS h.f0.data.toList = [97, 99, 99, 101, 112, 116] then true
  else if lowerS h.f0.data.toList = [97, 99, 99, 101, 112, 116, 45, 108, 97, 110, 103] then true
  else if lowerS h.f0.data.toList = [99, 111, 110, 116, 101, 110, 116, 45, 116, 121, 112, 101] then partS (Lib.cut h.f1.data.toList [59]).1 == plainT
  else false
def okW (h : S27) : Prop := h.f0.size ≤ 1000000 ∧ h.f1.size ≤ 1000000
theorem simple_f (h : S27) (ho : okW h) : Ev (fun k => head_Simple.f k h.f0 h.f1) (simpleS h) := by
  obtain ⟨n, hn⟩ := ex_B h.f0
  obtain ⟨v, hv⟩ := ex_B h.f1
  obtain ⟨h1, h2⟩ := ho
  rw [hn, B_size] at h1
  rw [hv, B_size] at h2
  unfold simpleS head_Simple.f
  rw [hn, hv, data_B, data_B, lower_f n (by omega)]
  simp only [Option.bind_some, B_toList]
  have hc : strings_Cut.f (B v) (⟨#[59]⟩ : ByteArray) = _ := cut_f v [59] (by omega)
  have hcl := cut1_le v [59]
  have htl := trimS_le (Lib.cut v [59]).1
  have hlow := lower_f (trimS (Lib.cut v [59]).1) (by omega)
  by_cases g1 : lowerS n = [97, 99, 99, 101, 112, 116]
  · rw [if_pos g1]
    refine Ev.congr (fun k => if_pos g1) ?_
    rw [show (lowerS n == [97, 99, 99, 101, 112, 116]) = true by rw [beq_iff_eq]; exact g1]
    exact Ev.step (f := fun _ => some true) (fun k => by simp only [head_Simple.j0, if_true]) (Ev.now _)
  · rw [if_neg g1]
    refine Ev.congr (fun k => if_neg g1) ?_
    by_cases g2 : lowerS n = [97, 99, 99, 101, 112, 116, 45, 108, 97, 110, 103]
    · rw [if_pos g2, show (lowerS n == [97, 99, 99, 101, 112, 116, 45, 108, 97, 110, 103]) = true by rw [beq_iff_eq]; exact g2]
      exact Ev.step (f := fun _ => some true) (fun k => by simp only [head_Simple.j0, if_true]) (Ev.now _)
    · rw [if_neg g2, show (lowerS n == [97, 99, 99, 101, 112, 116, 45, 108, 97, 110, 103]) = false by rw [beq_eq_false_iff_ne]; exact g2]
      by_cases g3 : lowerS n = [99, 111, 110, 116, 101, 110, 116, 45, 116, 121, 112, 101]
      · rw [if_pos g3]
        refine Ev.step (fun k => by
          simp only [head_Simple.j0]
          rw [if_neg (by decide), if_pos (by rw [B_toList]; exact g3), hc]) ?_
        simp only [Option.bind_some]
        refine Ev.bind (ptrim_f (Lib.cut v [59]).1 (by omega)) ?_
        rw [hlow]
        simp only [Option.bind_some, B_toList]
        exact Ev.now _
      · rw [if_neg g3]
        exact Ev.step (f := fun _ => some false) (fun k => by
          simp only [head_Simple.j0]
          rw [if_neg (by decide), if_neg (by rw [B_toList]; exact g3)]) (Ev.now _)
/-- The names of those that are not simple, as they come. -/
def rawS (hs : List S27) : List (List UInt8) := (hs.filter fun h => !simpleS h).map fun h => lowerS h.f0.data.toList
def unsafeS (hs : List S27) : List (List UInt8) := Lib.compact ((rawS hs).mergeSort fun x y => decide (x ≤ y))
theorem lst_map (l : List (List UInt8)) : GivC.lst (l.map B) = l := by
  unfold GivC.lst
  rw [List.map_map]
  refine (List.map_congr_left (g := id) fun x _ => ?_).trans (List.map_id _)
  exact data_B x
theorem unl_map (l : List (List UInt8)) : GivC.unl l = l.map B := rfl
theorem unsafe_l (hs : List S27) (hn : hs.length ≤ 1000000) (ho : ∀ h ∈ hs, okW h) : ∀ (d i : Nat) (acc : List (List UInt8)), hs.length - i = d → i ≤ hs.length → acc.length ≤ i →
    Ev (fun k => head_Unsafe.l0 k (acc.map B) hs (hs.length : Int) (i : Int)) ((Lib.compact ((acc ++ rawS (hs.drop i)).mergeSort fun x y => decide (x ≤ y))).map B) := by
  intro d
  induction d with
  | zero =>
    intro i acc hd hi ha
    have hsz : ((acc.map B).length < 4611686018427387904) := by rw [List.length_map]; omega
    have hs2 : slices_Sort_string_string.f (acc.map B) = some ((acc.mergeSort fun x y => decide (x ≤ y)).map B) := by
      unfold slices_Sort_string_string.f
      rw [if_pos hsz, lst_map, unl_map]
    have hc2 : slices_Compact_string_string.f ((acc.mergeSort fun x y => decide (x ≤ y)).map B) = some ((Lib.compact (acc.mergeSort fun x y => decide (x ≤ y))).map B) := by
      unfold slices_Compact_string_string.f
      rw [if_pos (by rw [List.length_map, List.length_mergeSort]; omega), lst_map, unl_map]
    refine Ev.step (f := fun _ => some ((Lib.compact (acc.mergeSort fun x y => decide (x ≤ y))).map B)) (fun k => by
      simp only [head_Unsafe.l0]
      rw [if_neg (by omega), hs2]
      simp only [Option.bind_some]
      rw [hc2]
      rfl) ?_
    rw [List.drop_eq_nil_of_le (by omega), show rawS [] = [] from rfl, List.append_nil]
    exact Ev.now _
  | succ d ih =>
    intro i acc hd hi ha
    have hlt : i < hs.length := by omega
    have hsd : hs.drop i = hs[i] :: hs.drop (i + 1) := List.drop_eq_getElem_cons hlt
    have hw : wrap64 ((i : Int) + 1) = ((i + 1 : Nat) : Int) := w64 (by omega) (by omega) (by omega)
    have hr : rd_T27 hs (i : Int) = hs[i] := by
      unfold rd_T27
      simp [List.getD_eq_getElem?_getD, List.getElem?_eq_getElem hlt]
    have hoi := ho hs[i] (List.getElem_mem hlt)
    have hlow : pct_Lower.f hs[i].f0 = some (B (lowerS hs[i].f0.data.toList)) := by
      have := lower_f hs[i].f0.data.toList (by rw [data_length]; have := hoi.1; omega)
      rw [B_data] at this
      exact this
    refine Ev.step (fun k => by
      simp only [head_Unsafe.l0]
      rw [if_pos (by omega), if_pos (by omega), if_pos (by omega), hr]) ?_
    refine Ev.bind (simple_f hs[i] hoi) ?_
    rw [hsd]
    by_cases g : simpleS hs[i] = true
    · have e : rawS (hs[i] :: hs.drop (i + 1)) = rawS (hs.drop (i + 1)) := by
        unfold rawS
        rw [List.filter_cons_of_neg (by rw [g]; decide)]
      rw [e]
      refine Ev.congr (fun k => by rw [if_pos g, hw]) (ih (i + 1) acc (by omega) (by omega) (by omega))
    · have e : rawS (hs[i] :: hs.drop (i + 1)) = lowerS hs[i].f0.data.toList :: rawS (hs.drop (i + 1)) := by
        unfold rawS
        rw [List.filter_cons_of_pos (by rw [Bool.not_eq_true] at g; rw [g]; rfl)]
        rfl
      have := ih (i + 1) (acc ++ [lowerS hs[i].f0.data.toList]) (by omega) (by omega) (by rw [List.length_append, List.length_singleton]; omega)
      rw [e]
      rw [List.append_assoc, List.singleton_append, List.map_append] at this
      refine Ev.congr (fun k => by
        rw [if_neg g, hlow]
        simp only [Option.bind_some]
        rw [if_pos (by rw [List.length_map]; omega), hw]
        rfl) this
theorem unsafe_f (hs : List S27) (hn : hs.length ≤ 1000000) (ho : ∀ h ∈ hs, okW h) : Ev (fun k => head_Unsafe.f k hs) ((unsafeS hs).map B) := by
  have := unsafe_l hs hn ho hs.length 0 [] (by omega) (by omega) (by simp)
  rw [List.drop_zero, List.nil_append] at this
  exact this
theorem plain_f (m : List UInt8) (hs : List S27) (hn : hs.length ≤ 1000000) (ho : ∀ h ∈ hs, okW h) : Ev (fun k => cors_Plain.f k (B m) hs) (commons.any (· == m) && (unsafeS hs).isEmpty) := by
  unfold cors_Plain.f
  refine Ev.bind (common_f m) ?_
  by_cases g : commons.any (· == m) = true
  · rw [g]
    simp only [if_true, Bool.true_and]
    refine Ev.bind (unsafe_f hs hn ho) ?_
    refine Ev.congr (f := fun _ => some _) (fun k => ?_) (Ev.now _)
    congr 1
    rw [List.length_map]
    rcases unsafeS hs with _ | ⟨a, r⟩
    · rfl
    · rw [List.isEmpty_cons, beq_eq_false_iff_ne, List.length_cons]
      omega
  · rw [Bool.not_eq_true] at g
    rw [g, Bool.false_and]
    exact Ev.now _
theorem unsafe_nil : unsafeS [] = [] := by
  unfold unsafeS rawS
  rw [List.filter_nil, List.map_nil]
  simp [Lib.compact, Lib.compactUpTo]
theorem wakes13_f : Ev (fun k => postilionlaw13_wakes.f k) true := by
  unfold postilionlaw13_wakes.f
  have p1 := plain_f [71, 69, 84] [] (by decide) (fun h hm => by cases hm)
  have p2 := plain_f [80, 85, 84] [] (by decide) (fun h hm => by cases hm)
  rw [unsafe_nil] at p1 p2
  refine Ev.bind p1 ?_
  refine Ev.congr (fun k => if_pos (by decide)) ?_
  exact Ev.bind p2 (Ev.now _)
theorem splitC_snoc (c : UInt8) (hc : c ≠ 44) : ∀ s : List UInt8, ∃ i l, splitC s = i ++ [l] ∧ splitC (s ++ [c]) = i ++ [l ++ [c]]
  | [] => ⟨[], [], rfl, by
    show (if c = 44 then _ else _) = _
    rw [if_neg hc]
    rfl⟩
  | a :: s => by
    obtain ⟨i, l, h1, h2⟩ := splitC_snoc c hc s
    rw [List.cons_append]
    show ∃ i l, (if a = 44 then [] :: splitC s else match splitC s with | [] => [[a]] | p :: r => (a :: p) :: r) = i ++ [l] ∧ (if a = 44 then [] :: splitC (s ++ [c]) else match splitC (s ++ [c]) with | [] => [[a]] | p :: r => (a :: p) :: r) = i ++ [l ++ [c]]
    rw [h1, h2]
    by_cases h : a = 44
    · rw [if_pos h, if_pos h]
      exact ⟨[] :: i, l, rfl, rfl⟩
    · rw [if_neg h, if_neg h]
      rcases i with _ | ⟨p, i⟩
      · exact ⟨[], a :: l, rfl, rfl⟩
      · exact ⟨(a :: p) :: i, l, rfl, rfl⟩
theorem trimS_snoc (l : List UInt8) (c : UInt8) (hb : blankB c = true) : trimS (l ++ [c]) = trimS l := by
  unfold trimS
  rw [List.dropWhile_append]
  rcases h : l.dropWhile blankB with _ | ⟨a, r⟩
  · rw [List.isEmpty_nil, if_pos rfl, List.dropWhile_cons_of_pos hb]
    rfl
  · rw [List.isEmpty_cons, if_neg (by decide), List.reverse_append, List.reverse_singleton, List.singleton_append, List.dropWhile_cons_of_pos hb]
theorem listS_snoc (s : List UInt8) (c : UInt8) (hc : c ≠ 44) (hb : blankB c = true) : listS (s ++ [c]) = listS s := by
  obtain ⟨i, l, h1, h2⟩ := splitC_snoc c hc s
  unfold listS
  rw [h1, h2, List.map_append, List.map_append, List.filter_append, List.filter_append]
  congr 1
  unfold partS
  rw [List.map_singleton, List.map_singleton, trimS_snoc l c hb]
def srcP : List (List UInt8) := [[97], [66], [120, 45, 79, 110, 101], [], [32, 32], [42]]
def wantP : List (List UInt8) := [[97], [98], [120, 45, 111, 110, 101], [], [], [42]]
def sepP : List (List UInt8) := [[44], [32, 44], [44, 32, 32], [9, 44]]
def oneP (t : Nat) : List (List UInt8) := if wantP.getD t [] = [] then [] else [wantP.getD t []]
theorem part_one : ∀ t : Fin 6, listS (srcP.getD t []) = oneP t ∧ listS ([32, 32] ++ srcP.getD t []) = oneP t ∧ (srcP.getD t []).length ≤ 5 := by decide
theorem part_sep (s : List UInt8) (t : Fin 6) : ∀ u : Fin 4, listS (s ++ sepP.getD u [] ++ srcP.getD t []) = listS s ++ oneP t ∧ (sepP.getD u []).length ≤ 3 := by
  obtain ⟨h1, h2, _⟩ := part_one t
  generalize srcP.getD t [] = p at *
  intro u
  match u with
  | 0 =>
    refine ⟨?_, by decide⟩
    show listS (s ++ [44] ++ p) = _
    rw [List.append_assoc, List.singleton_append, listS_yes, h1]
  | 1 =>
    refine ⟨?_, by decide⟩
    show listS (s ++ [32, 44] ++ p) = _
    rw [show s ++ [32, 44] ++ p = (s ++ [32]) ++ 44 :: p by simp, listS_yes, listS_snoc s 32 (by decide) (by decide), h1]
  | 2 =>
    refine ⟨?_, by decide⟩
    show listS (s ++ [44, 32, 32] ++ p) = _
    rw [show s ++ [44, 32, 32] ++ p = s ++ 44 :: ([32, 32] ++ p) by simp, listS_yes, h2]
  | 3 =>
    refine ⟨?_, by decide⟩
    show listS (s ++ [9, 44] ++ p) = _
    rw [show s ++ [9, 44] ++ p = (s ++ [9]) ++ 44 :: p by simp, listS_yes, listS_snoc s 9 (by decide) (by decide), h1]
theorem rdOf_map (l : List (List UInt8)) (t : Nat) (h : t < l.length) : rdOf ByteArray.empty (l.map B) (t : Int) = B (l.getD t []) := by
  unfold rdOf
  simp [List.getD_eq_getElem?_getD, List.getElem?_eq_getElem h]
theorem parts_end (l0 : List Int) (src : List ByteArray) (s : List UInt8) (want : List (List UInt8)) (i : Int) (hs : s.length ≤ 1000) (hw : listS s = want) (hn : want.length ≤ 1000) :
    Ev (fun k => postilionlaw13_CorsParts.j1 k l0 src (B s) (want.map B) i false) true := by
  have e2 : listS ([44] ++ s ++ [44, 44]) = want := by
    rw [show [44] ++ s ++ [44, 44] = [] ++ 44 :: (s ++ 44 :: (([] : List UInt8) ++ 44 :: [])) by simp, listS_yes, listS_yes, listS_yes, hw]
    show ([] : List (List UInt8)) ++ (want ++ ([] ++ [])) = _
    simp
  have c1 := clist_f s (by omega)
  have c2 := clist_f ([44] ++ s ++ [44, 44]) (by simp only [List.length_append, List.length_cons, List.length_nil]; omega)
  rw [hw] at c1
  rw [e2] at c2
  refine Ev.step (fun k => by simp only [postilionlaw13_CorsParts.j1]; rw [if_neg (by decide)]) ?_
  refine Ev.bind c1 ?_
  refine Ev.bind (sames_f (want.map B) (by rw [List.length_map]; omega)) ?_
  refine Ev.congr (fun k => by
    rw [if_pos rfl, if_pos (by rw [B_size]; omega), if_pos (by rw [B_size]; omega), show (((⟨#[44]⟩ : ByteArray) ++ B s) ++ (⟨#[44, 44]⟩ : ByteArray)) = B ([44] ++ s ++ [44, 44]) by
      show ((B [44] ++ B s) ++ B [44, 44]) = _
      rw [B_append, B_append]]) ?_
  refine Ev.bind c2 ?_
  refine Ev.bind (sames_f (want.map B) (by rw [List.length_map]; omega)) ?_
  refine Ev.congr (fun k => if_pos rfl) ?_
  exact Ev.bind wakes13_f (Ev.now _)
theorem parts_l (l0 : List Int) (_hl : l0.length ≤ 140737488351232) : ∀ (d i : Nat) (s : List UInt8) (want : List (List UInt8)), 8 - i = d → i ≤ 8 → i ≤ l0.length → s.length ≤ 8 * i → listS s = want → want.length ≤ i → (i = 0 → s = []) →
    Ev (fun k => postilionlaw13_CorsParts.l0 k l0 (srcP.map B) (B s) (want.map B) (i : Int)) true := by
  intro d
  induction d with
  | zero =>
    intro i s want hd hi hil hs hw hn h0
    have he := parts_end l0 (srcP.map B) s want (i : Int) (by omega) hw (by omega)
    by_cases g : (i : Int) < (l0.length : Int)
    · exact Ev.step (fun k => by simp only [postilionlaw13_CorsParts.l0]; rw [if_pos g, decide_eq_false (by omega)]) he
    · exact Ev.step (fun k => by simp only [postilionlaw13_CorsParts.l0]; rw [if_neg g]) he
  | succ d ih =>
    intro i s want hd hi hil hs hw hn h0
    by_cases g : (i : Int) < (l0.length : Int)
    · refine Ev.step (f := fun k => postilionlaw13_CorsParts.j1 k l0 (srcP.map B) (B s) (want.map B) (i : Int) true) (fun k => by simp only [postilionlaw13_CorsParts.l0]; rw [if_pos g, decide_eq_true (by omega)]) ?_
      have hw1 : wrap64 ((i : Int) + 1) = ((i + 1 : Nat) : Int) := w64 (by omega) (by omega) (by omega)
      generalize hx : rd l0 (i : Int) = x
      have b6 := Int.emod_nonneg x (show (6 : Int) ≠ 0 by decide)
      have c6 := Int.emod_lt_of_pos x (show (0 : Int) < 6 by decide)
      have e6 := within_f x 6 (by decide) (by decide)
      obtain ⟨t, ht⟩ : ∃ t : Nat, (t : Int) = x % 6 := ⟨(x % 6).toNat, by omega⟩
      rw [← ht] at b6 c6 e6
      have b4 := Int.emod_nonneg (wrap64 (Int.tdiv x 6)) (show (4 : Int) ≠ 0 by decide)
      have c4 := Int.emod_lt_of_pos (wrap64 (Int.tdiv x 6)) (show (0 : Int) < 4 by decide)
      have e4 := within_f (wrap64 (Int.tdiv x 6)) 4 (by decide) (by decide)
      obtain ⟨u, hu⟩ : ∃ u : Nat, (u : Int) = wrap64 (Int.tdiv x 6) % 4 := ⟨(wrap64 (Int.tdiv x 6) % 4).toNat, by omega⟩
      rw [← hu] at b4 c4 e4
      have ht6 : t < 6 := by omega
      have hu4 : u < 4 := by omega
      obtain ⟨p1, _, p3⟩ := part_one ⟨t, ht6⟩
      obtain ⟨q1, q3⟩ := part_sep s ⟨t, ht6⟩ ⟨u, hu4⟩
      have r1 := rdOf_map srcP t ht6
      have r2 := rdOf_map wantP t ht6
      have r3 := rdOf_map sepP u hu4
      have o1 : oneP t = if wantP.getD t [] = [] then [] else [wantP.getD t []] := rfl
      change listS (srcP.getD t []) = oneP t at p1
      change (srcP.getD t []).length ≤ 5 at p3
      change listS (s ++ sepP.getD u [] ++ srcP.getD t []) = listS s ++ oneP t at q1
      change (sepP.getD u []).length ≤ 3 at q3
      generalize srcP.getD t [] = p at *
      generalize sepP.getD u [] = q at *
      generalize wantP.getD t [] = v at *
      have hv : Ev (fun k => if (B v).toList = ([] : List UInt8) then postilionlaw13_CorsParts.l0 k l0 (srcP.map B) (B (if i = 0 then s ++ p else s ++ q ++ p)) (want.map B) ((i + 1 : Nat) : Int) else if (want.map B).length < 8796093022208 then postilionlaw13_CorsParts.l0 k l0 (srcP.map B) (B (if i = 0 then s ++ p else s ++ q ++ p)) (want.map B ++ [B v]) ((i + 1 : Nat) : Int) else none) true := by
        have hl2 : (if i = 0 then s ++ p else s ++ q ++ p).length ≤ 8 * (i + 1) := by
          split
          · rw [List.length_append]; omega
          · rw [List.length_append, List.length_append]; omega
        have hs2 : listS (if i = 0 then s ++ p else s ++ q ++ p) = want ++ oneP t := by
          split
          · rename_i hi0
            have := h0 hi0
            subst this
            rw [List.nil_append, p1, ← hw]
            rfl
          · rw [q1, hw]
        generalize (if i = 0 then s ++ p else s ++ q ++ p) = s2 at *
        by_cases gv : v = []
        · rw [if_pos gv] at o1
          rw [o1, List.append_nil] at hs2
          exact Ev.congr (fun k => if_pos (by rw [B_toList]; exact gv)) (ih (i + 1) s2 want (by omega) (by omega) (by omega) hl2 hs2 (by omega) (by omega))
        · rw [if_neg gv] at o1
          rw [o1] at hs2
          have := ih (i + 1) s2 (want ++ [v]) (by omega) (by omega) (by omega) hl2 hs2 (by rw [List.length_append, List.length_singleton]; omega) (by omega)
          rw [List.map_append] at this
          exact Ev.congr (fun k => by rw [if_neg (by rw [B_toList]; exact gv), if_pos (by rw [List.length_map]; omega)]; rfl) this
      by_cases gi : i = 0
      · rw [if_pos gi] at hv
        refine Ev.step (fun k => by
          simp only [postilionlaw13_CorsParts.j1]
          rw [if_pos trivial, if_pos (by omega), if_pos g, hx, e6, Option.bind_some, if_pos b6, if_pos (by rw [List.length_map]; exact c6), if_neg (by omega), r1, if_pos (by rw [B_size, B_size]; omega), B_append]
          show (if 0 ≤ (t : Int) then (if (t : Int) < 6 then (if (rdOf ByteArray.empty (wantP.map B) (t : Int)).toList = ([] : List UInt8) then postilionlaw13_CorsParts.l0 k l0 (srcP.map B) (B (s ++ p)) (want.map B) (wrap64 ((i : Int) + 1)) else if (want.map B).length < 8796093022208 then postilionlaw13_CorsParts.l0 k l0 (srcP.map B) (B (s ++ p)) (want.map B ++ [rdOf ByteArray.empty (wantP.map B) (t : Int)]) (wrap64 ((i : Int) + 1)) else none) else none) else none) = _
          rw [if_pos b6, if_pos c6, r2, hw1]) hv
      · rw [if_neg gi] at hv
        refine Ev.step (fun k => by
          simp only [postilionlaw13_CorsParts.j1]
          rw [if_pos trivial, if_pos (by omega), if_pos g, hx, e6, Option.bind_some, if_pos b6, if_pos (by rw [List.length_map]; exact c6), if_pos (by omega)]
          show ((postilionkeep_Within.f (wrap64 (Int.tdiv x 6)) 4).bind fun t152 => _) = _
          rw [e4, Option.bind_some, if_pos b4]
          show (if (u : Int) < 4 then (if (B s).size + (rdOf ByteArray.empty (sepP.map B) (u : Int)).size ≤ 9223372036854775807 then (if (B s).size + ((rdOf ByteArray.empty (sepP.map B) (u : Int)).size) + (rdOf ByteArray.empty (srcP.map B) (t : Int)).size ≤ 9223372036854775807 then ((some (t : Int)).bind fun t158 => (if 0 ≤ t158 then (if t158 < 6 then (if (rdOf ByteArray.empty (wantP.map B) t158).toList = ([] : List UInt8) then postilionlaw13_CorsParts.l0 k l0 (srcP.map B) ((B s ++ (rdOf ByteArray.empty (sepP.map B) (u : Int))) ++ (rdOf ByteArray.empty (srcP.map B) (t : Int))) (want.map B) (wrap64 ((i : Int) + 1)) else if (want.map B).length < 8796093022208 then postilionlaw13_CorsParts.l0 k l0 (srcP.map B) ((B s ++ (rdOf ByteArray.empty (sepP.map B) (u : Int))) ++ (rdOf ByteArray.empty (srcP.map B) (t : Int))) (want.map B ++ [rdOf ByteArray.empty (wantP.map B) t158]) (wrap64 ((i : Int) + 1)) else none) else none) else none)) else none) else none) else none) = _
          rw [if_pos c4, r3, r1, if_pos (by rw [B_size, B_size]; omega), if_pos (by rw [B_size, B_size, B_size]; omega), Option.bind_some, if_pos b6, if_pos c6, r2, hw1, B_append, B_append]) hv
    · have he := parts_end l0 (srcP.map B) s want (i : Int) (by omega) hw (by omega)
      exact Ev.step (fun k => by simp only [postilionlaw13_CorsParts.l0]; rw [if_neg g]) he
theorem CorsParts (l0 : List Int) (_m0 : l0.length ≤ maxLen) (_b0 : l0.length * 8 ≤ 140737488351232) (_w0 : ∀ x ∈ l0, (Lit.int .i64 x).wf = true) : ∃ k, postilionlaw13_CorsParts.f k l0 = some true := by
  refine Ev.rounds ?_
  unfold postilionlaw13_CorsParts.f
  exact parts_l l0 (by omega) 8 0 [] [] (by omega) (by omega) (by omega) (by simp) (by rfl) (by simp) (fun _ => rfl)
end Go.Proofs.YtllblgjhoeopjaaDoor.Pure
