/- What the functions that cors.Pre reaches answer, in plain words. -/
import Derived.Test.YtllblgjhoeopjaaDoorVBasC
import Derived.Test.YtllblgjhoeopjaaDoorVGivPre
import Derived.Lib.SplitLaws
namespace Go.Proofs.YtllblgjhoeopjaaDoor.Pure
open Go.RowKit Go.Proofs.YtllblgjhoeopjaaDoorW.PrintWords Go.Proofs.YtllblgjhoeopjaaDoorW.PrintLast Go.Proofs.YtllblgjhoeopjaaDoorW.PrintMore
open Go.Proofs.YtllblgjhoeopjaaDoor.GPre Go.Proofs.YtllblgjhoeopjaaDoor.GivC Go.Proofs.YtllblgjhoeopjaaDoor.GivPre Go.Proofs.YtllblgjhoeopjaaDoor.Bas Go.Proofs.YtllblgjhoeopjaaDoor.Giv
theorem w64 {x y : Int} (h : x = y) (h1 : -9223372036854775808 ≤ x) (h2 : x ≤ 9223372036854775807) : wrap64 x = y := by
  subst h
  unfold wrap64
  omega
theorem cut_f (l m : List UInt8) (h : l.length < 4294967281) : strings_Cut.f (B l) (B m) = some (B (Lib.cut l m).1, B (Lib.cut l m).2.1, (Lib.cut l m).2.2) := by
  unfold strings_Cut.f
  rw [if_pos (by rw [B_size]; exact h), data_B, data_B]
  rfl
theorem cut1_le (l m : List UInt8) : (Lib.cut l m).1.length ≤ l.length := by
  unfold Lib.cut
  split
  · simp; omega
  · exact Nat.le_refl _
def lowerS (l : List UInt8) : List UInt8 := l.map lowerB
theorem lower_f (l : List UInt8) (h : l.length ≤ 140737488351232) : pct_Lower.f (B l) = some (B (lowerS l)) := by
  unfold pct_Lower.f
  rw [if_pos (by rw [B_size]; exact h), data_B]
  rfl
/-- The value of a name. -/
def getS (name : List UInt8) (l : List S27) : ByteArray × Bool :=
  match l with
  | [] => (⟨#[]⟩, false)
  | h :: r => if lowerS h.f0.data.toList = lowerS name then (h.f1, true) else getS name r
def okH (l : List S27) : Prop := l.length ≤ 140737488351232 ∧ ∀ h ∈ l, h.f0.size ≤ 140737488351232 ∧ h.f1.size ≤ 140737488351232
theorem get_l (name : List UInt8) (hn : name.length ≤ 140737488351232) (l : List S27) (hl : okH l) : ∀ (d i : Nat), l.length - i = d → i ≤ l.length →
    Ev (fun k => head_Get.l0 k (B name) l (l.length : Int) (i : Int)) (getS name (l.drop i)) := by
  intro d
  induction d with
  | zero =>
    intro i hd hi
    refine Ev.step (f := fun _ => some (⟨#[]⟩, false)) (fun k => by simp only [head_Get.l0]; rw [if_neg (by omega)]) ?_
    rw [List.drop_eq_nil_of_le (by omega)]
    exact Ev.now _
  | succ d ih =>
    intro i hd hi
    have hlt : i < l.length := by omega
    have hs : l.drop i = l[i] :: l.drop (i + 1) := List.drop_eq_getElem_cons hlt
    have hr : rd_T27 l (i : Int) = l[i] := by
      unfold rd_T27
      simp [List.getD_eq_getElem?_getD, List.getElem?_eq_getElem hlt]
    have hw : wrap64 ((i : Int) + 1) = ((i + 1 : Nat) : Int) := by
      have := hl.1
      unfold wrap64
      omega
    have h0 := (hl.2 l[i] (List.getElem_mem hlt)).1
    have e0 : pct_Lower.f l[i].f0 = some (B (lowerS l[i].f0.data.toList)) := by
      have := lower_f l[i].f0.data.toList (by rw [data_length]; exact h0)
      rw [B_data] at this
      exact this
    have e1 := lower_f name hn
    rw [hs]
    unfold getS
    by_cases h : lowerS l[i].f0.data.toList = lowerS name
    · refine Ev.step (f := fun _ => some (l[i].f1, true)) (fun k => by
        simp only [head_Get.l0]
        rw [if_pos (by omega), if_pos (by omega), if_pos (by omega), hr, e0]
        simp only [Option.bind_some, e1]
        rw [B_toList, B_toList, if_pos h]) ?_
      rw [if_pos h]
      exact Ev.now _
    · refine Ev.step (f := fun k => head_Get.l0 k (B name) l (l.length : Int) ((i + 1 : Nat) : Int)) (fun k => by
        simp only [head_Get.l0]
        rw [if_pos (by omega), if_pos (by omega), if_pos (by omega), hr, e0]
        simp only [Option.bind_some, e1]
        rw [B_toList, B_toList, if_neg h, hw]) ?_
      rw [if_neg h]
      exact ih (i + 1) (by omega) (by omega)
theorem get_f (name : List UInt8) (hn : name.length ≤ 140737488351232) (l : List S27) (hl : okH l) : Ev (fun k => head_Get.f k (B name) l) (getS name l) := by
  have := get_l name hn l hl l.length 0 (by omega) (by omega)
  exact this
theorem getS_ok (name : List UInt8) : ∀ l : List S27, okH l → (getS name l).1.size ≤ 140737488351232
  | [], _ => by unfold getS; decide
  | h :: r, hl => by
    unfold getS
    split
    · exact (hl.2 h List.mem_cons_self).2
    · exact getS_ok name r ⟨by have := hl.1; simp at this; omega, fun x hx => hl.2 x (List.mem_cons_of_mem _ hx)⟩
/-- Blanks and the like. -/
def blankB (c : UInt8) : Bool := decide (c.toNat ≤ 32)
def trimS (l : List UInt8) : List UInt8 := ((l.dropWhile blankB).reverse.dropWhile blankB).reverse
theorem bt_first (a : UInt8) (l : List UInt8) : bt (B (a :: l)) 0 = (a.toNat : Int) := bt_B (a :: l) 0 (by simp)
theorem bt_last (a : UInt8) (m : List UInt8) : bt (B (m ++ [a])) (m.length : Int) = (a.toNat : Int) := by
  rw [bt_B (m ++ [a]) m.length (by simp)]
  simp
theorem blankB_yes {c : UInt8} (h : (c.toNat : Int) ≤ 32) : blankB c = true := by
  unfold blankB
  rw [decide_eq_true_eq]
  omega
theorem blankB_no {c : UInt8} (h : ¬ (c.toNat : Int) ≤ 32) : blankB c = false := by
  unfold blankB
  rw [decide_eq_false_iff_not]
  omega
theorem trimP_right : ∀ m : List UInt8, m.length ≤ 140737488351232 → Ev (fun k => pct_Trim.l1 k (B m.reverse)) (B (m.dropWhile blankB).reverse) := by
  intro m
  induction m with
  | nil =>
    intro _
    change Ev (fun k => pct_Trim.l1 k (B [])) (B [])
    exact Ev.step (f := fun _ => some (B [])) (fun k => by simp only [pct_Trim.l1]; rw [if_neg (by rw [B_size]; simp)]) (Ev.now _)
  | cons c m ih =>
    intro hz
    rw [List.length_cons] at hz
    have hl : (m.reverse ++ [c]).length = m.reverse.length + 1 := by rw [List.length_append, List.length_singleton]
    have hl2 : m.reverse.length = m.length := List.length_reverse
    have hw : wrap64 (((B (m.reverse ++ [c])).size : Int) - 1) = (m.reverse.length : Int) := by rw [B_size, hl]; exact w64 (by omega) (by omega) (by omega)
    rw [List.reverse_cons]
    by_cases g : (c.toNat : Int) ≤ 32
    · rw [List.dropWhile_cons_of_pos (blankB_yes g)]
      exact Ev.step (fun k => by
        simp only [pct_Trim.l1]
        rw [hw, if_pos (by rw [B_size, hl]; omega), if_pos (by omega), if_pos (by rw [B_size, hl]; omega), bt_last, if_pos g, if_pos (by rw [B_size, hl]; omega), B_extract, Int.toNat_natCast, List.drop_zero, List.take_left]) (ih (by omega))
    · rw [List.dropWhile_cons_of_neg (by rw [blankB_no g]; decide), List.reverse_cons]
      exact Ev.step (f := fun _ => some (B (m.reverse ++ [c]))) (fun k => by
        simp only [pct_Trim.l1]
        rw [hw, if_pos (by rw [B_size, hl]; omega), if_pos (by omega), if_pos (by rw [B_size, hl]; omega), bt_last, if_neg g]) (Ev.now _)
theorem trimP_left (res : ByteArray) : ∀ l : List UInt8, Ev (fun k => pct_Trim.j1 k (B (l.dropWhile blankB))) res → Ev (fun k => pct_Trim.l0 k (B l)) res := by
  intro l
  induction l with
  | nil =>
    intro he
    change Ev (fun k => pct_Trim.j1 k (B [])) res at he
    exact Ev.step (fun k => by simp only [pct_Trim.l0]; rw [if_neg (by rw [B_size]; simp)]) he
  | cons c l ih =>
    intro he
    by_cases g : (c.toNat : Int) ≤ 32
    · rw [List.dropWhile_cons_of_pos (blankB_yes g)] at he
      exact Ev.step (fun k => by
        simp only [pct_Trim.l0]
        rw [if_pos (by rw [B_size, List.length_cons]; omega), if_pos (by rw [B_size, List.length_cons]; omega), bt_first, if_pos g, if_pos (by rw [B_size, List.length_cons]; omega), B_extract, B_size, List.take_length, List.drop_succ_cons, List.drop_zero]) (ih he)
    · rw [List.dropWhile_cons_of_neg (by rw [blankB_no g]; decide)] at he
      exact Ev.step (fun k => by
        simp only [pct_Trim.l0]
        rw [if_pos (by rw [B_size, List.length_cons]; omega), if_pos (by rw [B_size, List.length_cons]; omega), bt_first, if_neg g]) he
theorem dropW_le (l : List UInt8) : (l.dropWhile blankB).length ≤ l.length := (List.dropWhile_sublist _).length_le
theorem trimS_le (l : List UInt8) : (trimS l).length ≤ l.length := by
  unfold trimS
  rw [List.length_reverse]
  refine Nat.le_trans (dropW_le _) ?_
  rw [List.length_reverse]
  exact dropW_le l
theorem ptrim_f (l : List UInt8) (hz : l.length ≤ 140737488351232) : Ev (fun k => pct_Trim.f k (B l)) (B (trimS l)) := by
  unfold pct_Trim.f trimS
  refine trimP_left _ l ?_
  refine Ev.step (f := fun k => pct_Trim.l1 k (B (l.dropWhile blankB))) (fun k => by simp only [pct_Trim.j1]) ?_
  have := trimP_right (l.dropWhile blankB).reverse (by rw [List.length_reverse]; have := dropW_le l; omega)
  rw [List.reverse_reverse] at this
  exact this
/-- The parts between commas. -/
def splitC : List UInt8 → List (List UInt8)
  | [] => [[]]
  | c :: s => if c = 44 then [] :: splitC s else match splitC s with
    | [] => [[c]]
    | p :: r => (c :: p) :: r
theorem splitC_ne (s : List UInt8) : splitC s ≠ [] := by
  cases s with
  | nil => simp [splitC]
  | cons c s =>
    unfold splitC
    split
    · simp
    · split <;> simp
theorem splitC_no : ∀ a : List UInt8, (44 : UInt8) ∉ a → splitC a = [a]
  | [], _ => rfl
  | c :: a, h => by
    have h1 : c ≠ 44 := fun e => h (by rw [e]; exact List.mem_cons_self)
    unfold splitC
    rw [if_neg h1, splitC_no a fun hm => h (List.mem_cons_of_mem _ hm)]
theorem splitC_yes (x y : List UInt8) : splitC (x ++ 44 :: y) = splitC x ++ splitC y := by
  induction x with
  | nil => simp [splitC]
  | cons c x ih =>
    rw [List.cons_append]
    show (if c = 44 then [] :: splitC (x ++ 44 :: y) else match splitC (x ++ 44 :: y) with | [] => [[c]] | p :: r => (c :: p) :: r) = (if c = 44 then [] :: splitC x else match splitC x with | [] => [[c]] | p :: r => (c :: p) :: r) ++ splitC y
    rw [ih]
    by_cases h : c = 44
    · rw [if_pos h, if_pos h]; rfl
    · rw [if_neg h, if_neg h]
      rcases hx : splitC x with _ | ⟨p, r⟩
      · exact absurd hx (splitC_ne x)
      · rfl
theorem first44 : ∀ l : List UInt8, (44 : UInt8) ∈ l → ∃ a r, l = a ++ 44 :: r ∧ (44 : UInt8) ∉ a
  | [], h => by cases h
  | c :: l, h => by
    by_cases hc : c = 44
    · exact ⟨[], l, by rw [hc]; rfl, by simp⟩
    · obtain ⟨a, r, rfl, ha⟩ := first44 l ((List.mem_cons.1 h).resolve_left (fun e => hc e.symm))
      exact ⟨c :: a, r, rfl, fun hm => (List.mem_cons.1 hm).elim (fun e => hc e.symm) ha⟩
theorem index_44 (a r : List UInt8) (h : (44 : UInt8) ∉ a) : Lib.index (a ++ 44 :: r) [44] = (a.length : Int) := by
  have := cut_yes a r 44 h
  refine Lib.index_first (i := a.length) (by simp) ?_ fun j hj => ?_
  · unfold Lib.occAt
    simp [List.isPrefixOf]
  · unfold Lib.occAt
    rw [List.drop_append_of_le_length (by omega)]
    cases hd : a.drop j with
    | nil => have := congrArg List.length hd; simp at this; omega
    | cons b q =>
      have hb : b ∈ a := List.mem_of_mem_drop (by rw [hd]; exact List.mem_cons_self)
      have : ((44 : UInt8) == b) = false := by
        rw [beq_eq_false_iff_ne]
        intro e
        exact h (e ▸ hb)
      simp [List.isPrefixOf, this]
theorem index_no44 (l : List UInt8) (h : (44 : UInt8) ∉ l) : Lib.index l [44] = -1 := by
  refine Lib.index_none fun j _ => ?_
  unfold Lib.occAt
  cases hd : l.drop j with
  | nil => rfl
  | cons b r =>
    have hb : b ∈ l := List.mem_of_mem_drop (by rw [hd]; exact List.mem_cons_self)
    have : ((44 : UInt8) == b) = false := by
      rw [beq_eq_false_iff_ne]
      intro e
      exact h (e ▸ hb)
    simp [List.isPrefixOf, this]
theorem splitK_C : ∀ (n : Nat) (s : List UInt8), s.length ≤ n → Lib.splitK [44] 0 (Lib.count s [44]) s = splitC s := by
  intro n
  induction n with
  | zero =>
    intro s hs
    have : s = [] := List.eq_nil_of_length_eq_zero (by omega)
    subst this
    rw [Lib.count_miss (index_no44 [] (by simp))]
    rfl
  | succ n ih =>
    intro s hs
    by_cases h : (44 : UInt8) ∈ s
    · obtain ⟨a, r, rfl, ha⟩ := first44 s h
      have hi := index_44 a r ha
      have hdr : (a ++ 44 :: r).drop (a.length + 1) = r := by
        rw [← List.drop_drop, List.drop_left]
        rfl
      have hc := Lib.count_hit (s := a ++ 44 :: r) (sub := [44]) (i := a.length) (by simp) hi
      rw [List.length_singleton, hdr] at hc
      rw [hc, Nat.add_comm 1, splitC_yes, splitC_no a ha]
      unfold Lib.splitK
      rw [hi, if_neg (by simp), Int.toNat_natCast, List.length_singleton, hdr, Nat.add_zero, List.take_left, ih r (by simp at hs; omega)]
      rfl
    · rw [Lib.count_miss (index_no44 s h), splitC_no s h]
      rfl
theorem splitB_C (s : List UInt8) : Lib.splitB (B [44]) 0 (Lib.countB (B s) (B [44])) (B s) = (splitC s).map B := by
  have h := Lib.splitB_data (B [44]) 0 (Lib.countB (B s) (B [44])) (B s)
  rw [data_B, data_B] at h
  have hc : Lib.countB (B s) (B [44]) = Lib.count s [44] := by
    show Lib.count (B s).data.toList (B [44]).data.toList = _
    rw [data_B, data_B]
  rw [hc, splitK_C s.length s (Nat.le_refl _)] at h
  rw [hc, ← h, List.map_map]
  exact (List.map_id _).symm.trans (List.map_congr_left fun x _ => rfl)
theorem splitC_len (s : List UInt8) : (splitC s).length ≤ s.length + 1 := by
  induction s with
  | nil => simp [splitC]
  | cons c s ih =>
    unfold splitC
    split
    · simp only [List.length_cons]; omega
    · split
      · simp
      · rename_i p r hx
        rw [hx] at ih
        simp only [List.length_cons] at ih ⊢
        omega
theorem splitC_le (s : List UInt8) : ∀ p ∈ splitC s, p.length ≤ s.length := by
  induction s with
  | nil => intro p hp; simp [splitC] at hp; rw [hp]; exact Nat.le_refl _
  | cons c s ih =>
    intro p hp
    unfold splitC at hp
    split at hp
    · rcases List.mem_cons.1 hp with rfl | hp
      · simp
      · have := ih p hp; simp only [List.length_cons]; omega
    · rcases hx : splitC s with _ | ⟨q, r⟩
      · exact absurd hx (splitC_ne s)
      · rw [hx] at hp ih
        rcases List.mem_cons.1 hp with rfl | hp
        · have := ih q List.mem_cons_self; simp only [List.length_cons]; omega
        · have := ih p (List.mem_cons_of_mem _ hp); simp only [List.length_cons]; omega
def partS (p : List UInt8) : List UInt8 := lowerS (trimS p)
def neB (p : List UInt8) : Bool := !p.isEmpty
/-- The parts of a list. -/
def listS (s : List UInt8) : List (List UInt8) := ((splitC s).map partS).filter neB
theorem listS_yes (x y : List UInt8) : listS (x ++ 44 :: y) = listS x ++ listS y := by
  unfold listS
  rw [splitC_yes, List.map_append, List.filter_append]
theorem clist_l (ps : List (List UInt8)) (hn : ps.length ≤ 4294967290) (hp : ∀ p ∈ ps, p.length ≤ 4294967290) : ∀ (d i : Nat) (acc : List (List UInt8)), ps.length - i = d → i ≤ ps.length → acc.length ≤ i →
    Ev (fun k => cors_List.l0 k (acc.map B) (ps.map B) (ps.length : Int) (i : Int)) ((acc ++ ((ps.drop i).map partS).filter neB).map B) := by
  intro d
  induction d with
  | zero =>
    intro i acc hd hi ha
    refine Ev.step (f := fun _ => some (acc.map B)) (fun k => by simp only [cors_List.l0]; rw [if_neg (by omega)]) ?_
    rw [List.drop_eq_nil_of_le (by omega)]
    simp only [List.map_nil, List.filter_nil, List.append_nil]
    exact Ev.now _
  | succ d ih =>
    intro i acc hd hi ha
    have hlt : i < ps.length := by omega
    have hs : ps.drop i = ps[i] :: ps.drop (i + 1) := List.drop_eq_getElem_cons hlt
    have hw : wrap64 ((i : Int) + 1) = ((i + 1 : Nat) : Int) := w64 (by omega) (by omega) (by omega)
    have hr : rdOf ByteArray.empty (ps.map B) (i : Int) = B ps[i] := by
      unfold rdOf
      simp [List.getD_eq_getElem?_getD, List.getElem?_eq_getElem hlt]
    have hpl := hp ps[i] (List.getElem_mem hlt)
    have htl := trimS_le ps[i]
    have hlow := lower_f (trimS ps[i]) (by omega)
    refine Ev.step (fun k => by
      simp only [cors_List.l0]
      rw [if_pos (by omega), if_pos (by omega), if_pos (by rw [List.length_map]; omega), hr]) ?_
    refine Ev.bind (ptrim_f ps[i] (by omega)) ?_
    rw [hlow]
    simp only [Option.bind_some]
    rw [hs, List.map_cons]
    by_cases g : partS ps[i] = []
    · rw [List.filter_cons_of_neg (by rw [g]; decide)]
      refine Ev.congr (fun k => by rw [if_pos (by rw [B_toList]; exact g), hw]) (ih (i + 1) acc (by omega) (by omega) (by omega))
    · rw [List.filter_cons_of_pos (by
        unfold neB
        rw [Bool.not_eq_true']
        rcases hq : partS ps[i] with _ | ⟨a, b⟩
        · exact absurd hq g
        · rfl)]
      have := ih (i + 1) (acc ++ [partS ps[i]]) (by omega) (by omega) (by rw [List.length_append, List.length_singleton]; omega)
      rw [List.append_assoc, List.singleton_append, List.map_append (l₁ := acc)] at this
      refine Ev.congr (fun k => by rw [if_neg (by rw [B_toList]; exact g), if_pos (by rw [List.length_map]; omega), hw]; rfl) this
theorem clist_f (s : List UInt8) (hz : s.length < 4294967281) : Ev (fun k => cors_List.f k (B s)) ((listS s).map B) := by
  unfold cors_List.f strings_Split.f
  have h1 : (⟨#[44]⟩ : ByteArray) = B [44] := rfl
  rw [h1, if_pos (by rw [B_size]; exact hz), if_pos (by rw [B_size]; simp), splitB_C]
  simp only [Option.bind_some, List.length_map]
  have hl := splitC_len s
  exact clist_l (splitC s) (by omega) (fun p hp => by have := splitC_le s p hp; omega) (splitC s).length 0 [] (by omega) (by omega) (by simp)
/-- Is a word among some? -/
theorem index_l (ps : List (List UInt8)) (hn : ps.length ≤ 4294967290) (v : List UInt8) : ∀ (d i : Nat), ps.length - i = d → i ≤ ps.length →
    ∃ r : Int, Ev (fun k => slices_Index_string_string.l0 k (ps.map B) (B v) (ps.length : Int) (i : Int)) r ∧ decide (r ≥ 0) = (ps.drop i).any (· == v) := by
  intro d
  induction d with
  | zero =>
    intro i hd hi
    refine ⟨-1, Ev.step (f := fun _ => some (-1)) (fun k => by simp only [slices_Index_string_string.l0]; rw [if_neg (by omega)]) (Ev.now _), ?_⟩
    rw [List.drop_eq_nil_of_le (by omega)]
    rfl
  | succ d ih =>
    intro i hd hi
    have hlt : i < ps.length := by omega
    have hs : ps.drop i = ps[i] :: ps.drop (i + 1) := List.drop_eq_getElem_cons hlt
    have hw : wrap64 ((i : Int) + 1) = ((i + 1 : Nat) : Int) := w64 (by omega) (by omega) (by omega)
    have hr : rdOf ByteArray.empty (ps.map B) (i : Int) = B ps[i] := by
      unfold rdOf
      simp [List.getD_eq_getElem?_getD, List.getElem?_eq_getElem hlt]
    by_cases g : v = ps[i]
    · refine ⟨(i : Int), Ev.step (f := fun _ => some (i : Int)) (fun k => by
        simp only [slices_Index_string_string.l0]
        rw [if_pos (by omega), if_pos (by omega), if_pos (by rw [List.length_map]; omega), hr, B_toList, B_toList, if_pos g]) (Ev.now _), ?_⟩
      rw [hs, List.any_cons, g, beq_self_eq_true, Bool.true_or, decide_eq_true_eq]
      omega
    · obtain ⟨r, he, hd2⟩ := ih (i + 1) (by omega) (by omega)
      refine ⟨r, Ev.step (fun k => by
        simp only [slices_Index_string_string.l0]
        rw [if_pos (by omega), if_pos (by omega), if_pos (by rw [List.length_map]; omega), hr, B_toList, B_toList, if_neg g, hw]) he, ?_⟩
      rw [hs, List.any_cons, hd2, show (ps[i] == v) = false by rw [beq_eq_false_iff_ne]; exact fun e => g e.symm, Bool.false_or]
theorem contains_f (ps : List (List UInt8)) (hn : ps.length ≤ 4294967290) (v : List UInt8) : Ev (fun k => slices_Contains_string_string.f k (ps.map B) (B v)) (ps.any (· == v)) := by
  unfold slices_Contains_string_string.f slices_Index_string_string.f
  obtain ⟨r, he, hd⟩ := index_l ps hn v ps.length 0 (by omega) (by omega)
  rw [List.drop_zero] at hd
  rw [List.length_map]
  refine Ev.bind he ?_
  rw [hd]
  exact Ev.now _
def commons : List (List UInt8) := [[71, 69, 84], [72, 69, 65, 68], [80, 79, 83, 84]]
theorem common_f (m : List UInt8) : Ev (fun k => cors_common.f k (B m)) (commons.any (· == m)) := by
  unfold cors_common.f
  exact Ev.bind (contains_f commons (by decide) m) (Ev.now _)
def plainT : List UInt8 := [116, 101, 120, 116, 47, 112, 108, 97, 105, 110]
/-- Is a header simple? -/
def simpleS (h : S27) : Bool :=
  if lowerS h.f0.data.toList = [97, 99, 99, 101, 112, 116] then true
  else if lowerS h.f0.data.toList = [97, 99, 99, 101, 112, 116, 45, 108, 97, 110, 103] then true
  else if lowerS h.f0.data.toList = [99, 111, 110, 116, 101, 110, 116, 45, 116, 121, 112, 101] then partS (Lib.cut h.f1.data.toList [59]).1 == plainT
  else false
def okW (h : S27) : Prop := h.f0.size ≤ 1000000 ∧ h.f1.size ≤ 1000000
theorem simple_f (h : S27) (ho : okW h) : Ev (fun k => head_Simple.f k h.f0 h.f1) (simpleS h) := by
  obtain ⟨n, hn⟩ := ex_B h.f0
  obtain ⟨v, hv⟩ := ex_B h.f1
  obtain ⟨h1, h2⟩ := ho
  rw [hn, B_size] at h1
  rw [hv, B_size] at h2
  unfold simpleS head_Simple.f
  rw [hn, hv, data_B, data_B, lower_f n (by omega)]
  simp only [Option.bind_some, B_toList]
  have hc : strings_Cut.f (B v) (⟨#[59]⟩ : ByteArray) = _ := cut_f v [59] (by omega)
  have hcl := cut1_le v [59]
  have htl := trimS_le (Lib.cut v [59]).1
  have hlow := lower_f (trimS (Lib.cut v [59]).1) (by omega)
  by_cases g1 : lowerS n = [97, 99, 99, 101, 112, 116]
  · rw [if_pos g1]
    refine Ev.congr (fun k => if_pos g1) ?_
    rw [show (lowerS n == [97, 99, 99, 101, 112, 116]) = true by rw [beq_iff_eq]; exact g1]
    exact Ev.step (f := fun _ => some true) (fun k => by simp only [head_Simple.j0, if_true]) (Ev.now _)
  · rw [if_neg g1]
    refine Ev.congr (fun k => if_neg g1) ?_
    by_cases g2 : lowerS n = [97, 99, 99, 101, 112, 116, 45, 108, 97, 110, 103]
    · rw [if_pos g2, show (lowerS n == [97, 99, 99, 101, 112, 116, 45, 108, 97, 110, 103]) = true by rw [beq_iff_eq]; exact g2]
      exact Ev.step (f := fun _ => some true) (fun k => by simp only [head_Simple.j0, if_true]) (Ev.now _)
    · rw [if_neg g2, show (lowerS n == [97, 99, 99, 101, 112, 116, 45, 108, 97, 110, 103]) = false by rw [beq_eq_false_iff_ne]; exact g2]
      by_cases g3 : lowerS n = [99, 111, 110, 116, 101, 110, 116, 45, 116, 121, 112, 101]
      · rw [if_pos g3]
        refine Ev.step (fun k => by
          simp only [head_Simple.j0]
          rw [if_neg (by decide), if_pos (by rw [B_toList]; exact g3), hc]) ?_
        simp only [Option.bind_some]
        refine Ev.bind (ptrim_f (Lib.cut v [59]).1 (by omega)) ?_
        rw [hlow]
        simp only [Option.bind_some, B_toList]
        exact Ev.now _
      · rw [if_neg g3]
        exact Ev.step (f := fun _ => some false) (fun k => by
          simp only [head_Simple.j0]
          rw [if_neg (by decide), if_neg (by rw [B_toList]; exact g3)]) (Ev.now _)
/-- The names of those that are not simple, as they come. -/
def rawS (hs : List S27) : List (List UInt8) := (hs.filter fun h => !simpleS h).map fun h => lowerS h.f0.data.toList
def unsafeS (hs : List S27) : List (List UInt8) := Lib.compact ((rawS hs).mergeSort fun x y => decide (x ≤ y))
theorem lst_map (l : List (List UInt8)) : GivC.lst (l.map B) = l := by
  unfold GivC.lst
  rw [List.map_map]
  refine (List.map_congr_left (g := id) fun x _ => ?_).trans (List.map_id _)
  exact data_B x
theorem unl_map (l : List (List UInt8)) : GivC.unl l = l.map B := rfl
theorem unsafe_l (hs : List S27) (hn : hs.length ≤ 1000000) (ho : ∀ h ∈ hs, okW h) : ∀ (d i : Nat) (acc : List (List UInt8)), hs.length - i = d → i ≤ hs.length → acc.length ≤ i →
    Ev (fun k => head_Unsafe.l0 k (acc.map B) hs (hs.length : Int) (i : Int)) ((Lib.compact ((acc ++ rawS (hs.drop i)).mergeSort fun x y => decide (x ≤ y))).map B) := by
  intro d
  induction d with
  | zero =>
    intro i acc hd hi ha
    have hsz : ((acc.map B).length < 4611686018427387904) := by rw [List.length_map]; omega
    have hs2 : slices_Sort_string_string.f (acc.map B) = some ((acc.mergeSort fun x y => decide (x ≤ y)).map B) := by
      unfold slices_Sort_string_string.f
      rw [if_pos hsz, lst_map, unl_map]
    have hc2 : slices_Compact_string_string.f ((acc.mergeSort fun x y => decide (x ≤ y)).map B) = some ((Lib.compact (acc.mergeSort fun x y => decide (x ≤ y))).map B) := by
      unfold slices_Compact_string_string.f
      rw [if_pos (by rw [List.length_map, List.length_mergeSort]; omega), lst_map, unl_map]
    refine Ev.step (f := fun _ => some ((Lib.compact (acc.mergeSort fun x y => decide (x ≤ y))).map B)) (fun k => by
      simp only [head_Unsafe.l0]
      rw [if_neg (by omega), hs2]
      simp only [Option.bind_some]
      rw [hc2]
      rfl) ?_
    rw [List.drop_eq_nil_of_le (by omega), show rawS [] = [] from rfl, List.append_nil]
    exact Ev.now _
  | succ d ih =>
    intro i acc hd hi ha
    have hlt : i < hs.length := by omega
    have hsd : hs.drop i = hs[i] :: hs.drop (i + 1) := List.drop_eq_getElem_cons hlt
    have hw : wrap64 ((i : Int) + 1) = ((i + 1 : Nat) : Int) := w64 (by omega) (by omega) (by omega)
    have hr : rd_T27 hs (i : Int) = hs[i] := by
      unfold rd_T27
      simp [List.getD_eq_getElem?_getD, List.getElem?_eq_getElem hlt]
    have hoi := ho hs[i] (List.getElem_mem hlt)
    have hlow : pct_Lower.f hs[i].f0 = some (B (lowerS hs[i].f0.data.toList)) := by
      have := lower_f hs[i].f0.data.toList (by rw [data_length]; have := hoi.1; omega)
      rw [B_data] at this
      exact this
    refine Ev.step (fun k => by
      simp only [head_Unsafe.l0]
      rw [if_pos (by omega), if_pos (by omega), if_pos (by omega), hr]) ?_
    refine Ev.bind (simple_f hs[i] hoi) ?_
    rw [hsd]
    by_cases g : simpleS hs[i] = true
    · have e : rawS (hs[i] :: hs.drop (i + 1)) = rawS (hs.drop (i + 1)) := by
        unfold rawS
        rw [List.filter_cons_of_neg (by rw [g]; decide)]
      rw [e]
      refine Ev.congr (fun k => by rw [if_pos g, hw]) (ih (i + 1) acc (by omega) (by omega) (by omega))
    · have e : rawS (hs[i] :: hs.drop (i + 1)) = lowerS hs[i].f0.data.toList :: rawS (hs.drop (i + 1)) := by
        unfold rawS
        rw [List.filter_cons_of_pos (by rw [Bool.not_eq_true] at g; rw [g]; rfl)]
        rfl
      have := ih (i + 1) (acc ++ [lowerS hs[i].f0.data.toList]) (by omega) (by omega) (by rw [List.length_append, List.length_singleton]; omega)
      rw [e]
      rw [List.append_assoc, List.singleton_append, List.map_append] at this
      refine Ev.congr (fun k => by
        rw [if_neg g, hlow]
        simp only [Option.bind_some]
        rw [if_pos (by rw [List.length_map]; omega), hw]
        rfl) this
theorem unsafe_f (hs : List S27) (hn : hs.length ≤ 1000000) (ho : ∀ h ∈ hs, okW h) : Ev (fun k => head_Unsafe.f k hs) ((unsafeS hs).map B) := by
  have := unsafe_l hs hn ho hs.length 0 [] (by omega) (by omega) (by simp)
  rw [List.drop_zero, List.nil_append] at this
  exact this
theorem unsafe_nil : unsafeS [] = [] := by
  unfold unsafeS rawS
  rw [List.filter_nil, List.map_nil]
  simp [Lib.compact, Lib.compactUpTo]
def originL : List UInt8 := [97, 108, 108, 111, 119, 45, 111, 114, 105, 103, 105, 110]
def credsL : List UInt8 := [97, 108, 108, 111, 119, 45, 99, 114, 101, 100, 115]
def methodsL : List UInt8 := [97, 108, 108, 111, 119, 45, 109, 101, 116, 104, 111, 100, 115]
def headsL : List UInt8 := [97, 108, 108, 111, 119, 45, 104, 101, 97, 100, 115]
def trueL : List UInt8 := [116, 114, 117, 101]
def okR (hs : List S27) : Prop := hs.length ≤ 1000000 ∧ ∀ h ∈ hs, okW h
theorem okR_okH {hs : List S27} (h : okR hs) : okH hs := ⟨by have := h.1; omega, fun x hx => by have := h.2 x hx; unfold okW at this; omega⟩
/-- A header's value, as bytes. -/
def valS (name : List UInt8) (hs : List S27) : List UInt8 := (getS name hs).1.data.toList
theorem getS_B (name : List UInt8) (hs : List S27) : getS name hs = (B (valS name hs), (getS name hs).2) := rfl
theorem valS_le (name : List UInt8) : ∀ hs : List S27, okR hs → (valS name hs).length ≤ 1000000
  | [], _ => by
    unfold valS getS
    decide
  | h :: r, ho => by
    have h0 := (ho.2 h List.mem_cons_self).2
    have ih := valS_le name r ⟨by have := ho.1; simp only [List.length_cons] at this; omega, fun x hx => ho.2 x (List.mem_cons_of_mem _ hx)⟩
    unfold valS getS
    split
    · rw [data_length]
      exact h0
    · exact ih
/-- May an answer be read? -/
def checkS (hs : List S27) (origin : List UInt8) (creds : Bool) : Bool :=
  if (getS originL hs).2 = true then (if valS originL hs = origin then (!creds || valS credsL hs == trueL) else if valS originL hs = [42] then !creds else false) else false
theorem check_f (code : Int) (hs : List S27) (ho : okR hs) (b : ByteArray) (t : Bool) (origin : List UInt8) (creds : Bool) : Ev (fun k => cors_Check.f k code hs b t (B origin) creds) (checkS hs origin creds) := by
  unfold cors_Check.f checkS
  have g1 := get_f originL (by decide) hs (okR_okH ho)
  have g2 := get_f credsL (by decide) hs (okR_okH ho)
  rw [getS_B] at g1 g2
  refine Ev.bind g1 ?_
  by_cases c1 : (getS originL hs).2 = true
  · rw [if_pos c1]
    refine Ev.congr (fun k => if_pos c1) ?_
    by_cases c2 : valS originL hs = origin
    · rw [if_pos c2]
      refine Ev.congr (fun k => if_pos (by rw [B_toList, B_toList]; exact c2)) ?_
      refine Ev.bind g2 ?_
      rcases creds with _ | _
      · exact Ev.now _
      · refine Ev.congr (f := fun _ => some (valS credsL hs == trueL)) (fun k => ?_) (Ev.now _)
        rw [if_pos rfl, B_toList]
        rfl
    · rw [if_neg c2]
      refine Ev.congr (fun k => if_neg (by rw [B_toList, B_toList]; exact c2)) ?_
      by_cases c3 : valS originL hs = [42]
      · rw [if_pos c3]
        refine Ev.congr (fun k => if_pos (by rw [B_toList]; exact c3)) ?_
        rcases creds with _ | _
        · refine Ev.congr (fun k => if_neg (by decide)) ?_
          exact Ev.bind g2 (Ev.now _)
        · exact Ev.now _
      · rw [if_neg c3]
        exact Ev.congr (f := fun _ => some false) (fun k => if_neg (by rw [B_toList]; exact c3)) (Ev.now _)
  · rw [if_neg c1]
    exact Ev.congr (f := fun _ => some false) (fun k => if_neg c1) (Ev.now _)
/-- Is a word in an answer's list? -/
def allowsS (hs : List S27) (name word : List UInt8) (creds : Bool) : Bool := (listS (valS name hs)).any (· == word) || (!creds && (listS (valS name hs)).any (· == [42]))
theorem listS_len (s : List UInt8) : (listS s).length ≤ s.length + 1 := by
  unfold listS
  refine Nat.le_trans (List.length_filter_le _ _) ?_
  rw [List.length_map]
  exact splitC_len s
theorem allows_f (code : Int) (hs : List S27) (ho : okR hs) (b : ByteArray) (t : Bool) (name word : List UInt8) (hn : name.length ≤ 1000) (creds : Bool) : Ev (fun k => cors_allows.f k code hs b t (B name) (B word) creds) (allowsS hs name word creds) := by
  unfold cors_allows.f allowsS
  have g1 := get_f name (by omega) hs (okR_okH ho)
  rw [getS_B] at g1
  have hv := valS_le name hs ho
  have hl := listS_len (valS name hs)
  refine Ev.bind g1 ?_
  refine Ev.bind (clist_f (valS name hs) (by omega)) ?_
  refine Ev.bind (contains_f (listS (valS name hs)) (by omega) word) ?_
  by_cases c1 : (listS (valS name hs)).any (· == word) = true
  · rw [c1]
    exact Ev.now _
  · rw [Bool.not_eq_true] at c1
    rw [c1, Bool.false_or]
    rcases creds with _ | _
    · refine Ev.congr (fun k => by rw [if_neg (by decide), if_neg (by decide)]) ?_
      exact Ev.bind (contains_f (listS (valS name hs)) (by omega) [42]) (Ev.now _)
    · exact Ev.now _
/-- May it be asked? -/
def preS (code : Int) (hs : List S27) (origin : List UInt8) (creds : Bool) (method : List UInt8) (ls : List S27) : Bool :=
  decide (200 ≤ code) && decide (code ≤ 299) && checkS hs origin creds && (commons.any (· == method) || allowsS hs methodsL (lowerS method) creds) && (unsafeS ls).all fun n => allowsS hs headsL n creds
theorem any_f (code : Int) (hs : List S27) (ho : okR hs) (b : ByteArray) (t creds : Bool) : ∀ us : List (List UInt8), Ev (fun k => anyNot k code hs b t creds (us.map B)) (!us.all fun n => allowsS hs headsL n creds)
  | [] => Ev.now _
  | n :: r => by
    have hw : headsW = B headsL := rfl
    show Ev (fun k => (cors_allows.f k code hs b t headsW (B n) creds).bind fun v => if v = true then anyNot k code hs b t creds (r.map B) else some true) _
    rw [hw]
    refine Ev.bind (allows_f code hs ho b t headsL n (by decide) creds) ?_
    rw [List.all_cons]
    by_cases h : allowsS hs headsL n creds = true
    · rw [h, Bool.true_and]
      exact any_f code hs ho b t creds r
    · rw [Bool.not_eq_true] at h
      rw [h, Bool.false_and]
      exact Ev.now _
theorem pre_f13 (code : Int) (hs : List S27) (ho : okR hs) (b : ByteArray) (t : Bool) (origin : List UInt8) (creds : Bool) (method : List UInt8) (hm : method.length ≤ 1000000) (ls : List S27) (hl : okR ls) :
    Ev (fun k => cors_Pre.f k code hs b t (B origin) creds (B method) ls) (preS code hs origin creds method ls) := by
  unfold cors_Pre.f preS
  by_cases c1 : code < 200
  · rw [decide_eq_false (by omega : ¬ 200 ≤ code)]
    simp only [Bool.false_and]
    exact Ev.congr (f := fun _ => some false) (fun k => if_pos c1) (Ev.now _)
  · rw [decide_eq_true (by omega : 200 ≤ code), Bool.true_and]
    refine Ev.congr (fun k => if_neg c1) ?_
    by_cases c2 : code > 299
    · rw [decide_eq_false (by omega : ¬ code ≤ 299)]
      simp only [Bool.false_and]
      exact Ev.congr (f := fun _ => some false) (fun k => if_pos c2) (Ev.now _)
    · rw [decide_eq_true (by omega : code ≤ 299), Bool.true_and]
      refine Ev.congr (fun k => if_neg c2) ?_
      refine Ev.bind (check_f code hs ho b t origin creds) ?_
      by_cases c3 : checkS hs origin creds = true
      · rw [c3, Bool.true_and]
        refine Ev.congr (fun k => if_pos rfl) ?_
        refine Ev.bind (common_f method) ?_
        have hrest : Ev (fun k => preRest k code hs b t creds ls) ((unsafeS ls).all fun n => allowsS hs headsL n creds) := by
          unfold preRest
          refine Ev.bind (unsafe_f ls hl.1 hl.2) ?_
          refine Ev.bind (any_f code hs ho b t creds (unsafeS ls)) ?_
          rw [Bool.not_not]
          exact Ev.now _
        have hok : Ev (fun k => preOk k code hs b t creds (B method) (commons.any (· == method))) (commons.any (· == method) || allowsS hs methodsL (lowerS method) creds) := by
          unfold preOk
          by_cases c4 : commons.any (· == method) = true
          · rw [c4]
            exact Ev.now _
          · rw [Bool.not_eq_true] at c4
            rw [c4, Bool.false_or]
            have hlow := lower_f method (by omega)
            have hw : methodsW = B methodsL := rfl
            refine Ev.congr (fun k => by rw [if_neg (by decide), hlow, hw, Option.bind_some]) ?_
            exact allows_f code hs ho b t methodsL (lowerS method) (by decide) creds
        refine Ev.bind hok ?_
        by_cases c5 : (commons.any (· == method) || allowsS hs methodsL (lowerS method) creds) = true
        · rw [c5, Bool.true_and]
          exact Ev.congr (fun k => if_pos rfl) hrest
        · rw [Bool.not_eq_true] at c5
          rw [c5, Bool.false_and]
          exact Ev.now _
      · rw [Bool.not_eq_true] at c3
        rw [c3]
        simp only [Bool.false_and]
        exact Ev.now _
end Go.Proofs.YtllblgjhoeopjaaDoor.Pure
