/- The contracts of functions that are proved by hand or lie on the shelf, in the form in which printed texts take them; what is known of the package variables (Gl). -/
import Derived.Test.YtllblgjhoeopjaaDoorVGivA
import Derived.Test.YtllblgjhoeopjaaDoorVGivD
import Derived.Test.YtllblgjhoeopjaaDoorVShelfC
import Derived.Test.YtllblgjhoeopjaaDoorVWKept
import Derived.Sort.OwnSorted
import Derived.Lib.SplitLaws
import Derived.Laws.OwnMore
import Derived.Test.YtllblgjhoeopjaaDoorVMw
import Derived.Lib.AppendIntMem
namespace Go.Proofs.YtllblgjhoeopjaaDoor.GivC
open Go.Sort Go.RowKit Go.Proofs.YtllblgjhoeopjaaDoorW.PrintWords Go.Proofs.YtllblgjhoeopjaaDoorW.PrintLast Go.Proofs.YtllblgjhoeopjaaDoorW.PrintMore Go.Proofs.YtllblgjhoeopjaaDoor.Giv
/-- What the library's package variables hold. -/
structure Gl (w : World) : Prop where
  ml : ∃ m, w.cell? ⟨0, 0, none⟩ = some (.int .i64 m)
theorem Gl.below {w w' : World} (h : Gl w) (hb : Below w.heap.size w w') : Gl w' := by
  obtain ⟨m, hm⟩ := h.ml
  have hlt : (⟨0, 0, none⟩ : Addr).block < w.heap.size := World.block_lt_of_cell? _ _ hm
  exact ⟨⟨m, (hb.cell hlt).trans hm⟩⟩
theorem Gl.drawn {w w' : World} (h : Gl w) (hd : Drawn0 w w') : Gl w' := h.below hd.below
def pct_Lower.f (a0 : ByteArray) : Option (ByteArray) := if a0.size ≤ 140737488351232 then some ⟨(a0.data.toList.map lowerB).toArray⟩ else none
theorem pct_Lower.calls (a0 : ByteArray) (r : ByteArray) (w : World) (h : pct_Lower.f a0 = some r) :
    Calls Tryd.prog 41 #[.string a0] w fun e w' => e = .returned (.string r) ∧ Below w.heap.size w w' := by
  unfold pct_Lower.f at h
  split at h
  · obtain rfl := Option.some.inj h
    exact lower_pct_Lower a0 w (by assumption)
  · cases h
def postilionref01_Lower.f (a0 : ByteArray) : Option (ByteArray) := if a0.size ≤ 140737488351232 then some ⟨(a0.data.toList.map lowerB).toArray⟩ else none
theorem postilionref01_Lower.calls (a0 : ByteArray) (r : ByteArray) (w : World) (h : postilionref01_Lower.f a0 = some r) :
    Calls Tryd.prog 55 #[.string a0] w fun e w' => e = .returned (.string r) ∧ Below w.heap.size w w' := by
  unfold postilionref01_Lower.f at h
  split at h
  · obtain rfl := Option.some.inj h
    exact lower_postilionref01_Lower a0 w (by assumption)
  · cases h
def strings_Cut.f (a0 a1 : ByteArray) : Option (ByteArray × ByteArray × Bool) := if a0.size < 4294967281 then some (⟨(Lib.cut a0.data.toList a1.data.toList).1.toArray⟩, ⟨(Lib.cut a0.data.toList a1.data.toList).2.1.toArray⟩, (Lib.cut a0.data.toList a1.data.toList).2.2) else none
theorem strings_Cut.calls (a0 a1 : ByteArray) (r1 r2 : ByteArray) (r3 : Bool) (w : World) (hG : Gl w) (h : strings_Cut.f a0 a1 = some (r1, r2, r3)) :
    Calls Tryd.prog 36 #[.string a0, .string a1] w fun e w' => e = .returned (.tuple #[.string r1, .string r2, .bool r3]) ∧ Drawn0 w w' := by
  unfold strings_Cut.f at h
  split at h
  · simp only [Option.some.injEq, Prod.mk.injEq] at h
    obtain ⟨rfl, rfl, rfl⟩ := h
    obtain ⟨m, hm⟩ := hG.ml
    exact (Tryd.strings_Cut a0 a1 m w (by assumption) hm).mono fun e w' ⟨he, hw⟩ => ⟨he, ⟨hw⟩⟩
  · cases h
def strings_Trim.f (a0 a1 : ByteArray) : Option (ByteArray) := if a0.size ≤ 140737488351232 then (if a1.data.toList = [32] then some ⟨(Lib.trimB a0.data.toList 32).toArray⟩ else none) else none
theorem strings_Trim.calls (a0 a1 : ByteArray) (r : ByteArray) (w : World) (h : strings_Trim.f a0 a1 = some r) :
    Calls Tryd.prog 81 #[.string a0, .string a1] w fun e w' => e = .returned (.string r) ∧ Drawn0 w w' := by
  unfold strings_Trim.f at h
  split at h
  · split at h
    · obtain rfl := Option.some.inj h
      rename_i h1 h2
      obtain rfl : a1 = ⟨#[32]⟩ := by
        cases a1
        rename_i d
        obtain ⟨l⟩ := d
        simp at h2
        rw [h2]
      exact (Tryd.strings_Trim_one a0 32 (by decide) w (by omega)).mono fun e w' ⟨he, hw⟩ => ⟨he, by
        rcases hw with rfl | rfl
        · exact Drawn0.refl _
        · exact ⟨1, rfl⟩⟩
    · cases h
  · cases h
def postilionref01_Digits.f (a0 : Int) : Option (ByteArray) := if a0 ≤ 9223372036854775807 then some ⟨(Lib.decDigits a0.toNat).toArray⟩ else none
theorem postilionref01_Digits.calls (a0 : Int) (r : ByteArray) (w : World) (h : postilionref01_Digits.f a0 = some r) :
    Calls Tryd.prog 64 #[.int .i64 a0] w fun e w' => e = .returned (.string r) ∧ Drawn0 w w' := by
  unfold postilionref01_Digits.f at h
  split at h
  · obtain rfl := Option.some.inj h
    exact (digits15 _ a0 w rfl (by assumption)).mono fun e w' ⟨he, hw⟩ => ⟨he, ⟨hw⟩⟩
  · cases h
theorem reps_str (l : List ByteArray) (cs : List Value) : Reps (fun x c => c = [Value.string x]) 1 l cs ↔ cs = l.map Value.string := by
  constructor
  · rintro ⟨h1, h2⟩
    apply List.ext_getElem?
    intro j
    rcases hj : l[j]? with _ | x
    · have hl : l.length ≤ j := List.getElem?_eq_none_iff.1 hj
      rw [List.getElem?_eq_none (by omega), List.getElem?_map, hj]
      rfl
    · have h3 := h2 j x hj
      rw [Nat.mul_one] at h3
      have h4 : ((cs.drop j).take 1)[0]? = some (Value.string x) := by rw [h3]; rfl
      rw [List.getElem?_take_of_lt (by decide), List.getElem?_drop, Nat.add_zero] at h4
      rw [h4, List.getElem?_map, hj]
      rfl
  · rintro rfl
    refine ⟨by simp, fun j x hj => ?_⟩
    rw [Nat.mul_one]
    have hlt : j < (l.map Value.string).length := by
      have := (List.getElem?_eq_some_iff.1 hj).1
      simpa using this
    rw [List.drop_eq_getElem_cons hlt]
    have : (l.map Value.string)[j] = Value.string x := by
      rw [List.getElem_map, (List.getElem?_eq_some_iff.1 hj).2]
    rw [this]
    rfl
theorem R_str {e : Nat} {w : World} {base : Nat} {ok : Nat → Prop} {v : Value} {xs : List ByteArray} : Kd.R Kd.string e w base ok v xs ↔ (∀ k, v.ownBlock = some k → ok k) ∧ w.ownsRow base e 1 v xs.length (xs.map Value.string) := by
  constructor
  · rintro ⟨h1, inner, h2, h3⟩
    have := (reps_str xs inner).1 h3
    subst this
    exact ⟨h1, h2⟩
  · rintro ⟨h1, h2⟩
    exact ⟨h1, _, h2, (reps_str xs _).2 rfl⟩
def lst (l : List ByteArray) : List (List UInt8) := l.map fun b => b.data.toList
def unl (l : List (List UInt8)) : List ByteArray := l.map fun b => ⟨b.toArray⟩
theorem lst_enc (l : List ByteArray) : (lst l).map encStr = l.map Value.string := by
  unfold lst
  rw [List.map_map]
  rfl
theorem unl_enc (l : List (List UInt8)) : (unl l).map Value.string = l.map encStr := by
  unfold unl
  rw [List.map_map]
  rfl
def strings_Split.f (a0 a1 : ByteArray) : Option (List ByteArray) := if a0.size < 4294967281 then (if 1 ≤ a1.size then some (Lib.splitB a1 0 (Lib.countB a0 a1) a0) else none) else none
theorem strings_Split.calls (a0 a1 : ByteArray) (r : List ByteArray) (w : World) (hG : Gl w) (h : strings_Split.f a0 a1 = some r) :
    Calls Tryd.prog 40 #[.string a0, .string a1] w fun e w' => ∃ v0_ : Value, e = .returned (v0_) ∧ Kd.R Kd.string 9 w' w.heap.size (fun _ => True) v0_ r ∧ Below w.heap.size w w' := by
  unfold strings_Split.f at h
  split at h
  · rename_i h0
    split at h
    · rename_i h1
      obtain rfl := Option.some.inj h
      obtain ⟨m, hm⟩ := hG.ml
      refine (Tryd.strings_Split a0 a1 m w h0 hm h1).mono fun e w' ⟨he, hw⟩ => ?_
      subst hw
      have hl := Lib.splitB_all a1 h1 0 _ a0 rfl
      have hc : Lib.countB a0 a1 ≤ a0.size + 1 := by
        have := Lib.count_le a0.data.toList a1.data.toList
        rw [data_length] at this
        exact this
      refine ⟨_, he, R_str.2 ⟨fun _ _ => trivial, ?_⟩, (Below.refl _ _).alloc (Nat.le_refl _) _⟩
      refine ⟨by simp, .inr ⟨w.heap.size, Lib.countB a0 a1 + 1, ((Lib.splitB a1 0 (Lib.countB a0 a1) a0).map Value.string).toArray, by rw [hl], Nat.le_refl _, ?_, by rw [hl]; exact Nat.le_refl _, by unfold maxLen; omega, by simp [hl], by
        rw [Nat.mul_one]
        exact List.take_of_length_le (by simp)⟩⟩
      show (w.heap.push _)[w.heap.size]? = _
      simp
    · cases h
  · cases h
def slices_Sort_string_string.f (l0 : List ByteArray) : Option (List ByteArray) := if l0.length < 4611686018427387904 then some (unl ((lst l0).mergeSort fun x y => decide (x ≤ y))) else none
theorem slices_Sort_string_string.calls (P0_ : Nat → Prop) (u9000_ : Value) (l0 : List ByteArray) (r : List ByteArray) (w0 w : World) (hB : Below w0.heap.size w0 w) (ho0 : Kd.R Kd.string 9 w w0.heap.size P0_ u9000_ l0) (h : slices_Sort_string_string.f l0 = some r) :
    Calls Tryd.prog 73 #[u9000_] w fun e w' => e = .returned (.tuple #[]) ∧ Kd.R Kd.string 9 w' w0.heap.size (fun k_ => (P0_ k_ ∨ w.heap.size ≤ k_)) u9000_ r ∧ Below w0.heap.size w0 w' ∧ Kept w w' (fun k_ => P0_ k_) := by
  unfold slices_Sort_string_string.f at h
  split at h
  · rename_i hsz
    obtain rfl := Option.some.inj h
    obtain ⟨ho, hown⟩ := R_str.1 ho0
    rcases hown.2 with ⟨rfl, hn⟩ | ⟨g, cap, cur, rfl, hbase, hb, h1, h2, h3, h4⟩
    · have : l0 = [] := List.eq_nil_of_length_eq_zero hn
      subst this
      refine (Tryd.slices_Sort_string_none none 0 w).mono fun e w' ⟨he, hw⟩ => ?_
      subst hw
      have e0 : unl ((lst []).mergeSort fun x y => decide (x ≤ y)) = [] := by simp [lst, unl]
      rw [e0]
      exact ⟨he, Kd.R_nil _ _ _ _ _, hB, Kept.refl _ _⟩
    · rw [Nat.mul_one] at h4
      have hl : (lst l0).length = l0.length := List.length_map _
      have hl2 : ((lst l0).mergeSort fun x y => decide (x ≤ y)).length = (lst l0).length := List.length_mergeSort _
      have hg := (Array.getElem?_eq_some_iff.1 hb).1
      have hc := Tryd.slices_Sort_string g 0 cap (lst l0) w (holds_of_block hb (by rw [hl, h4, lst_enc])) hg (by rw [hl]; exact hsz)
      rw [hl] at hc
      refine hc.mono fun e w' ⟨he, n, os, hw⟩ => ?_
      subst hw
      have hgr : w.grownBy (grow (putRow encStr (Go.Sort.ahead w n) g 0 ((lst l0).mergeSort fun x y => decide (x ≤ y)).toArray) os) (some g) := grownBy_sorted _
      refine ⟨he, R_str.2 ⟨fun k hk => .inl (ho k hk), ?_⟩, hB.grown hgr hB.size (fun k hk => by cases hk; exact hbase), Kept.of_grown hgr (Kept.refl _ _) (fun k hk => .inl (ho k (by rw [← hk]; rfl)))⟩
      have := ownsRow_sorted (n := n) (os := os) hl2 hbase hb (by rw [hl]; exact h1) h2 h3
      rw [unl_enc, show (unl ((lst l0).mergeSort fun x y => decide (x ≤ y))).length = (lst l0).length by unfold unl; rw [List.length_map, hl2]]
      rw [hl] at this ⊢
      exact this
  · cases h
def slices_Compact_string_string.f (l0 : List ByteArray) : Option (List ByteArray) := if l0.length ≤ 9223372036854775807 then some (unl (Lib.compact (lst l0))) else none
theorem compact_len (l : List (List UInt8)) : (Lib.compact l).length ≤ l.length := by
  unfold Lib.compact Lib.compactUpTo
  rw [List.length_map]
  refine Nat.le_trans (List.length_filter_le _ _) ?_
  rw [List.length_range]
  exact Nat.le_refl _
theorem slices_Compact_string_string.calls (P0_ : Nat → Prop) (u9000_ : Value) (l0 : List ByteArray) (r : List ByteArray) (w0 w : World) (hB : Below w0.heap.size w0 w) (ho0 : Kd.R Kd.string 9 w w0.heap.size P0_ u9000_ l0) (h : slices_Compact_string_string.f l0 = some r) :
    Calls Tryd.prog 74 #[u9000_] w fun e w' => ∃ v0_ : Value, e = .returned (v0_) ∧ Kd.R Kd.string 9 w' w0.heap.size (fun k_ => (P0_ k_ ∨ w.heap.size ≤ k_)) v0_ r ∧ Below w0.heap.size w0 w' ∧ Kept w w' (fun k_ => P0_ k_) := by
  unfold slices_Compact_string_string.f at h
  split at h
  · rename_i hsz
    obtain rfl := Option.some.inj h
    obtain ⟨ho, hown⟩ := R_str.1 ho0
    rcases hown.2 with ⟨rfl, hn⟩ | ⟨g, cap, cur, rfl, hbase, hb, h1, h2, h3, h4⟩
    · have : l0 = [] := List.eq_nil_of_length_eq_zero hn
      subst this
      refine (Tryd.slices_Compact_string_empty none 0 w).mono fun e w' ⟨he, hw⟩ => ?_
      subst hw
      have e0 : unl (Lib.compact (lst [])) = [] := by rfl
      rw [e0]
      exact ⟨_, he, Kd.R_nil _ _ _ _ _, hB, Kept.refl _ _⟩
    · rw [Nat.mul_one] at h4
      have hl : (lst l0).length = l0.length := List.length_map _
      have hcl := compact_len (lst l0)
      have hc := Tryd.slices_Compact_string g 0 cap (lst l0) w (holds_of_block hb (by rw [hl, h4, lst_enc])) (by rw [hl]; exact hsz) (by rw [hl]; exact h1)
      generalize hts : Lib.compact (lst l0) = ts at *
      rw [hl] at hc
      refine hc.mono fun e w' ⟨he, q, hw⟩ => ?_
      have hl2 : (ts ++ List.replicate (l0.length - ts.length) ([] : List UInt8)).length = (lst l0).length := by rw [List.length_append, List.length_replicate, hl]; omega
      have hw2 : w' = grow (putRow encStr (Go.Sort.ahead w q) g 0 (ts ++ List.replicate (l0.length - ts.length) ([] : List UInt8)).toArray) #[] := by rw [grow_empty]; exact hw
      subst hw2
      have hgr : w.grownBy (grow (putRow encStr (Go.Sort.ahead w q) g 0 (ts ++ List.replicate (l0.length - ts.length) ([] : List UInt8)).toArray) #[]) (some g) := grownBy_sorted _
      have hob := ownsRow_sorted (n := q) (os := #[]) hl2 hbase hb (by rw [hl]; exact h1) h2 h3
      refine ⟨_, he, R_str.2 ⟨fun k hk => .inl (ho k hk), ?_⟩, hB.grown hgr hB.size (fun k hk => by cases hk; exact hbase), Kept.of_grown hgr (Kept.refl _ _) (fun k hk => .inl (ho k (by rw [← hk]; rfl)))⟩
      rw [unl_enc, show (unl ts).length = ts.length by unfold unl; rw [List.length_map]]
      obtain ⟨_, h5⟩ := hob
      rcases h5 with ⟨h5, _⟩ | ⟨g2, cap2, cur2, e5, hbase2, hb2, k1, k2, k3, k4⟩
      · cases h5
      · cases e5
        refine ⟨by simp, .inr ⟨g, cap, cur2, rfl, hbase, hb2, by omega, k2, k3, ?_⟩⟩
        rw [Nat.mul_one] at k4 ⊢
        have k5 := congrArg (fun z => z.take ts.length) k4
        rw [List.take_take, Nat.min_eq_left (by omega), List.map_append, List.take_left' (by rw [List.length_map])] at k5
        exact k5
  · cases h
end Go.Proofs.YtllblgjhoeopjaaDoor.GivC
