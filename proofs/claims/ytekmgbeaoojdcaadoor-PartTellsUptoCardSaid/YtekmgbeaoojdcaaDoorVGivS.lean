/- The contract of part.strong, walked by hand. -/
import Derived.Test.YtekmgbeaoojdcaaDoorVGivP
import Derived.WalkKit
import Derived.Lib.ConvBytes
import Derived.WalkSpells
import Derived.WalkLawsBesides
namespace Go.Proofs.YtekmgbeaoojdcaaDoor.GivS
open Go.RowKit Go.Proofs.YtekmgbeaoojdcaaDoorW.PrintWords Go.Proofs.YtekmgbeaoojdcaaDoorW.PrintLast Go.Proofs.YtekmgbeaoojdcaaDoorW.PrintMore Go.Proofs.YtekmgbeaoojdcaaDoor.Giv
/-- May that be a strong tag? (part.strong) -/
def strongB (s : ByteArray) : Bool := decide (3 ≤ s.size) && decide (s.size ≤ 12) && (byN s 0 == 34) && (byN s (s.size - 1) == 34) && (List.range (s.size - 2)).all fun j => decide (33 ≤ byN s (j + 1)) && decide (byN s (j + 1) ≤ 126) && (byN s (j + 1) != 34)
theorem byN_get (s : ByteArray) (j : Nat) (h : j < s.size) : ((s[j]).toNat : Int) = byN s j := by
  have h2 : j < s.data.toList.length := by rw [data_length]; exact h
  unfold byN
  simp [List.getD_eq_getElem?_getD, List.getElem?_eq_getElem h2]
  rfl
set_option maxHeartbeats 800000 in
theorem strong28_short (s : ByteArray) (w : World) (h : s.size < 3 ∨ 12 < s.size) (hs : s.size ≤ 140737488351232) :
    Calls Tryd.prog 26 #[.string s] w fun e w' => e = .returned (.bool false) ∧ Below w.heap.size w w' := by
  have hs2 : s.size ≤ 9223372036854775807 := by omega
  by_cases h1 : s.size < 3
  · clear h
    go_enter Tryd.func26, Tryd.ntmps26
    go_wp2
    go_ret
    exact ⟨rfl, Below.refl _ _⟩
  · have h2 : 12 < s.size := by omega
    clear h
    go_enter Tryd.func26, Tryd.ntmps26
    go_wp2
    go_ret
    exact ⟨rfl, Below.refl _ _⟩
set_option maxRecDepth 100000 in
set_option maxHeartbeats 800000 in
theorem strong28_first (s : ByteArray) (w : World) (h1 : 3 ≤ s.size) (h2 : s.size ≤ 12) (h0 : 0 < s.size) (h : (((s[0]).toNat : Int) != 34) = true) :
    Calls Tryd.prog 26 #[.string s] w fun e w' => e = .returned (.bool false) ∧ Below w.heap.size w w' := by
  have h' : ¬ (((s[0]).toNat : Int) = 34) := by simpa using h
  go_enter Tryd.func26, Tryd.ntmps26
  go_wp2
  go_ret
  exact ⟨rfl, Below.refl _ _⟩
set_option maxRecDepth 100000 in
set_option maxHeartbeats 800000 in
theorem strong28_last (s : ByteArray) (w : World) (h1 : 3 ≤ s.size) (h2 : s.size ≤ 12) (h0 : 0 < s.size) (h : ((s[0]).toNat : Int) = 34) (h3 : s.size - 1 < s.size) (h4 : (((s[s.size - 1]).toNat : Int) != 34) = true) :
    Calls Tryd.prog 26 #[.string s] w fun e w' => e = .returned (.bool false) ∧ Below w.heap.size w w' := by
  have h5 : 1 ≤ (s.size : Int) ∧ (s.size : Int) - 1 < s.size := by omega
  go_enter Tryd.func26, Tryd.ntmps26
  go_wp2
  go_ret
  exact ⟨rfl, Below.refl _ _⟩
def okB (s : ByteArray) (j : Nat) : Bool := decide (33 ≤ byN s (j + 1)) && decide (byN s (j + 1) ≤ 126) && (byN s (j + 1) != 34)
theorem ret_bool {a b : Bool} (h : a = b) : Ending.returned (.bool a) = .returned (.bool b) := by rw [h]
theorem okB_all {s : ByteArray} {n : Nat} (k : Nat) (hk : k < n) (h : okB s k = false) : ((List.range n).all (okB s)) = false := by
  rw [List.all_eq_false]
  exact ⟨k, by simpa using hk, by simp [h]⟩
theorem okB_mk {s : ByteArray} {n : Nat} (h : ∀ j, j < n → okB s j = true) : ((List.range n).all (okB s)) = true := by
  rw [List.all_eq_true]
  intro j hj
  exact h j (by simpa using hj)
theorem mid_cell (s : ByteArray) (w : World) (j : Nat) (hj : j < s.size - 1 - 1) : (Lib.bytesWorld w 5 (s.extract 1 (s.size - 1))).cell? ⟨w.heap.size, j, none⟩ = some (.int .u8 (byN s (j + 1))) := by
  have hz : (s.extract 1 (s.size - 1)).size = s.size - 1 - 1 := by rw [ByteArray.size_extract]; omega
  rw [Lib.bytesWorld_cell w 5 _ j (by omega)]
  have hj2 : j < (s.extract 1 (s.size - 1)).data.toList.length := by rw [data_length]; omega
  have h2 : j + 1 < s.data.toList.length := by rw [data_length]; omega
  unfold byN
  simp only [List.getD_eq_getElem?_getD, List.getElem?_eq_getElem hj2, List.getElem?_eq_getElem h2, Option.getD_some]
  congr 4
  simp [ByteArray.data_extract]
  (try (congr 1; omega))
set_option maxRecDepth 100000 in
set_option maxHeartbeats 800000 in
theorem strong28_mid (s : ByteArray) (w : World) (h1 : 3 ≤ s.size) (h2 : s.size ≤ 12) (h0 : 0 < s.size) (h : ((s[0]).toNat : Int) = 34) (h3 : s.size - 1 < s.size) (h4 : ((s[s.size - 1]).toNat : Int) = 34) :
    Calls Tryd.prog 26 #[.string s] w fun e w' => e = .returned (.bool ((List.range (s.size - 1 - 1)).all (okB s))) ∧ Below w.heap.size w w' := by
  have h5 : 1 ≤ (s.size : Int) ∧ (s.size : Int) - 1 < s.size := by omega
  have h6 : ¬ ((s.size : Int) - 1 < 1) := by omega
  have h7 : ((s.size : Int) - 1).toNat = s.size - 1 := by omega
  have h8 : (1 : Int) ≤ (s.size : Int) - 1 := by omega
  have h9 : (s.size : Int) - 1 ≤ s.size := by omega
  have kb := fun W => print_bytes (P := Tryd.prog) 9 45 5 Tryd.underlying9 Tryd.underlying45 Tryd.underlying5 (s.extract 1 (s.size - 1)) W
  have hcell := Lib.hid (mid_cell s w)
  have hbel := Lib.hid (Lib.bytesWorld_below w 5 (s.extract 1 (s.size - 1)))
  go_enter Tryd.func26, Tryd.ntmps26
  go_wp2
  clear kb
  generalize Lib.bytesWorld w 5 (s.extract 1 (s.size - 1)) = W0 at *
  generalize grownCap w (s.size - 1 - 1) 0 5 = cap at *
  clear h h4 h6 h7 h8 h9 h5
  have hn : s.size - 1 - 1 ≤ 10 := by omega
  have hfin := Lib.hid (@okB_mk s (s.size - 1 - 1))
  have hbad := Lib.hid (@okB_all s (s.size - 1 - 1))
  clear h0 h3
  go_loop [33] (fun i => ∃ k : Nat, k ≤ s.size - 1 - 1 ∧ i = .int .i64 k ∧ Hid (∀ j, j < k → okB s j = true)) (fun i => s.size - 1 - 1 - (intOf i).toNat)
  case atStart => exact ⟨0, Nat.zero_le _, rfl, fun j hj => by omega⟩
  case round =>
    obtain ⟨k, hk, rfl, hI⟩ := hrel
    by_cases hlt : k < s.size - 1 - 1
    · have hc := hcell.out k hlt
      have hb := byN_bd s (k + 1)
      obtain ⟨b, hbe⟩ : ∃ b, byN s (k + 1) = b := ⟨_, rfl⟩
      rw [hbe] at hc hb
      have hok : okB s k = (decide (33 ≤ b) && decide (b ≤ 126) && (b != 34)) := by unfold okB; rw [hbe]
      have HO := Lib.hid hok
      clear hbe hok
      by_cases g1 : b < 33
      · go_wp2
        go_ret
        exact ⟨ret_bool (hbad.out k hlt (by rw [HO.out]; simp; omega)).symm, hbel.out⟩
      · by_cases g2 : 126 < b
        · go_wp2
          go_ret
          exact ⟨ret_bool (hbad.out k hlt (by rw [HO.out]; simp; omega)).symm, hbel.out⟩
        · by_cases g3 : b = 34
          · have g4 : (b == 34) = true := by simpa using g3
            go_wp2
            go_ret
            exact ⟨ret_bool (hbad.out k hlt (by rw [HO.out]; simp; omega)).symm, hbel.out⟩
          · have g4 : (b == 34) = false := by simpa using g3
            go_wp2
            go_round
            case rel => exact ⟨k + 1, by omega, by go_num, fun j hj => by
              by_cases e : j = k
              · subst e; rw [HO.out]; simp; omega
              · exact hI.out j (by omega)⟩
            case measure => simp [intOf]; omega
    · obtain rfl : k = s.size - 1 - 1 := by omega
      have hz := hfin.out hI.out
      have HZ := Lib.hid hz
      clear hz hfin
      go_wp2
      go_ret
      exact ⟨ret_bool HZ.out.symm, hbel.out⟩
theorem strong28 (s : ByteArray) (w : World) (hs : s.size ≤ 140737488351232) :
    Calls Tryd.prog 26 #[.string s] w fun e w' => e = .returned (.bool (strongB s)) ∧ Below w.heap.size w w' := by
  by_cases h : s.size < 3 ∨ 12 < s.size
  · rw [show strongB s = false by
      unfold strongB
      rcases h with h | h
      · rw [decide_eq_false (by omega : ¬ 3 ≤ s.size)]; simp
      · rw [decide_eq_false (by omega : ¬ s.size ≤ 12)]; simp]
    exact strong28_short s w h hs
  · have h1 : 3 ≤ s.size := by omega
    have h2 : s.size ≤ 12 := by omega
    have g0 := byN_get s 0 (by omega)
    have g1 := byN_get s (s.size - 1) (by omega)
    by_cases e0 : byN s 0 = 34
    · by_cases e1 : byN s (s.size - 1) = 34
      · rw [show strongB s = (List.range (s.size - 1 - 1)).all (okB s) by
          unfold strongB okB
          rw [e0, e1, decide_eq_true h1, decide_eq_true h2, show s.size - 2 = s.size - 1 - 1 by omega]
          simp]
        exact strong28_mid s w h1 h2 (by omega) (g0.trans e0) (by omega) (g1.trans e1)
      · rw [show strongB s = false by
          unfold strongB
          rw [beq_eq_false_iff_ne.2 e1]; simp]
        exact strong28_last s w h1 h2 (by omega) (g0.trans e0) (by omega) (by rw [g1]; simpa using e1)
    · rw [show strongB s = false by
        unfold strongB
        rw [beq_eq_false_iff_ne.2 e0]; simp]
      exact strong28_first s w h1 h2 (by omega) (by rw [g0]; simpa using e0)
def part_strong.f (a0 : ByteArray) : Option (Bool) := if a0.size ≤ 140737488351232 then some (strongB a0) else none
theorem part_strong.calls (a0 : ByteArray) (r : Bool) (w : World) (h : part_strong.f a0 = some r) :
    Calls Tryd.prog 26 #[.string a0] w fun e w' => e = .returned (.bool r) ∧ Below w.heap.size w w' := by
  unfold part_strong.f at h
  split at h
  · obtain rfl := Option.some.inj h
    exact strong28 a0 w (by assumption)
  · cases h
end Go.Proofs.YtekmgbeaoojdcaaDoor.GivS
