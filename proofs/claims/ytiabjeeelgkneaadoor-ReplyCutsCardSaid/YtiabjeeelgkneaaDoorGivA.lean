/- Contracts of small functions, walked by hand: pct.Lower, postilionref01.Lower. -/
import Derived.Test.YtiabjeeelgkneaaDoorMw
import Derived.WalkKit
import Derived.Lib.ConvBytes
import Derived.Lib.AtoiErrMem
import Derived.WalkSpells
import Derived.WalkLawsBesides
namespace Go.Proofs.YtiabjeeelgkneaaDoor.Giv
open Go.RowKit Go.Proofs.YtiabjeeelgkneaaDoorW.PrintWords Go.Proofs.YtiabjeeelgkneaaDoorW.PrintLast Go.Proofs.YtiabjeeelgkneaaDoorW.PrintMore
/-- A great letter as a small one. -/
def lowerB (b : UInt8) : UInt8 := if 65 ≤ b.toNat ∧ b.toNat ≤ 90 then b + 32 else b
def lowN (s : ByteArray) (j : Nat) : Int := ((lowerB (s.data.toList.getD j 0)).toNat : Int)
def byN (s : ByteArray) (j : Nat) : Int := ((s.data.toList.getD j 0).toNat : Int)
/-- What the row holds when k bytes are done. -/
structure LowInv (s : ByteArray) (B k : Nat) (w W : World) : Prop where
  below : Below B w W
  size : B < W.heap.size
  cells : ∀ j, j < s.size → W.cell? ⟨B, j, none⟩ = some (.int .u8 (if j < k then lowN s j else byN s j))
  free : ∀ j, j < s.size → W.frozen? ⟨B, j, none⟩ = false
theorem bytesWorld_free (w : World) (e : TypeId) (s : ByteArray) (j : Nat) (hj : j < s.size) : (Lib.bytesWorld w e s).frozen? ⟨w.heap.size, j, none⟩ = false := by
  have h : j < (Lib.bytesCells w e s).size := by
    unfold Lib.bytesCells
    simp
    have : s.size = s.data.size := rfl
    omega
  simp [World.frozen?, Lib.bytesWorld_at_new]
  omega
theorem lowInv_start (s : ByteArray) (w : World) (e : TypeId) : LowInv s w.heap.size 0 w (Lib.bytesWorld w e s) :=
  ⟨Lib.bytesWorld_below w e s, by rw [Lib.bytesWorld_size]; omega, fun j hj => by rw [Lib.bytesWorld_cell w e s j hj, if_neg (by omega)]; rfl, fun j hj => bytesWorld_free w e s j hj⟩
theorem lowInv_set {s : ByteArray} {B k : Nat} {w W : World} (h : LowInv s B k w W) (hk : k < s.size) (v : Int) (hv : v = lowN s k) : LowInv s B (k + 1) w (W.setCell ⟨B, k, none⟩ (.int .u8 v)) := by
  subst hv
  refine ⟨h.below.setCell (p := ⟨B, k, none⟩) (Nat.le_refl _) _, by simpa using h.size, fun j hj => ?_, fun j hj => by rw [World.frozen?_setCell]; exact h.free j hj⟩
  by_cases e : j = k
  · subst e
    rw [if_pos (by omega)]
    exact World.cell?_setCell_same W _ _ (h.cells j hj)
  · rw [World.cell?_setCell_other W _ _ _ (by intro e2; cases e2; exact e rfl), h.cells j hj]
    by_cases hjk : j < k
    · rw [if_pos hjk, if_pos (by omega)]
    · rw [if_neg hjk, if_neg (by omega)]
theorem lowInv_skip {s : ByteArray} {B k : Nat} {w W : World} (h : LowInv s B k w W) (hk : k < s.size) (hv : byN s k = lowN s k) : LowInv s B (k + 1) w W := by
  refine ⟨h.below, h.size, fun j hj => ?_, h.free⟩
  rw [h.cells j hj]
  by_cases e : j = k
  · subst e; rw [if_neg (by omega), if_pos (by omega), hv]
  · by_cases hjk : j < k
    · rw [if_pos hjk, if_pos (by omega)]
    · rw [if_neg hjk, if_neg (by omega)]

theorem lowN_great (s : ByteArray) (j : Nat) (h1 : 65 ≤ byN s j) (h2 : byN s j ≤ 90) : lowN s j = byN s j + 32 := by
  unfold lowN byN lowerB at *
  rw [if_pos (by omega), UInt8.toNat_add]
  have : (32 : UInt8).toNat = 32 := rfl
  omega
theorem lowN_other (s : ByteArray) (j : Nat) (h : byN s j < 65 ∨ 90 < byN s j) : byN s j = lowN s j := by
  unfold lowN byN lowerB at *
  rw [if_neg (by omega)]
theorem byN_bd (s : ByteArray) (j : Nat) : 0 ≤ byN s j ∧ byN s j ≤ 255 := by
  have := (s.data.toList.getD j 0).toNat_lt
  unfold byN
  omega
theorem low_back {P : Program} {s : ByteArray} {B c : Nat} {w W : World} (h : LowInv s B s.size w W) (src dst e : TypeId) (hs : P.underlying src = some (.slice e)) (he : P.underlying e = some (.int .u8)) (hd : P.underlying dst = some .string) :
    (convert src dst (.slice (some ⟨B, 0, none⟩) s.size c)).run P W = .ok (.string ⟨(s.data.toList.map lowerB).toArray⟩) W := by
  have hl : (s.data.toList.map lowerB).length = s.size := by rw [List.length_map, data_length]
  have hk := run_convert_bytes_back (P := P) W src dst e ⟨B, 0, none⟩ c (s.data.toList.map lowerB) hs he hd (fun j hj => by
    have hj' : j < s.size := by omega
    have := h.cells j hj'
    rw [if_pos hj'] at this
    rw [add_plain]
    (try simp only [Nat.zero_add])
    rw [this]
    have h2 : j < s.data.toList.length := by rw [data_length]; exact hj'
    simp [lowN, List.getD_eq_getElem?_getD, List.getElem?_eq_getElem h2])
  rw [hl] at hk
  exact hk
set_option maxHeartbeats 800000 in
theorem lower43 (s : ByteArray) (w : World) (hs : s.size ≤ 140737488351232) :
    Calls Tryd.prog 43 #[.string s] w fun e w' => e = .returned (.string ⟨(s.data.toList.map lowerB).toArray⟩) ∧ Below w.heap.size w w' := by
  have kb := fun W => print_bytes (P := Tryd.prog) 9 49 5 Tryd.underlying9 Tryd.underlying49 Tryd.underlying5 s W
  have h0 := lowInv_start s w 5
  go_enter Tryd.func43, Tryd.ntmps43
  go_wp2
  clear kb
  generalize Lib.bytesWorld w 5 s = W0 at *
  generalize grownCap w s.size 0 5 = cap at *
  have hs2 : s.size ≤ 9223372036854775807 := by omega
  go_loopw [10] (fun i wr => ∃ k : Nat, k ≤ s.size ∧ i = .int .i64 k ∧ Hid (LowInv s w.heap.size k w wr)) (fun i _ => s.size - (intOf i).toNat)
  case atStart => exact ⟨0, Nat.zero_le _, rfl, h0⟩
  case round =>
    obtain ⟨k, hk, rfl, hI⟩ := hrel
    by_cases hlt : k < s.size
    · have hc : wr.cell? ⟨w.heap.size, k, none⟩ = some (.int .u8 (byN s k)) := by rw [hI.out.cells k hlt, if_neg (by omega)]
      have hf := hI.out.free k hlt
      have hb := byN_bd s k
      have HL := Lib.hid (lowN_great s k)
      have HO := Lib.hid (lowN_other s k)
      have hsum := Lib.hid hI.out
      obtain ⟨b, hbe⟩ : ∃ b, byN s k = b := ⟨_, rfl⟩
      rw [hbe] at hc hb HL HO
      have HE := Lib.hid hbe
      clear hI hbe
      by_cases h1 : 65 ≤ b
      · by_cases h2 : b ≤ 90
        · go_wp2
          go_roundw
          case rel => exact ⟨k + 1, by omega, by go_num, lowInv_set hsum.out hlt _ (by rw [HL.out h1 h2] <;> omega)⟩
          case measure => simp [intOf]; omega
        · go_wp2
          go_roundw
          case rel => exact ⟨k + 1, by omega, by go_num, lowInv_skip hsum.out hlt (HE.out.trans (HO.out (Or.inr (by omega))))⟩
          case measure => simp [intOf]; omega
      · go_wp2
        go_roundw
        case rel => exact ⟨k + 1, by omega, by go_num, lowInv_skip hsum.out hlt (HE.out.trans (HO.out (Or.inl (by omega))))⟩
        case measure => simp [intOf]; omega
    · obtain rfl : k = s.size := by omega
      have kb2 := low_back (P := Tryd.prog) (c := cap) hI.out 49 9 5 Tryd.underlying49 Tryd.underlying5 Tryd.underlying9
      have hbl := hI.out.below
      go_wp2
      go_ret
      exact ⟨rfl, hbl⟩
set_option maxHeartbeats 800000 in
theorem lower47 (s : ByteArray) (w : World) (hs : s.size ≤ 140737488351232) :
    Calls Tryd.prog 47 #[.string s] w fun e w' => e = .returned (.string ⟨(s.data.toList.map lowerB).toArray⟩) ∧ Below w.heap.size w w' := by
  have kb := fun W => print_bytes (P := Tryd.prog) 9 49 5 Tryd.underlying9 Tryd.underlying49 Tryd.underlying5 s W
  have h0 := lowInv_start s w 5
  go_enter Tryd.func47, Tryd.ntmps47
  go_wp2
  clear kb
  generalize Lib.bytesWorld w 5 s = W0 at *
  generalize grownCap w s.size 0 5 = cap at *
  have hs2 : s.size ≤ 9223372036854775807 := by omega
  go_loopw [10] (fun i wr => ∃ k : Nat, k ≤ s.size ∧ i = .int .i64 k ∧ Hid (LowInv s w.heap.size k w wr)) (fun i _ => s.size - (intOf i).toNat)
  case atStart => exact ⟨0, Nat.zero_le _, rfl, h0⟩
  case round =>
    obtain ⟨k, hk, rfl, hI⟩ := hrel
    by_cases hlt : k < s.size
    · have hc : wr.cell? ⟨w.heap.size, k, none⟩ = some (.int .u8 (byN s k)) := by rw [hI.out.cells k hlt, if_neg (by omega)]
      have hf := hI.out.free k hlt
      have hb := byN_bd s k
      have HL := Lib.hid (lowN_great s k)
      have HO := Lib.hid (lowN_other s k)
      have hsum := Lib.hid hI.out
      obtain ⟨b, hbe⟩ : ∃ b, byN s k = b := ⟨_, rfl⟩
      rw [hbe] at hc hb HL HO
      have HE := Lib.hid hbe
      clear hI hbe
      by_cases h1 : 65 ≤ b
      · by_cases h2 : b ≤ 90
        · go_wp2
          go_roundw
          case rel => exact ⟨k + 1, by omega, by go_num, lowInv_set hsum.out hlt _ (by rw [HL.out h1 h2] <;> omega)⟩
          case measure => simp [intOf]; omega
        · go_wp2
          go_roundw
          case rel => exact ⟨k + 1, by omega, by go_num, lowInv_skip hsum.out hlt (HE.out.trans (HO.out (Or.inr (by omega))))⟩
          case measure => simp [intOf]; omega
      · go_wp2
        go_roundw
        case rel => exact ⟨k + 1, by omega, by go_num, lowInv_skip hsum.out hlt (HE.out.trans (HO.out (Or.inl (by omega))))⟩
        case measure => simp [intOf]; omega
    · obtain rfl : k = s.size := by omega
      have kb2 := low_back (P := Tryd.prog) (c := cap) hI.out 49 9 5 Tryd.underlying49 Tryd.underlying5 Tryd.underlying9
      have hbl := hI.out.below
      go_wp2
      go_ret
      exact ⟨rfl, hbl⟩

/-- May that be a strong tag? (part.strong) -/
def strongB (s : ByteArray) : Bool := decide (3 ≤ s.size) && decide (s.size ≤ 12) && (byN s 0 == 34) && (byN s (s.size - 1) == 34) && (List.range (s.size - 2)).all fun j => decide (33 ≤ byN s (j + 1)) && decide (byN s (j + 1) ≤ 126) && (byN s (j + 1) != 34)
theorem byN_get (s : ByteArray) (j : Nat) (h : j < s.size) : ((s[j]).toNat : Int) = byN s j := by
  have h2 : j < s.data.toList.length := by rw [data_length]; exact h
  unfold byN
  simp [List.getD_eq_getElem?_getD, List.getElem?_eq_getElem h2]
  rfl
set_option maxHeartbeats 800000 in
theorem strong28_short (s : ByteArray) (w : World) (h : s.size < 3 ∨ 12 < s.size) (hs : s.size ≤ 140737488351232) :
    Calls Tryd.prog 28 #[.string s] w fun e w' => e = .returned (.bool false) ∧ Below w.heap.size w w' := by
  have hs2 : s.size ≤ 9223372036854775807 := by omega
  by_cases h1 : s.size < 3
  · clear h
    go_enter Tryd.func28, Tryd.ntmps28
    go_wp2
    go_ret
    exact ⟨rfl, Below.refl _ _⟩
  · have h2 : 12 < s.size := by omega
    clear h
    go_enter Tryd.func28, Tryd.ntmps28
    go_wp2
    go_ret
    exact ⟨rfl, Below.refl _ _⟩
set_option maxRecDepth 100000 in
set_option maxHeartbeats 800000 in
theorem strong28_first (s : ByteArray) (w : World) (h1 : 3 ≤ s.size) (h2 : s.size ≤ 12) (h0 : 0 < s.size) (h : (((s[0]).toNat : Int) != 34) = true) :
    Calls Tryd.prog 28 #[.string s] w fun e w' => e = .returned (.bool false) ∧ Below w.heap.size w w' := by
  have h' : ¬ (((s[0]).toNat : Int) = 34) := by simpa using h
  go_enter Tryd.func28, Tryd.ntmps28
  go_wp2
  go_ret
  exact ⟨rfl, Below.refl _ _⟩
set_option maxRecDepth 100000 in
set_option maxHeartbeats 800000 in
theorem strong28_last (s : ByteArray) (w : World) (h1 : 3 ≤ s.size) (h2 : s.size ≤ 12) (h0 : 0 < s.size) (h : ((s[0]).toNat : Int) = 34) (h3 : s.size - 1 < s.size) (h4 : (((s[s.size - 1]).toNat : Int) != 34) = true) :
    Calls Tryd.prog 28 #[.string s] w fun e w' => e = .returned (.bool false) ∧ Below w.heap.size w w' := by
  have h5 : 1 ≤ (s.size : Int) ∧ (s.size : Int) - 1 < s.size := by omega
  go_enter Tryd.func28, Tryd.ntmps28
  go_wp2
  go_ret
  exact ⟨rfl, Below.refl _ _⟩
def okB (s : ByteArray) (j : Nat) : Bool := decide (33 ≤ byN s (j + 1)) && decide (byN s (j + 1) ≤ 126) && (byN s (j + 1) != 34)
theorem ret_bool {a b : Bool} (h : a = b) : Ending.returned (.bool a) = .returned (.bool b) := by rw [h]
theorem okB_all {s : ByteArray} {n : Nat} (k : Nat) (hk : k < n) (h : okB s k = false) : ((List.range n).all (okB s)) = false := by
  rw [List.all_eq_false]
  exact ⟨k, by simpa using hk, by simp [h]⟩
theorem okB_mk {s : ByteArray} {n : Nat} (h : ∀ j, j < n → okB s j = true) : ((List.range n).all (okB s)) = true := by
  rw [List.all_eq_true]
  intro j hj
  exact h j (by simpa using hj)
theorem mid_cell (s : ByteArray) (w : World) (j : Nat) (hj : j < s.size - 1 - 1) : (Lib.bytesWorld w 5 (s.extract 1 (s.size - 1))).cell? ⟨w.heap.size, j, none⟩ = some (.int .u8 (byN s (j + 1))) := by
  have hz : (s.extract 1 (s.size - 1)).size = s.size - 1 - 1 := by rw [ByteArray.size_extract]; omega
  rw [Lib.bytesWorld_cell w 5 _ j (by omega)]
  have hj2 : j < (s.extract 1 (s.size - 1)).data.toList.length := by rw [data_length]; omega
  have h2 : j + 1 < s.data.toList.length := by rw [data_length]; omega
  unfold byN
  simp only [List.getD_eq_getElem?_getD, List.getElem?_eq_getElem hj2, List.getElem?_eq_getElem h2, Option.getD_some]
  congr 4
  simp [ByteArray.data_extract]
  (try (congr 1; omega))
set_option maxRecDepth 100000 in
set_option maxHeartbeats 800000 in
theorem strong28_mid (s : ByteArray) (w : World) (h1 : 3 ≤ s.size) (h2 : s.size ≤ 12) (h0 : 0 < s.size) (h : ((s[0]).toNat : Int) = 34) (h3 : s.size - 1 < s.size) (h4 : ((s[s.size - 1]).toNat : Int) = 34) :
    Calls Tryd.prog 28 #[.string s] w fun e w' => e = .returned (.bool ((List.range (s.size - 1 - 1)).all (okB s))) ∧ Below w.heap.size w w' := by
  have h5 : 1 ≤ (s.size : Int) ∧ (s.size : Int) - 1 < s.size := by omega
  have h6 : ¬ ((s.size : Int) - 1 < 1) := by omega
  have h7 : ((s.size : Int) - 1).toNat = s.size - 1 := by omega
  have h8 : (1 : Int) ≤ (s.size : Int) - 1 := by omega
  have h9 : (s.size : Int) - 1 ≤ s.size := by omega
  have kb := fun W => print_bytes (P := Tryd.prog) 9 49 5 Tryd.underlying9 Tryd.underlying49 Tryd.underlying5 (s.extract 1 (s.size - 1)) W
  have hcell := Lib.hid (mid_cell s w)
  have hbel := Lib.hid (Lib.bytesWorld_below w 5 (s.extract 1 (s.size - 1)))
  go_enter Tryd.func28, Tryd.ntmps28
  go_wp2
  clear kb
  generalize Lib.bytesWorld w 5 (s.extract 1 (s.size - 1)) = W0 at *
  generalize grownCap w (s.size - 1 - 1) 0 5 = cap at *
  clear h h4 h6 h7 h8 h9 h5
  have hn : s.size - 1 - 1 ≤ 10 := by omega
  have hfin := Lib.hid (@okB_mk s (s.size - 1 - 1))
  have hbad := Lib.hid (@okB_all s (s.size - 1 - 1))
  clear h0 h3
  go_loop [33] (fun i => ∃ k : Nat, k ≤ s.size - 1 - 1 ∧ i = .int .i64 k ∧ Hid (∀ j, j < k → okB s j = true)) (fun i => s.size - 1 - 1 - (intOf i).toNat)
  case atStart => exact ⟨0, Nat.zero_le _, rfl, fun j hj => by omega⟩
  case round =>
    obtain ⟨k, hk, rfl, hI⟩ := hrel
    by_cases hlt : k < s.size - 1 - 1
    · have hc := hcell.out k hlt
      have hb := byN_bd s (k + 1)
      obtain ⟨b, hbe⟩ : ∃ b, byN s (k + 1) = b := ⟨_, rfl⟩
      rw [hbe] at hc hb
      have hok : okB s k = (decide (33 ≤ b) && decide (b ≤ 126) && (b != 34)) := by unfold okB; rw [hbe]
      have HO := Lib.hid hok
      clear hbe hok
      by_cases g1 : b < 33
      · go_wp2
        go_ret
        exact ⟨ret_bool (hbad.out k hlt (by rw [HO.out]; simp; omega)).symm, hbel.out⟩
      · by_cases g2 : 126 < b
        · go_wp2
          go_ret
          exact ⟨ret_bool (hbad.out k hlt (by rw [HO.out]; simp; omega)).symm, hbel.out⟩
        · by_cases g3 : b = 34
          · have g4 : (b == 34) = true := by simpa using g3
            go_wp2
            go_ret
            exact ⟨ret_bool (hbad.out k hlt (by rw [HO.out]; simp; omega)).symm, hbel.out⟩
          · have g4 : (b == 34) = false := by simpa using g3
            go_wp2
            go_round
            case rel => exact ⟨k + 1, by omega, by go_num, fun j hj => by
              by_cases e : j = k
              · subst e; rw [HO.out]; simp; omega
              · exact hI.out j (by omega)⟩
            case measure => simp [intOf]; omega
    · obtain rfl : k = s.size - 1 - 1 := by omega
      have hz := hfin.out hI.out
      have HZ := Lib.hid hz
      clear hz hfin
      go_wp2
      go_ret
      exact ⟨ret_bool HZ.out.symm, hbel.out⟩
theorem strong28 (s : ByteArray) (w : World) (hs : s.size ≤ 140737488351232) :
    Calls Tryd.prog 28 #[.string s] w fun e w' => e = .returned (.bool (strongB s)) ∧ Below w.heap.size w w' := by
  by_cases h : s.size < 3 ∨ 12 < s.size
  · rw [show strongB s = false by
      unfold strongB
      rcases h with h | h
      · rw [decide_eq_false (by omega : ¬ 3 ≤ s.size)]; simp
      · rw [decide_eq_false (by omega : ¬ s.size ≤ 12)]; simp]
    exact strong28_short s w h hs
  · have h1 : 3 ≤ s.size := by omega
    have h2 : s.size ≤ 12 := by omega
    have g0 := byN_get s 0 (by omega)
    have g1 := byN_get s (s.size - 1) (by omega)
    by_cases e0 : byN s 0 = 34
    · by_cases e1 : byN s (s.size - 1) = 34
      · rw [show strongB s = (List.range (s.size - 1 - 1)).all (okB s) by
          unfold strongB okB
          rw [e0, e1, decide_eq_true h1, decide_eq_true h2, show s.size - 2 = s.size - 1 - 1 by omega]
          simp]
        exact strong28_mid s w h1 h2 (by omega) (g0.trans e0) (by omega) (g1.trans e1)
      · rw [show strongB s = false by
          unfold strongB
          rw [beq_eq_false_iff_ne.2 e1]; simp]
        exact strong28_last s w h1 h2 (by omega) (g0.trans e0) (by omega) (by rw [g1]; simpa using e1)
    · rw [show strongB s = false by
        unfold strongB
        rw [beq_eq_false_iff_ne.2 e0]; simp]
      exact strong28_first s w h1 h2 (by omega) (by rw [g0]; simpa using e0)
end Go.Proofs.YtiabjeeelgkneaaDoor.Giv
