/- Contracts of small functions, walked by hand: pct.Lower, postilionref01.Lower. -/
import Derived.Test.YtekmgbeaoojdcaaDoorVMw
import Derived.WalkKit
import Derived.Lib.ConvBytes
import Derived.Lib.AtoiErrMem
import Derived.WalkSpells
import Derived.WalkLawsBesides
namespace Go.Proofs.YtekmgbeaoojdcaaDoor.Giv
open Go.RowKit Go.Proofs.YtekmgbeaoojdcaaDoorW.PrintWords Go.Proofs.YtekmgbeaoojdcaaDoorW.PrintLast Go.Proofs.YtekmgbeaoojdcaaDoorW.PrintMore
/-- A great letter as a small one. -/
def lowerB (b : UInt8) : UInt8 := if 65 ≤ b.toNat ∧ b.toNat ≤ 90 then b + 32 else b
def lowN (s : ByteArray) (j : Nat) : Int := ((lowerB (s.data.toList.getD j 0)).toNat : Int)
def byN (s : ByteArray) (j : Nat) : Int := ((s.data.toList.getD j 0).toNat : Int)
/-- What the row holds when k bytes are done. -/
structure LowInv (s : ByteArray) (B k : Nat) (w W : World) : Prop where
  below : Below B w W
  size : B < W.heap.size
  cells : ∀ j, j < s.size → W.cell? ⟨B, j, none⟩ = some (.int .u8 (if j < k then lowN s j else byN s j))
  free : ∀ j, j < s.size → W.frozen? ⟨B, j, none⟩ = false
theorem bytesWorld_free (w : World) (e : TypeId) (s : ByteArray) (j : Nat) (hj : j < s.size) : (Lib.bytesWorld w e s).frozen? ⟨w.heap.size, j, none⟩ = false := by
  have h : j < (Lib.bytesCells w e s).size := by
    unfold Lib.bytesCells
    simp
    have : s.size = s.data.size := rfl
    omega
  simp [World.frozen?, Lib.bytesWorld_at_new]
  omega
theorem lowInv_start (s : ByteArray) (w : World) (e : TypeId) : LowInv s w.heap.size 0 w (Lib.bytesWorld w e s) :=
  ⟨Lib.bytesWorld_below w e s, by rw [Lib.bytesWorld_size]; omega, fun j hj => by rw [Lib.bytesWorld_cell w e s j hj, if_neg (by omega)]; rfl, fun j hj => bytesWorld_free w e s j hj⟩
theorem lowInv_set {s : ByteArray} {B k : Nat} {w W : World} (h : LowInv s B k w W) (hk : k < s.size) (v : Int) (hv : v = lowN s k) : LowInv s B (k + 1) w (W.setCell ⟨B, k, none⟩ (.int .u8 v)) := by
  subst hv
  refine ⟨h.below.setCell (p := ⟨B, k, none⟩) (Nat.le_refl _) _, by simpa using h.size, fun j hj => ?_, fun j hj => by rw [World.frozen?_setCell]; exact h.free j hj⟩
  by_cases e : j = k
  · subst e
    rw [if_pos (by omega)]
    exact World.cell?_setCell_same W _ _ (h.cells j hj)
  · rw [World.cell?_setCell_other W _ _ _ (by intro e2; cases e2; exact e rfl), h.cells j hj]
    by_cases hjk : j < k
    · rw [if_pos hjk, if_pos (by omega)]
    · rw [if_neg hjk, if_neg (by omega)]
theorem lowInv_skip {s : ByteArray} {B k : Nat} {w W : World} (h : LowInv s B k w W) (hk : k < s.size) (hv : byN s k = lowN s k) : LowInv s B (k + 1) w W := by
  refine ⟨h.below, h.size, fun j hj => ?_, h.free⟩
  rw [h.cells j hj]
  by_cases e : j = k
  · subst e; rw [if_neg (by omega), if_pos (by omega), hv]
  · by_cases hjk : j < k
    · rw [if_pos hjk, if_pos (by omega)]
    · rw [if_neg hjk, if_neg (by omega)]

theorem lowN_great (s : ByteArray) (j : Nat) (h1 : 65 ≤ byN s j) (h2 : byN s j ≤ 90) : lowN s j = byN s j + 32 := by
  unfold lowN byN lowerB at *
  rw [if_pos (by omega), UInt8.toNat_add]
  have : (32 : UInt8).toNat = 32 := rfl
  omega
theorem lowN_other (s : ByteArray) (j : Nat) (h : byN s j < 65 ∨ 90 < byN s j) : byN s j = lowN s j := by
  unfold lowN byN lowerB at *
  rw [if_neg (by omega)]
theorem byN_bd (s : ByteArray) (j : Nat) : 0 ≤ byN s j ∧ byN s j ≤ 255 := by
  have := (s.data.toList.getD j 0).toNat_lt
  unfold byN
  omega
theorem low_back {P : Program} {s : ByteArray} {B c : Nat} {w W : World} (h : LowInv s B s.size w W) (src dst e : TypeId) (hs : P.underlying src = some (.slice e)) (he : P.underlying e = some (.int .u8)) (hd : P.underlying dst = some .string) :
    (convert src dst (.slice (some ⟨B, 0, none⟩) s.size c)).run P W = .ok (.string ⟨(s.data.toList.map lowerB).toArray⟩) W := by
  have hl : (s.data.toList.map lowerB).length = s.size := by rw [List.length_map, data_length]
  have hk := run_convert_bytes_back (P := P) W src dst e ⟨B, 0, none⟩ c (s.data.toList.map lowerB) hs he hd (fun j hj => by
    have hj' : j < s.size := by omega
    have := h.cells j hj'
    rw [if_pos hj'] at this
    rw [add_plain]
    (try simp only [Nat.zero_add])
    rw [this]
    have h2 : j < s.data.toList.length := by rw [data_length]; exact hj'
    simp [lowN, List.getD_eq_getElem?_getD, List.getElem?_eq_getElem h2])
  rw [hl] at hk
  exact hk
set_option maxHeartbeats 800000 in
theorem lower_pct_Lower (s : ByteArray) (w : World) (hs : s.size ≤ 140737488351232) :
    Calls Tryd.prog 33 #[.string s] w fun e w' => e = .returned (.string ⟨(s.data.toList.map lowerB).toArray⟩) ∧ Below w.heap.size w w' := by
  have kb := fun W => print_bytes (P := Tryd.prog) 9 45 5 Tryd.underlying9 Tryd.underlying45 Tryd.underlying5 s W
  have h0 := lowInv_start s w 5
  go_enter Tryd.func33, Tryd.ntmps33
  go_wp2
  clear kb
  generalize Lib.bytesWorld w 5 s = W0 at *
  generalize grownCap w s.size 0 5 = cap at *
  have hs2 : s.size ≤ 9223372036854775807 := by omega
  go_loopw [10] (fun i wr => ∃ k : Nat, k ≤ s.size ∧ i = .int .i64 k ∧ Hid (LowInv s w.heap.size k w wr)) (fun i _ => s.size - (intOf i).toNat)
  case atStart => exact ⟨0, Nat.zero_le _, rfl, h0⟩
  case round =>
    obtain ⟨k, hk, rfl, hI⟩ := hrel
    by_cases hlt : k < s.size
    · have hc : wr.cell? ⟨w.heap.size, k, none⟩ = some (.int .u8 (byN s k)) := by rw [hI.out.cells k hlt, if_neg (by omega)]
      have hf := hI.out.free k hlt
      have hb := byN_bd s k
      have HL := Lib.hid (lowN_great s k)
      have HO := Lib.hid (lowN_other s k)
      have hsum := Lib.hid hI.out
      obtain ⟨b, hbe⟩ : ∃ b, byN s k = b := ⟨_, rfl⟩
      rw [hbe] at hc hb HL HO
      have HE := Lib.hid hbe
      clear hI hbe
      by_cases h1 : 65 ≤ b
      · by_cases h2 : b ≤ 90
        · go_wp2
          go_roundw
          case rel => exact ⟨k + 1, by omega, by go_num, lowInv_set hsum.out hlt _ (by rw [HL.out h1 h2] <;> omega)⟩
          case measure => simp [intOf]; omega
        · go_wp2
          go_roundw
          case rel => exact ⟨k + 1, by omega, by go_num, lowInv_skip hsum.out hlt (HE.out.trans (HO.out (Or.inr (by omega))))⟩
          case measure => simp [intOf]; omega
      · go_wp2
        go_roundw
        case rel => exact ⟨k + 1, by omega, by go_num, lowInv_skip hsum.out hlt (HE.out.trans (HO.out (Or.inl (by omega))))⟩
        case measure => simp [intOf]; omega
    · obtain rfl : k = s.size := by omega
      have kb2 := low_back (P := Tryd.prog) (c := cap) hI.out 45 9 5 Tryd.underlying45 Tryd.underlying5 Tryd.underlying9
      have hbl := hI.out.below
      go_wp2
      go_ret
      exact ⟨rfl, hbl⟩
set_option maxHeartbeats 800000 in
theorem lower_postilionref01_Lower (s : ByteArray) (w : World) (hs : s.size ≤ 140737488351232) :
    Calls Tryd.prog 34 #[.string s] w fun e w' => e = .returned (.string ⟨(s.data.toList.map lowerB).toArray⟩) ∧ Below w.heap.size w w' := by
  have kb := fun W => print_bytes (P := Tryd.prog) 9 45 5 Tryd.underlying9 Tryd.underlying45 Tryd.underlying5 s W
  have h0 := lowInv_start s w 5
  go_enter Tryd.func34, Tryd.ntmps34
  go_wp2
  clear kb
  generalize Lib.bytesWorld w 5 s = W0 at *
  generalize grownCap w s.size 0 5 = cap at *
  have hs2 : s.size ≤ 9223372036854775807 := by omega
  go_loopw [10] (fun i wr => ∃ k : Nat, k ≤ s.size ∧ i = .int .i64 k ∧ Hid (LowInv s w.heap.size k w wr)) (fun i _ => s.size - (intOf i).toNat)
  case atStart => exact ⟨0, Nat.zero_le _, rfl, h0⟩
  case round =>
    obtain ⟨k, hk, rfl, hI⟩ := hrel
    by_cases hlt : k < s.size
    · have hc : wr.cell? ⟨w.heap.size, k, none⟩ = some (.int .u8 (byN s k)) := by rw [hI.out.cells k hlt, if_neg (by omega)]
      have hf := hI.out.free k hlt
      have hb := byN_bd s k
      have HL := Lib.hid (lowN_great s k)
      have HO := Lib.hid (lowN_other s k)
      have hsum := Lib.hid hI.out
      obtain ⟨b, hbe⟩ : ∃ b, byN s k = b := ⟨_, rfl⟩
      rw [hbe] at hc hb HL HO
      have HE := Lib.hid hbe
      clear hI hbe
      by_cases h1 : 65 ≤ b
      · by_cases h2 : b ≤ 90
        · go_wp2
          go_roundw
          case rel => exact ⟨k + 1, by omega, by go_num, lowInv_set hsum.out hlt _ (by rw [HL.out h1 h2] <;> omega)⟩
          case measure => simp [intOf]; omega
        · go_wp2
          go_roundw
          case rel => exact ⟨k + 1, by omega, by go_num, lowInv_skip hsum.out hlt (HE.out.trans (HO.out (Or.inr (by omega))))⟩
          case measure => simp [intOf]; omega
      · go_wp2
        go_roundw
        case rel => exact ⟨k + 1, by omega, by go_num, lowInv_skip hsum.out hlt (HE.out.trans (HO.out (Or.inl (by omega))))⟩
        case measure => simp [intOf]; omega
    · obtain rfl : k = s.size := by omega
      have kb2 := low_back (P := Tryd.prog) (c := cap) hI.out 45 9 5 Tryd.underlying45 Tryd.underlying5 Tryd.underlying9
      have hbl := hI.out.below
      go_wp2
      go_ret
      exact ⟨rfl, hbl⟩

end Go.Proofs.YtekmgbeaoojdcaaDoor.Giv
