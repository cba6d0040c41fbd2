/- The contracts of functions that are proved by hand or lie on the shelf, in the form in which printed texts take them; what is known of the package variables (Gl). -/
import Derived.Test.YtekmgbeaoojdcaaDoorVGivA
import Derived.Test.YtekmgbeaoojdcaaDoorVGivD
import Derived.Test.YtekmgbeaoojdcaaDoorVShelf
import Derived.Test.YtekmgbeaoojdcaaDoorVMw
import Derived.Lib.AppendIntMem
namespace Go.Proofs.YtekmgbeaoojdcaaDoor.GivP
open Go.RowKit Go.Proofs.YtekmgbeaoojdcaaDoorW.PrintWords Go.Proofs.YtekmgbeaoojdcaaDoorW.PrintLast Go.Proofs.YtekmgbeaoojdcaaDoorW.PrintMore Go.Proofs.YtekmgbeaoojdcaaDoor.Giv
/-- What the library's package variables hold. -/
structure Gl (w : World) : Prop where
  ml : ∃ m, w.cell? ⟨0, 0, none⟩ = some (.int .i64 m)
  tab : Lib.TabIs Tryd.prog w "internal/strconv.uint64pow10" .u64 Lib.pow10Tab
theorem Gl.below {w w' : World} (h : Gl w) (hb : Below w.heap.size w w') : Gl w' := by
  obtain ⟨m, hm⟩ := h.ml
  have hlt : (⟨0, 0, none⟩ : Addr).block < w.heap.size := World.block_lt_of_cell? _ _ hm
  exact ⟨⟨m, (hb.cell hlt).trans hm⟩, Mw.tab_below (g := 1) (by kernel_rfl) h.tab hb⟩
theorem Gl.drawn {w w' : World} (h : Gl w) (hd : Drawn0 w w') : Gl w' := h.below hd.below
def pct_Lower.f (a0 : ByteArray) : Option (ByteArray) := if a0.size ≤ 140737488351232 then some ⟨(a0.data.toList.map lowerB).toArray⟩ else none
theorem pct_Lower.calls (a0 : ByteArray) (r : ByteArray) (w : World) (h : pct_Lower.f a0 = some r) :
    Calls Tryd.prog 33 #[.string a0] w fun e w' => e = .returned (.string r) ∧ Below w.heap.size w w' := by
  unfold pct_Lower.f at h
  split at h
  · obtain rfl := Option.some.inj h
    exact lower_pct_Lower a0 w (by assumption)
  · cases h
def postilionref01_Lower.f (a0 : ByteArray) : Option (ByteArray) := if a0.size ≤ 140737488351232 then some ⟨(a0.data.toList.map lowerB).toArray⟩ else none
theorem postilionref01_Lower.calls (a0 : ByteArray) (r : ByteArray) (w : World) (h : postilionref01_Lower.f a0 = some r) :
    Calls Tryd.prog 34 #[.string a0] w fun e w' => e = .returned (.string r) ∧ Below w.heap.size w w' := by
  unfold postilionref01_Lower.f at h
  split at h
  · obtain rfl := Option.some.inj h
    exact lower_postilionref01_Lower a0 w (by assumption)
  · cases h
def strings_Cut.f (a0 a1 : ByteArray) : Option (ByteArray × ByteArray × Bool) := if a0.size < 4294967281 then some (⟨(Lib.cut a0.data.toList a1.data.toList).1.toArray⟩, ⟨(Lib.cut a0.data.toList a1.data.toList).2.1.toArray⟩, (Lib.cut a0.data.toList a1.data.toList).2.2) else none
theorem strings_Cut.calls (a0 a1 : ByteArray) (r1 r2 : ByteArray) (r3 : Bool) (w : World) (hG : Gl w) (h : strings_Cut.f a0 a1 = some (r1, r2, r3)) :
    Calls Tryd.prog 20 #[.string a0, .string a1] w fun e w' => e = .returned (.tuple #[.string r1, .string r2, .bool r3]) ∧ Drawn0 w w' := by
  unfold strings_Cut.f at h
  split at h
  · simp only [Option.some.injEq, Prod.mk.injEq] at h
    obtain ⟨rfl, rfl, rfl⟩ := h
    obtain ⟨m, hm⟩ := hG.ml
    exact (Tryd.strings_Cut a0 a1 m w (by assumption) hm).mono fun e w' ⟨he, hw⟩ => ⟨he, ⟨hw⟩⟩
  · cases h
def strconv_Itoa.f (a0 : Int) : Option (ByteArray) := if -9223372036854775808 ≤ a0 then (if a0 ≤ 9223372036854775807 then some ⟨(Lib.itoa a0).toArray⟩ else none) else none
theorem strconv_Itoa.calls (a0 : Int) (r : ByteArray) (w : World) (hG : Gl w) (h : strconv_Itoa.f a0 = some r) :
    Calls Tryd.prog 29 #[.int .i64 a0] w fun e w' => e = .returned (.string r) ∧ Below w.heap.size w w' := by
  unfold strconv_Itoa.f at h
  split at h
  · split at h
    · obtain rfl := Option.some.inj h
      exact (Tryd.strconv_Itoa a0 (by assumption) (by assumption) w hG.tab).mono fun e w' ⟨he, hw⟩ => ⟨he, by
        obtain ⟨k, os, rfl⟩ := hw
        exact Lib.below_grow _ _ (Nat.le_refl _) _ _⟩
    · cases h
  · cases h
def postilionref01_Digits.f (a0 : Int) : Option (ByteArray) := if a0 ≤ 9223372036854775807 then some ⟨(Lib.decDigits a0.toNat).toArray⟩ else none
theorem postilionref01_Digits.calls (a0 : Int) (r : ByteArray) (w : World) (h : postilionref01_Digits.f a0 = some r) :
    Calls Tryd.prog 30 #[.int .i64 a0] w fun e w' => e = .returned (.string r) ∧ Drawn0 w w' := by
  unfold postilionref01_Digits.f at h
  split at h
  · obtain rfl := Option.some.inj h
    exact (digits15 _ a0 w rfl (by assumption)).mono fun e w' ⟨he, hw⟩ => ⟨he, ⟨hw⟩⟩
  · cases h
end Go.Proofs.YtekmgbeaoojdcaaDoor.GivP
