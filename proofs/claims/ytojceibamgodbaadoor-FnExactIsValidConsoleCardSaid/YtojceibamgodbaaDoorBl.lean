/- The bytes of a text (no program in sight). -/
import Derived.Test.YtojceibamgodbaaDoorBase
import Derived.Test.YtojceibamgodbaaDoorLogM
namespace Go.Proofs.YtojceibamgodbaaDoor
open Go.RowKit

def bl (s : ByteArray) : List UInt8 := s.data.toList
theorem bl_app (a b : ByteArray) : bl (a ++ b) = bl a ++ bl b := by unfold bl; rw [ByteArray.data_append, Array.toList_append]
theorem bl_mk (l : List UInt8) : bl ⟨l.toArray⟩ = l := by simp [bl]
theorem bl_lit (l : Array UInt8) : bl ⟨l⟩ = l.toList := rfl
theorem bl_size (s : ByteArray) : (bl s).length = s.size := rfl
theorem bl_ext {s : ByteArray} {l : List UInt8} (h : bl s = l) : s = ⟨l.toArray⟩ := by
  rw [← h]; simp [bl]
theorem bl_inj {s t : ByteArray} (h : bl s = bl t) : s = t := (bl_ext h).trans (bl_ext rfl).symm
set_option maxRecDepth 10000 in
theorem size_app (a b : ByteArray) : (a ++ b).size = a.size + b.size := by rw [← bl_size (a ++ b), bl_app, List.length_append, bl_size, bl_size]
theorem bl_drop {s : ByteArray} {k : Nat} (h : k < s.size) : (bl s).drop k = s[k] :: (bl s).drop (k + 1) := List.drop_eq_getElem_cons (l := bl s) h
theorem bl_take {s : ByteArray} {k : Nat} (h : k < s.size) : (bl s).take (k + 1) = (bl s).take k ++ [s[k]] := List.take_succ_eq_append_getElem (l := bl s) h
theorem bl_extract (s : ByteArray) (a b : Nat) : bl (s.extract a b) = ((bl s).take b).drop a := by
  unfold bl
  rw [Lib.extract_data, List.drop_take]
theorem u8_eq {a b : UInt8} : ((a.toNat : Int) == (b.toNat : Int)) = decide (a = b) := by
  rw [Bool.eq_iff_iff]; simp [← UInt8.toNat_inj]; omega
end Go.Proofs.YtojceibamgodbaaDoor
