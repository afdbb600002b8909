/- Plain facts on the decoder's widths: at least one byte, and no more than are left. -/
import Derived.Lib.TrimUEq
import Derived.Shelf.Unicode.DecodeLastEight
namespace Go.Proofs.YtdnkjfcndjmdbaaDoor.P

theorem dec_slice (s : ByteArray) (t : Nat) (h : t < s.size) : Lib.decodeGo (s.extract t s.size) = Utf8.decode s t := by
  have hx : (s.extract t s.size).data.toList = s.data.toList.drop t := by
    rw [Lib.extract_data, List.take_of_length_le (by rw [List.length_drop, ← Lib.size_eq]; omega)]
  have hsz : (s.extract t s.size).size ≠ 0 := by rw [Lib.size_eq, hx, List.length_drop, ← Lib.size_eq]; omega
  unfold Lib.decodeGo
  rw [if_neg hsz, ← Lib.decodeL_drop s t, ← hx]
  rfl
theorem dec_pos (s : ByteArray) (t : Nat) : 1 ≤ (Utf8.decode s t).2 := Lib.width_pos s t
theorem dec_le (s : ByteArray) (t : Nat) (h : t < s.size) : t + (Utf8.decode s t).2 ≤ s.size := by
  rw [Lib.decode_at]
  have := Lib.decodeN_le_n (s.size - t) (s.get! t).toNat (s.get! (t + 1)).toNat (s.get! (t + 2)).toNat (s.get! (t + 3)).toNat (by omega)
  omega
end Go.Proofs.YtdnkjfcndjmdbaaDoor.P
