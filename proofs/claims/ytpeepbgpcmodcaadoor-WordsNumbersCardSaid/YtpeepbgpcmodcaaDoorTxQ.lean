/-
  Texts, rune by rune: what is left of a text. Plain.
-/
import Derived.Test.YtpeepbgpcmodcaaDoorTxC
set_option maxRecDepth 100000
namespace Go.Tx
open Go
theorem get_data (s : ByteArray) (i : Nat) : s.get! i = (s.data[i]?).getD 0 := by
  show s.data[i]! = _
  rw [getElem!_def]
  cases s.data[i]? <;> rfl
theorem get_ext (s : ByteArray) (p i : Nat) : (s.extract p s.size).get! i = s.get! (p + i) := by
  rw [get_data, get_data, ByteArray.data_extract]
  rw [Array.getElem?_extract]
  show (if i < min s.data.size s.data.size - p then s.data[p + i]? else none).getD 0 = _
  split
  · rfl
  · rename_i h
    rw [Array.getElem?_eq_none (by omega)]
theorem size_ext (s : ByteArray) (p q : Nat) : (s.extract p q).size = min q s.size - p := by
  rw [ByteArray.size_extract]
def tl (s : ByteArray) (k : Nat) : ByteArray := s.extract (ps s k) s.size
theorem tl_size (s : ByteArray) (k : Nat) : (tl s k).size = s.size - ps s k := by
  unfold tl
  rw [size_ext, Nat.min_self]
theorem tl_zero (s : ByteArray) : tl s 0 = s := by
  unfold tl
  show s.extract 0 s.size = s
  simp
theorem tl_dec (s : ByteArray) (k : Nat) : Utf8.decode (tl s k) 0 = Utf8.decode s (ps s k) := by
  rw [Lib.decode_at, Lib.decode_at, tl_size]
  unfold tl
  simp only [get_ext, Nat.sub_zero, Nat.add_zero, Nat.zero_add]
theorem tl_go {s : ByteArray} {k : Nat} (h : k < cn s) : Lib.decodeGo (tl s k) = Utf8.decode s (ps s k) := by
  unfold Lib.decodeGo
  have := cn_lt h
  rw [if_neg (by rw [tl_size]; omega), tl_dec]
theorem tl_c {s : ByteArray} {k : Nat} (h : k < cn s) : c1 (tl s k) = (rn s k : Int) := by unfold c1 rn; rw [tl_go h]
theorem tl_n {s : ByteArray} {k : Nat} (h : k < cn s) : n1 (tl s k) = ((ps s (k + 1) - ps s k : Nat) : Int) := by
  unfold n1
  rw [tl_go h]
  congr 1
  show _ = ps s k + (Utf8.decode s (ps s k)).2 - ps s k
  omega
theorem tl_next {s : ByteArray} {k : Nat} (h : k < cn s) : (tl s k).extract (n1 (tl s k)).toNat (tl s k).size = tl s (k + 1) := by
  rw [tl_n h, tl_size]
  have h1 := ps_in (cn_lt h)
  have h2 := ps_lt s k
  unfold tl
  rw [Int.toNat_natCast, ByteArray.extract_extract]
  congr 1 <;> omega
theorem tl_le {s : ByteArray} {k : Nat} (h : k < cn s) : 0 ≤ n1 (tl s k) ∧ n1 (tl s k) ≤ (((tl s k).size : Nat) : Int) := by
  rw [tl_n h, tl_size]
  have h1 := ps_in (cn_lt h)
  have h2 := ps_lt s k
  omega
theorem tl_pos {s : ByteArray} {k : Nat} (h : k < cn s) : 0 < (tl s k).size := by
  rw [tl_size]
  have := cn_lt h
  omega
theorem tl_end (s : ByteArray) : (tl s (cn s)).size = 0 := by rw [tl_size, ps_end]; omega
end Go.Tx
