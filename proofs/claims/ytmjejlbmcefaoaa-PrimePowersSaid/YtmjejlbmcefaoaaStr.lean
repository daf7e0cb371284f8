/- Texts as rows of bytes: what the model's operations on them come to. -/
import Derived.Test.YtmjejlbmcefaoaaNum
namespace Go.Proofs.Ytmjejlbmcefaoaa
open Go Sx

/-- a text's bytes. -/
abbrev bl (s : ByteArray) : List UInt8 := s.data.toList

theorem bl_inj {a b : ByteArray} (h : bl a = bl b) : a = b := ByteArray.ext (Array.toList_inj.1 h)
theorem eqS_refl (a : ByteArray) : (a.toList == a.toList) = true := by simp
theorem eqS_of {a b : ByteArray} (h : a = b) : (a.toList == b.toList) = true := by subst h; simp
theorem eqS_ne {a b : ByteArray} (h : a ≠ b) : (a.toList == b.toList) = false := by
  rw [beq_eq_false_iff_ne]
  intro e
  rw [ByteArray.toList_eq, ByteArray.toList_eq] at e
  exact h (bl_inj e)
theorem bl_append (a b : ByteArray) : bl (a ++ b) = bl a ++ bl b := by simp [bl]
theorem bl_empty : bl .empty = [] := rfl
theorem bl_mk (l : List UInt8) : bl ⟨l.toArray⟩ = l := rfl
theorem bl_strOf (l : List Int) : bl (strOf l) = l.map fun n => UInt8.ofNat n.toNat := by simp [bl, strOf]
theorem bl_cut (s : ByteArray) (l h : Int) : bl (cut s l h) = ((bl s).drop l.toNat).take (h.toNat - l.toNat) := by
  simp only [bl, cut, ByteArray.data_extract, Array.toList_extract, List.extract_eq_take_drop]
theorem size_bl (s : ByteArray) : s.size = (bl s).length := by simp [bl]
theorem bytesOf_bl (s : ByteArray) : bytesOf s = (bl s).map fun b => (b.toNat : Int) := rfl
theorem strOf_append (a b : List Int) : strOf (a ++ b) = strOf a ++ strOf b := by
  apply bl_inj
  rw [bl_append, bl_strOf, bl_strOf, bl_strOf, List.map_append]
theorem strOf_nil : strOf [] = .empty := rfl
theorem empty_append (a : ByteArray) : ByteArray.empty ++ a = a := by
  apply bl_inj
  rw [bl_append]; rfl
theorem strOf_size (l : List Int) : (strOf l).size = l.length := by rw [size_bl, bl_strOf, List.length_map]
theorem bytes_back (s : ByteArray) : strOf (bytesOf s) = s := by
  apply bl_inj
  rw [bl_strOf, bytesOf_bl, List.map_map]
  have : ((fun n : Int => UInt8.ofNat n.toNat) ∘ fun b : UInt8 => (b.toNat : Int)) = id := by
    funext b
    simp
  rw [this, List.map_id]
theorem bytesOf_length (s : ByteArray) : (bytesOf s).length = s.size := by rw [bytesOf_bl, List.length_map, size_bl]
theorem bytesOf_strOf {l : List Int} (h : ∀ n ∈ l, 0 ≤ n ∧ n < 256) : bytesOf (strOf l) = l := by
  rw [bytesOf_bl, bl_strOf, List.map_map]
  conv => rhs; rw [← List.map_id l]
  apply List.map_congr_left
  intro n hn
  have := h n hn
  simp only [Function.comp, UInt8.toNat_ofNat', id]
  omega
theorem strOf_inj {a b : List Int} (ha : ∀ n ∈ a, 0 ≤ n ∧ n < 256) (hb : ∀ n ∈ b, 0 ≤ n ∧ n < 256) (h : strOf a = strOf b) : a = b := by
  rw [← bytesOf_strOf ha, ← bytesOf_strOf hb, h]
theorem bytesOf_range (s : ByteArray) : ∀ n ∈ bytesOf s, 0 ≤ n ∧ n < 256 := by
  intro n hn
  rw [bytesOf_bl] at hn
  obtain ⟨b, _, rfl⟩ := List.mem_map.1 hn
  have := b.toNat_lt
  omega
theorem bt_eq (s : ByteArray) (i : Int) : bt s i = (bytesOf s).getD i.toNat 0 := by
  unfold bt
  rw [bytesOf_bl]
  simp only [List.getD, List.getElem?_map]
  have : s[i.toNat]? = (bl s)[i.toNat]? := by
    rcases Nat.lt_or_ge i.toNat s.size with h | h
    · rw [getElem?_pos s i.toNat h, List.getElem?_eq_getElem (by rw [← size_bl]; exact h)]
      rfl
    · rw [getElem?_neg s i.toNat (by omega), List.getElem?_eq_none (by rw [← size_bl]; exact h)]
  rw [this]
  cases (bl s)[i.toNat]? <;> rfl
theorem bytesOf_append (a b : ByteArray) : bytesOf (a ++ b) = bytesOf a ++ bytesOf b := by
  rw [bytesOf_bl, bl_append, List.map_append]; rfl
theorem bytesOf_cut (s : ByteArray) (l h : Int) : bytesOf (cut s l h) = ((bytesOf s).drop l.toNat).take (h.toNat - l.toNat) := by
  rw [bytesOf_bl, bl_cut, List.map_take, List.map_drop]; rfl
theorem bytesOf_inj {a b : ByteArray} (h : bytesOf a = bytesOf b) : a = b := by rw [← bytes_back a, ← bytes_back b, h]
/-- every text is a row of bytes. -/
theorem as_bytes (s : ByteArray) : ∃ l : List Int, s = strOf l ∧ (∀ n ∈ l, 0 ≤ n ∧ n < 256) ∧ l.length = s.size := ⟨bytesOf s, (bytes_back s).symm, bytesOf_range s, bytesOf_length s⟩
end Go.Proofs.Ytmjejlbmcefaoaa
