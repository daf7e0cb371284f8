/- What octet.Hex computes: two digits for each byte. -/
import Derived.Test.YtmjejlbmcefaoaaBld
namespace Go.Proofs.Ytmjejlbmcefaoaa
open Go Sx Go.Shelf Go.RowKit

def dig (n : Int) : Int := if n < 10 then 48 + n else 87 + n
def hexI (l : List Int) : List Int := l.flatMap fun n => [dig (n / 16), dig (n % 16)]
def u8c (l : List Int) : List Value := l.map (Value.int .u8)
theorem u8c_length (l : List Int) : (u8c l).length = l.length := by simp [u8c]
theorem hexI_length (l : List Int) : (hexI l).length = 2 * l.length := by
  induction l with
  | nil => rfl
  | cons a l ih => simp only [hexI, List.flatMap_cons, List.length_append, List.length_cons, List.length_nil] at *; omega
theorem hexI_append (l m : List Int) : hexI (l ++ m) = hexI l ++ hexI m := by simp [hexI]
theorem dig_range {n : Int} (h : 0 ≤ n ∧ n < 16) : 0 ≤ dig n ∧ dig n < 256 := by unfold dig; split <;> omega
theorem hexI_range {l : List Int} (h : ∀ n ∈ l, 0 ≤ n ∧ n < 256) : ∀ n ∈ hexI l, 0 ≤ n ∧ n < 256 := by
  intro n hn
  simp only [hexI, List.mem_flatMap, List.mem_cons, List.not_mem_nil, or_false] at hn
  obtain ⟨a, ha, hn⟩ := hn
  have := h a ha
  rcases hn with rfl | rfl
  · exact dig_range (by omega)
  · exact dig_range (by omega)
theorem byteCells_of {l : List Int} (h : ∀ n ∈ l, 0 ≤ n ∧ n < 256) : Lib.byteCells (l.map fun n => UInt8.ofNat n.toNat) = u8c l := by
  simp only [Lib.byteCells, u8c, List.map_map]
  apply List.map_congr_left
  intro n hn
  have := h n hn
  simp only [Function.comp]
  congr 1
  rw [UInt8.toNat_ofNat_of_lt' (by simp [UInt8.size]; omega)]
  omega
theorem dig_all : ∀ n : Fin 16, (((({ data := #[48, 49, 50, 51, 52, 53, 54, 55, 56, 57, 97, 98, 99, 100, 101, 102] } : ByteArray)[n.val]'(by have := n.isLt; simp [ByteArray.size])).toNat : Nat) : Int) = dig n.val := by decide
theorem dig_at (n : Nat) (h : n < 16) (h') : (((({ data := #[48, 49, 50, 51, 52, 53, 54, 55, 56, 57, 97, 98, 99, 100, 101, 102] } : ByteArray)[n]'h').toNat : Nat) : Int) = dig n := dig_all ⟨n, h⟩
theorem take_succ_bytes (s : ByteArray) (k : Nat) (h : k < s.size) : (bytesOf s).take (k + 1) = (bytesOf s).take k ++ [((s[k]).toNat : Int)] := by
  rw [List.take_add_one]
  congr 1
  have : (bytesOf s)[k]? = some ((s[k]).toNat : Int) := by
    simp only [bytesOf, List.getElem?_map, Array.getElem?_toList]
    have e : s.data[k]? = some s[k] := by rw [Array.getElem?_eq_getElem (by exact h)]; rfl
    rw [e]; rfl
  rw [this]; rfl

set_option maxHeartbeats 4000000 in
set_option maxRecDepth 1000000 in
theorem hex_walk (s : ByteArray) (w : World) (hs : s.size ≤ 1000000000) :
    Calls Try.prog 60 #[.string s] w fun e w' => e = .returned (.string (strOf (hexI (bytesOf s)))) ∧ Below w.heap.size w w' := by
  go_enter Try.func60, Try.ntmps60
  go_wp2
  go_loopw [7] (fun i wr => ∃ k : Nat, k ≤ s.size ∧ i = .int .i64 k ∧ Lib.IsBuilder 187 5 w.heap.size w.heap.size (u8c (hexI ((bytesOf s).take k))) wr ∧ Below w.heap.size w wr) (fun i wr => match i with | .int _ n => s.size - n.toNat | _ => 0)
  case atStart =>
    refine ⟨0, by omega, rfl, Lib.fresh_isBuilder 187 5 w, ((Below.refl _ w).alloc (Nat.le_refl _) _)⟩
  case round =>
    obtain ⟨k, hk, rfl, hI, hbw⟩ := hrel
    have hsz := hbw.size
    have hlen : (u8c (hexI ((bytesOf s).take k))).length = 2 * k := by rw [u8c_length, hexI_length, List.length_take, bytesOf_length]; omega
    by_cases hp : k < s.size
    · have hb : (s[k]).toNat < 256 := (s[k]).toNat_lt
      go_wp2_with (go_at_call 194; refine (wByte w.heap.size w.heap.size _ _ _ hI (by omega) hsz).mono ?_)
      · rintro e W1 ⟨rfl, h1, b1⟩
        have hsz1 := b1.size
        go_wp2_with (go_at_call 194; refine (wByte w.heap.size w.heap.size _ _ _ (Or.inr h1) (by simp only [List.length_append, hlen, List.length_cons, List.length_nil]; omega) (by omega)).mono ?_)
        · rintro e W2 ⟨rfl, h2, b2⟩
          go_wp2
          go_roundw
          case rel =>
            refine ⟨k + 1, by omega, by go_num, ?_, hbw.trans (b1.trans b2)⟩
            have e : u8c (hexI ((bytesOf s).take (k + 1))) = u8c (hexI ((bytesOf s).take k)) ++ [Value.int .u8 (dig ((s[k]).toNat / 16))] ++ [Value.int .u8 (dig ((s[k]).toNat % 16))] := by
              rw [take_succ_bytes s k hp, hexI_append]
              simp [u8c, hexI]
            rw [e]
            have h2' := h2
            rw [dig_at _ (by omega), dig_at _ (by omega)] at h2'
            exact Or.inr (by simpa using h2')
          case measure =>
            simp
            omega
    · have hk' : k = s.size := by omega
      subst hk'
      go_wp2_with (go_at_call 195; refine (bString w.heap.size w.heap.size ((hexI (bytesOf s)).map fun n => UInt8.ofNat n.toNat) _ ?_ hsz).mono ?_)
      · rw [byteCells_of (fun n hn => hexI_range (bytesOf_range s) n hn)]
        rw [List.take_of_length_le (by rw [bytesOf_length]; exact Nat.le_refl _)] at hI
        exact hI
      · rintro e W1 ⟨rfl, b1⟩
        go_wp2
        go_ret
        exact ⟨rfl, hbw.trans b1⟩

theorem spec_below {P : Program} {f : FuncId} {x : ByteArray} {y : ByteArray} (h : ∀ w, Calls P f #[.string x] w fun e w' => e = .returned (.string y) ∧ Below w.heap.size w w') :
    Sx.Spec P f [.c (.v (.string x))] [] ⟨V.str y, [], []⟩ := by
  intro ρ vs w ha _
  cases ha with
  | cons h0 h1 =>
    cases h1
    have h0' : _ = Value.string x := h0
    subst h0'
    refine (h w).mono ?_
    rintro e w' ⟨rfl, hb⟩
    refine ⟨_, ρ, rfl, rfl, fun i hi => .refl ρ i, ⟨fun id blk hm => ?_, fun i j bi bj hm => ?_⟩, ⟨hb.os, hb.tape, hb.output, hb.size, fun k hk _ => hb.block k hk⟩, fun i b hb => ?_⟩
    · rw [mOf_get] at hm; simp [applyU] at hm
    · rw [mOf_get] at hm; simp [applyU] at hm
    · simp at hb
theorem s60 (x : ByteArray) (h : x.size ≤ 1000000000) : Sx.Spec Try.prog 60 [.c (.v (.string x))] [] ⟨V.str (strOf (hexI (bytesOf x))), [], []⟩ :=
  spec_below fun w => hex_walk x w h
def e60 : Entry := fun args ms => match args, ms with
  | [.c (.v (.string x))], [] => some (⟨V.str (strOf (hexI (bytesOf x))), [], []⟩, [Nat.ble x.size 1000000000])
  | _, _ => none
theorem e60_ok : EntryOk Try.prog 60 e60 := by
  intro args ms r obs h ho
  unfold e60 at h
  split at h
  · cases h
    exact s60 _ (by simpa using ohead ho)
  · cases h
end Go.Proofs.Ytmjejlbmcefaoaa
