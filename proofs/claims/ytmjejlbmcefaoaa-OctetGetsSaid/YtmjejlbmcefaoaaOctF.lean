/- The law OctetGets: the words of any bytes, and back, are the reference's. -/
import Derived.Test.YtmjejlbmcefaoaaOctE
import Derived.Test.YtmjejlbmcefaoaaHead
namespace Go.Proofs.Ytmjejlbmcefaoaa
open Go Sx Go.ChangeShapes Go.WideShapes Go.ChangeAt Go.RowKit

def e207 : Entry := fun args ms => match args, ms with
  | [.c (.v (.string x)), .c (.v (.int .i64 4)), .c (.fn 254 [(0, 0)])], [⟨3, .rw, .cs [.v (.int .i64 4)]⟩] => some (⟨.w (.c (.own 1)), [], [⟨25, .own (x.size / 4), .ints .u32 (wordsH 4 (bytesOf x) (x.size / 4))⟩]⟩, [Nat.ble x.size 1000000000])
  | _, _ => none
def e208h : Entry := fun args ms => match args, ms with
  | [.c (.v (.string x)), .c (.v (.int .i64 8)), .c (.fn 254 [(0, 0)])], [⟨3, .rw, .cs [.v (.int .i64 8)]⟩] => some (⟨.w (.c (.own 1)), [], [⟨22, .own (x.size / 8), .ints .u64 (wordsH 8 (bytesOf x) (x.size / 8))⟩]⟩, [Nat.ble x.size 1000000000])
  | _, _ => none
def e208l : Entry := fun args ms => match args, ms with
  | [.c (.v (.string x)), .c (.v (.int .i64 8)), .c (.v (.func (.func 255) a b))], [] => some (⟨.w (.c (.own 0)), [], [⟨22, .own (x.size / 8), .ints .u64 (wordsL 8 (bytesOf x) (x.size / 8))⟩]⟩, [Nat.ble x.size 1000000000, Nat.beq a.size 0, Nat.beq b.size 0])
  | _, _ => none
theorem e207_ok : EntryOk Try.prog 207 e207 := by
  intro args ms r obs h ho
  unfold e207 at h
  split at h
  · cases h; exact s207 _ (by simpa using ohead ho)
  · cases h
theorem e208h_ok : EntryOk Try.prog 208 e208h := by
  intro args ms r obs h ho
  unfold e208h at h
  split at h
  · cases h; exact s208h _ (by simpa using ohead ho)
  · cases h
theorem e208l_ok : EntryOk Try.prog 208 e208l := by
  intro args ms r obs h ho
  unfold e208l at h
  split at h
  · cases h
    have ha := Array.eq_empty_of_size_eq_zero (Nat.beq_eq.mp (ohead (otail ho)))
    have hb := Array.eq_empty_of_size_eq_zero (Nat.beq_eq.mp (ohead (otail (otail ho))))
    subst ha
    subst hb
    exact s208l _ (by simpa using ohead ho)
  · cases h
def libi : List (Nat × Entry) := [(198, e198), (200, e200), (207, e207), (208, orE e208h e208l)]
theorem libi_ok : AllOk Try.prog libi := .cons e198_ok (.cons e200_ok (.cons e207_ok (.cons (orE_ok e208h_ok e208l_ok) (.nil _))))
def e73 : Entry := fun args ms => match args, ms with
  | [.c (.v (.string x))], [] => some (⟨.w (.c (.own 0)), [], [⟨25, .own (x.size / 4), .ints .u32 (wordsH 4 (bytesOf x) (x.size / 4))⟩]⟩, [Nat.ble x.size 1000000000])
  | _, _ => none
def e74 : Entry := fun args ms => match args, ms with
  | [.c (.v (.string x))], [] => some (⟨.w (.c (.own 0)), [], [⟨22, .own (x.size / 8), .ints .u64 (wordsH 8 (bytesOf x) (x.size / 8))⟩]⟩, [Nat.ble x.size 1000000000])
  | _, _ => none
def e75 : Entry := fun args ms => match args, ms with
  | [.c (.v (.string x))], [] => some (⟨.w (.c (.own 0)), [], [⟨22, .own (x.size / 8), .ints .u64 (wordsL 8 (bytesOf x) (x.size / 8))⟩]⟩, [Nat.ble x.size 1000000000])
  | _, _ => none
theorem s73_1 (x : ByteArray) (h1 : ByteArray.size x ≤ 1000000000) : Sx.Spec Try.prog 73 [W.c (C.v (Value.string x))] [] ⟨V.w (W.c (C.own 0)), [], [Blk.mk 25 (Mode.own (ByteArray.size x / 4)) (K.ints IntKind.u32 (wordsH 4 (bytesOf x) (ByteArray.size x / 4)))]⟩ :=
  spec_of_whole (tab_ok libi_ok) mixed Try.func73 [] 1000000 [(12, none)] (by kernel_rfl) (by kernel_rfl) (by kernel_rfl) (by kernel_rfl) (by kernel_rfl) (by kernel_rfl)
    (ocons (bleT h1) onil)
theorem s74_1 (x : ByteArray) (h1 : ByteArray.size x ≤ 1000000000) : Sx.Spec Try.prog 74 [W.c (C.v (Value.string x))] [] ⟨V.w (W.c (C.own 0)), [], [Blk.mk 22 (Mode.own (ByteArray.size x / 8)) (K.ints IntKind.u64 (wordsH 8 (bytesOf x) (ByteArray.size x / 8)))]⟩ :=
  spec_of_whole (tab_ok libi_ok) mixed Try.func74 [] 1000000 [(12, none)] (by kernel_rfl) (by kernel_rfl) (by kernel_rfl) (by kernel_rfl) (by kernel_rfl) (by kernel_rfl)
    (ocons (bleT h1) onil)
theorem s75_1 (x : ByteArray) (h1 : ByteArray.size x ≤ 1000000000) : Sx.Spec Try.prog 75 [W.c (C.v (Value.string x))] [] ⟨V.w (W.c (C.own 0)), [], [Blk.mk 22 (Mode.own (ByteArray.size x / 8)) (K.ints IntKind.u64 (wordsL 8 (bytesOf x) (ByteArray.size x / 8)))]⟩ :=
  spec_of_whole (tab_ok libi_ok) mixed Try.func75 [] 1000000 [(12, none)] (by kernel_rfl) (by kernel_rfl) (by kernel_rfl) (by kernel_rfl) (by kernel_rfl) (by kernel_rfl)
    (ocons (bleT h1) (ocons rfl (ocons rfl onil)))
theorem e73_ok : EntryOk Try.prog 73 e73 := by
  intro args ms r obs h ho
  unfold e73 at h
  split at h
  · cases h; exact s73_1 _ (by simpa using ohead ho)
  · cases h
theorem e74_ok : EntryOk Try.prog 74 e74 := by
  intro args ms r obs h ho
  unfold e74 at h
  split at h
  · cases h; exact s74_1 _ (by simpa using ohead ho)
  · cases h
theorem e75_ok : EntryOk Try.prog 75 e75 := by
  intro args ms r obs h ho
  unfold e75 at h
  split at h
  · cases h; exact s75_1 _ (by simpa using ohead ho)
  · cases h
def libj : List (Nat × Entry) := [(57, e57), (63, e63), (64, roE [.ints .u32] e64), (65, roE [.ints .u64] e65), (66, roE [.ints .u64] e66), (73, e73), (74, e74), (75, e75), (76, e76)]
theorem libj_ok : AllOk Try.prog libj := .cons e57_ok (.cons e63_ok (.cons (roE_ok e64_ok) (.cons (roE_ok e65_ok) (.cons (roE_ok e66_ok) (.cons e73_ok (.cons e74_ok (.cons e75_ok (.cons e76_ok (.nil _)))))))))
noncomputable def s12k0 : List Item := kAt Try.prog (tab libj) Try.f12 [(12, false), (26, false), (34, false), (41, false)] 0 [W.c (C.v (Value.string ByteArray.empty))] []
noncomputable def s12st0 (x : ByteArray) (t44h0 : Int) : Cfg := cfg s12k0 [0, 3, 4, 5, 42, 43, 44] [V.str x, V.w (W.c (C.own 0)), V.w (W.c (C.own 1)), V.w (W.c (C.own 2)), V.w (W.c (C.own 0)), V.int IntKind.i64 (↑(ByteArray.size x / 4) : Int), V.int IntKind.i64 t44h0] [Blk.mk 25 (Mode.own (ByteArray.size x / 4)) (K.ints IntKind.u32 (wordsH 4 (bytesOf x) (ByteArray.size x / 4))), Blk.mk 22 (Mode.own (ByteArray.size x / 8)) (K.ints IntKind.u64 (wordsH 8 (bytesOf x) (ByteArray.size x / 8))), Blk.mk 22 (Mode.own (ByteArray.size x / 8)) (K.ints IntKind.u64 (wordsL 8 (bytesOf x) (ByteArray.size x / 8)))]
noncomputable def s12k1 : List Item := kAt Try.prog (tab libj) Try.f12 [(12, false), (26, false), (34, false), (41, false), (45, false)] 1 [W.c (C.v (Value.string ByteArray.empty))] []
noncomputable def s12st1 (x : ByteArray) (t63h1 : Int) : Cfg := cfg s12k1 [0, 3, 4, 5, 61, 62, 63] [V.str x, V.w (W.c (C.own 0)), V.w (W.c (C.own 1)), V.w (W.c (C.own 2)), V.w (W.c (C.own 1)), V.int IntKind.i64 (↑(ByteArray.size x / 8) : Int), V.int IntKind.i64 t63h1] [Blk.mk 25 (Mode.own (ByteArray.size x / 4)) (K.ints IntKind.u32 (wordsH 4 (bytesOf x) (ByteArray.size x / 4))), Blk.mk 22 (Mode.own (ByteArray.size x / 8)) (K.ints IntKind.u64 (wordsH 8 (bytesOf x) (ByteArray.size x / 8))), Blk.mk 22 (Mode.own (ByteArray.size x / 8)) (K.ints IntKind.u64 (wordsL 8 (bytesOf x) (ByteArray.size x / 8)))]
theorem s12_1 (x : ByteArray) (h1 : (↑(ByteArray.size x) : Int) > 300) : Sx.Spec Try.prog 12 [W.c (C.v (Value.string x))] [] ⟨V.bool true, [], []⟩ :=
  spec_of_whole (tab_ok libj_ok) mixed Try.func12 [(12, true)] 1000000 [] (by kernel_rfl) (by kernel_rfl) (by kernel_rfl) (by kernel_rfl) (by kernel_rfl) (by kernel_rfl)
    (ocons (decide_eq_true h1) onil)
theorem s12_2 (x : ByteArray) (h1 : ¬(↑(ByteArray.size x) : Int) > 300) (h2 : ByteArray.size x ≤ 1000000000) (h3 : ¬(↑(ByteArray.size x / 4) : Int) = IntKind.wrap IntKind.i64 (Int.tdiv (↑(ByteArray.size x) : Int) 4)) : Sx.Spec Try.prog 12 [W.c (C.v (Value.string x))] [] ⟨V.bool false, [], []⟩ :=
  spec_of_whole (tab_ok libj_ok) mixed Try.func12 [(12, false), (26, true)] 1000000 [] (by kernel_rfl) (by kernel_rfl) (by kernel_rfl) (by kernel_rfl) (by kernel_rfl) (by kernel_rfl)
    (ocons (ndec h1) (ocons (bleT h2) (ocons (bleT h2) (ocons (bleT h2) (ocons rfl (ocons (bneI h3) onil))))))
theorem s12_3 (x : ByteArray) (h1 : ¬(↑(ByteArray.size x) : Int) > 300) (h2 : ByteArray.size x ≤ 1000000000) (h3 : (↑(ByteArray.size x / 4) : Int) = IntKind.wrap IntKind.i64 (Int.tdiv (↑(ByteArray.size x) : Int) 4)) (h4 : ¬(↑(ByteArray.size x / 8) : Int) = IntKind.wrap IntKind.i64 (Int.tdiv (↑(ByteArray.size x) : Int) 8)) : Sx.Spec Try.prog 12 [W.c (C.v (Value.string x))] [] ⟨V.bool false, [], []⟩ :=
  spec_of_whole (tab_ok libj_ok) mixed Try.func12 [(12, false), (26, false), (34, true)] 1000000 [] (by kernel_rfl) (by kernel_rfl) (by kernel_rfl) (by kernel_rfl) (by kernel_rfl) (by kernel_rfl)
    (ocons (ndec h1) (ocons (bleT h2) (ocons (bleT h2) (ocons (bleT h2) (ocons rfl (ocons (nbneI h3) (ocons rfl (ocons (bneI h4) onil))))))))
theorem s12_4 (x : ByteArray) (h1 : ¬(↑(ByteArray.size x) : Int) > 300) (h2 : ByteArray.size x ≤ 1000000000) (h3 : (↑(ByteArray.size x / 4) : Int) = IntKind.wrap IntKind.i64 (Int.tdiv (↑(ByteArray.size x) : Int) 4)) (h4 : (↑(ByteArray.size x / 8) : Int) = IntKind.wrap IntKind.i64 (Int.tdiv (↑(ByteArray.size x) : Int) 8)) (h5 : ¬(↑(ByteArray.size x / 8) : Int) = IntKind.wrap IntKind.i64 (Int.tdiv (↑(ByteArray.size x) : Int) 8)) : Sx.Spec Try.prog 12 [W.c (C.v (Value.string x))] [] ⟨V.bool false, [], []⟩ :=
  spec_of_whole (tab_ok libj_ok) mixed Try.func12 [(12, false), (26, false), (34, false), (41, true)] 1000000 [] (by kernel_rfl) (by kernel_rfl) (by kernel_rfl) (by kernel_rfl) (by kernel_rfl) (by kernel_rfl)
    (ocons (ndec h1) (ocons (bleT h2) (ocons (bleT h2) (ocons (bleT h2) (ocons rfl (ocons (nbneI h3) (ocons rfl (ocons (nbneI h4) (ocons rfl (ocons (bneI h5) onil))))))))))
theorem s12_5 {ρ : Env} {w : World} {r : Res} (x : ByteArray) (h1 : ¬(↑(ByteArray.size x) : Int) > 300) (h2 : ByteArray.size x ≤ 1000000000) (h3 : (↑(ByteArray.size x / 4) : Int) = IntKind.wrap IntKind.i64 (Int.tdiv (↑(ByteArray.size x) : Int) 4)) (h4 : (↑(ByteArray.size x / 8) : Int) = IntKind.wrap IntKind.i64 (Int.tdiv (↑(ByteArray.size x) : Int) 8)) (hg : G (mkX Try.prog (tab libj) Try.f12 [] ρ w r) (s12st0 (x) (0))) : G (mkX Try.prog (tab libj) Try.f12 [] ρ w r) (cfg [.code (Try.f12.body.getD .skip)] (List.range 1) ([W.c (C.v (Value.string x))].map V.w) []) :=
  G.seg (X := mkX Try.prog (tab libj) Try.f12 [] ρ w r) ⟨tab_ok libj_ok, mixed⟩ [(12, false), (26, false), (34, false), (41, false)] 1000000 0 [0, 3, 4, 5, 42, 43, 44] [(20, none), (28, none), (36, none)] (k := s12k0) (vs := [V.str x, V.w (W.c (C.own 0)), V.w (W.c (C.own 1)), V.w (W.c (C.own 2)), V.w (W.c (C.own 0)), V.int IntKind.i64 (↑(ByteArray.size x / 4) : Int), V.int IntKind.i64 0]) (bs := [Blk.mk 25 (Mode.own (ByteArray.size x / 4)) (K.ints IntKind.u32 (wordsH 4 (bytesOf x) (ByteArray.size x / 4))), Blk.mk 22 (Mode.own (ByteArray.size x / 8)) (K.ints IntKind.u64 (wordsH 8 (bytesOf x) (ByteArray.size x / 8))), Blk.mk 22 (Mode.own (ByteArray.size x / 8)) (K.ints IntKind.u64 (wordsL 8 (bytesOf x) (ByteArray.size x / 8)))]) (by kernel_rfl) (by kernel_rfl)
    (ocons (ndec h1) (ocons (bleT h2) (ocons (bleT h2) (ocons (bleT h2) (ocons rfl (ocons (nbneI h3) (ocons rfl (ocons (nbneI h4) (ocons rfl (ocons (nbneI h4) onil)))))))))) hg
theorem s12_6 {ρ : Env} {w : World} (x : ByteArray) (t44h0 : Int) (h1 : t44h0 < (↑(ByteArray.size x / 4) : Int)) (h2 : 0 ≤ t44h0) (h3 : Int.toNat t44h0 < List.length (wordsH 4 (bytesOf x) (ByteArray.size x / 4))) (h4 : 0 ≤ IntKind.wrap IntKind.i64 (4 * t44h0)) (h5 : IntKind.wrap IntKind.i64 (4 * t44h0) ≤ IntKind.wrap IntKind.i64 (IntKind.wrap IntKind.i64 (4 * t44h0) + 4)) (h6 : 0 ≤ IntKind.wrap IntKind.i64 (IntKind.wrap IntKind.i64 (4 * t44h0) + 4)) (h7 : IntKind.wrap IntKind.i64 (IntKind.wrap IntKind.i64 (4 * t44h0) + 4) ≤ (↑(ByteArray.size x) : Int)) (h8 : ByteArray.size (cut x (IntKind.wrap IntKind.i64 (4 * t44h0)) (IntKind.wrap IntKind.i64 (IntKind.wrap IntKind.i64 (4 * t44h0) + 4))) ≤ 8) (h9 : ¬IntKind.wrap IntKind.u64 (List.getD (wordsH 4 (bytesOf x) (ByteArray.size x / 4)) (Int.toNat t44h0) 0) = beV (bytesOf (cut x (IntKind.wrap IntKind.i64 (4 * t44h0)) (IntKind.wrap IntKind.i64 (IntKind.wrap IntKind.i64 (4 * t44h0) + 4))))) : G (mkX Try.prog (tab libj) Try.f12 [] ρ w ⟨V.bool false, [], []⟩) (s12st0 x t44h0) :=
  G.ends (tab_ok libj_ok) mixed [(45, true), (59, true)] 1000000 [] (by kernel_rfl) (by kernel_rfl) (by kernel_rfl) (by kernel_rfl)
    (ocons (decide_eq_true h1) (ocons (decide_eq_true h2) (ocons (decide_eq_true h1) (ocons (bltT h3) (ocons (decide_eq_true h4) (ocons (decide_eq_true h5) (ocons (decide_eq_true h6) (ocons (decide_eq_true h7) (ocons (bleT h8) (ocons (bneI h9) onil))))))))))
theorem s12_7 {ρ : Env} {w : World} {r : Res} (x : ByteArray) (t44h0 : Int) (h1 : t44h0 < (↑(ByteArray.size x / 4) : Int)) (h2 : 0 ≤ t44h0) (h3 : Int.toNat t44h0 < List.length (wordsH 4 (bytesOf x) (ByteArray.size x / 4))) (h4 : 0 ≤ IntKind.wrap IntKind.i64 (4 * t44h0)) (h5 : IntKind.wrap IntKind.i64 (4 * t44h0) ≤ IntKind.wrap IntKind.i64 (IntKind.wrap IntKind.i64 (4 * t44h0) + 4)) (h6 : 0 ≤ IntKind.wrap IntKind.i64 (IntKind.wrap IntKind.i64 (4 * t44h0) + 4)) (h7 : IntKind.wrap IntKind.i64 (IntKind.wrap IntKind.i64 (4 * t44h0) + 4) ≤ (↑(ByteArray.size x) : Int)) (h8 : ByteArray.size (cut x (IntKind.wrap IntKind.i64 (4 * t44h0)) (IntKind.wrap IntKind.i64 (IntKind.wrap IntKind.i64 (4 * t44h0) + 4))) ≤ 8) (h9 : IntKind.wrap IntKind.u64 (List.getD (wordsH 4 (bytesOf x) (ByteArray.size x / 4)) (Int.toNat t44h0) 0) = beV (bytesOf (cut x (IntKind.wrap IntKind.i64 (4 * t44h0)) (IntKind.wrap IntKind.i64 (IntKind.wrap IntKind.i64 (4 * t44h0) + 4))))) (hg : G (mkX Try.prog (tab libj) Try.f12 [] ρ w r) (s12st0 (x) (IntKind.wrap IntKind.i64 (t44h0 + 1)))) : G (mkX Try.prog (tab libj) Try.f12 [] ρ w r) (s12st0 x t44h0) :=
  G.seg (X := mkX Try.prog (tab libj) Try.f12 [] ρ w r) ⟨tab_ok libj_ok, mixed⟩ [(45, true), (59, false)] 1000000 0 [0, 3, 4, 5, 42, 43, 44] [(0, none), (1, none), (2, none)] (k := s12k0) (vs := [V.str x, V.w (W.c (C.own 0)), V.w (W.c (C.own 1)), V.w (W.c (C.own 2)), V.w (W.c (C.own 0)), V.int IntKind.i64 (↑(ByteArray.size x / 4) : Int), V.int IntKind.i64 (IntKind.wrap IntKind.i64 (t44h0 + 1))]) (bs := [Blk.mk 25 (Mode.own (ByteArray.size x / 4)) (K.ints IntKind.u32 (wordsH 4 (bytesOf x) (ByteArray.size x / 4))), Blk.mk 22 (Mode.own (ByteArray.size x / 8)) (K.ints IntKind.u64 (wordsH 8 (bytesOf x) (ByteArray.size x / 8))), Blk.mk 22 (Mode.own (ByteArray.size x / 8)) (K.ints IntKind.u64 (wordsL 8 (bytesOf x) (ByteArray.size x / 8)))]) (by kernel_rfl) (by kernel_rfl)
    (ocons (decide_eq_true h1) (ocons (decide_eq_true h2) (ocons (decide_eq_true h1) (ocons (bltT h3) (ocons (decide_eq_true h4) (ocons (decide_eq_true h5) (ocons (decide_eq_true h6) (ocons (decide_eq_true h7) (ocons (bleT h8) (ocons (nbneI h9) onil)))))))))) hg
theorem s12_8 {ρ : Env} {w : World} {r : Res} (x : ByteArray) (t44h0 : Int) (h1 : ¬t44h0 < (↑(ByteArray.size x / 4) : Int)) (hg : G (mkX Try.prog (tab libj) Try.f12 [] ρ w r) (s12st1 (x) (0))) : G (mkX Try.prog (tab libj) Try.f12 [] ρ w r) (s12st0 x t44h0) :=
  G.seg (X := mkX Try.prog (tab libj) Try.f12 [] ρ w r) ⟨tab_ok libj_ok, mixed⟩ [(45, false)] 1000000 0 [0, 3, 4, 5, 61, 62, 63] [(0, none), (1, none), (2, none)] (k := s12k1) (vs := [V.str x, V.w (W.c (C.own 0)), V.w (W.c (C.own 1)), V.w (W.c (C.own 2)), V.w (W.c (C.own 1)), V.int IntKind.i64 (↑(ByteArray.size x / 8) : Int), V.int IntKind.i64 0]) (bs := [Blk.mk 25 (Mode.own (ByteArray.size x / 4)) (K.ints IntKind.u32 (wordsH 4 (bytesOf x) (ByteArray.size x / 4))), Blk.mk 22 (Mode.own (ByteArray.size x / 8)) (K.ints IntKind.u64 (wordsH 8 (bytesOf x) (ByteArray.size x / 8))), Blk.mk 22 (Mode.own (ByteArray.size x / 8)) (K.ints IntKind.u64 (wordsL 8 (bytesOf x) (ByteArray.size x / 8)))]) (by kernel_rfl) (by kernel_rfl)
    (ocons (ndec h1) onil) hg
theorem s12_9 {ρ : Env} {w : World} (x : ByteArray) (t63h1 : Int) (h1 : t63h1 < (↑(ByteArray.size x / 8) : Int)) (h2 : 0 ≤ t63h1) (h3 : Int.toNat t63h1 < List.length (wordsH 8 (bytesOf x) (ByteArray.size x / 8))) (h4 : 0 ≤ IntKind.wrap IntKind.i64 (8 * t63h1)) (h5 : IntKind.wrap IntKind.i64 (8 * t63h1) ≤ IntKind.wrap IntKind.i64 (IntKind.wrap IntKind.i64 (8 * t63h1) + 8)) (h6 : 0 ≤ IntKind.wrap IntKind.i64 (IntKind.wrap IntKind.i64 (8 * t63h1) + 8)) (h7 : IntKind.wrap IntKind.i64 (IntKind.wrap IntKind.i64 (8 * t63h1) + 8) ≤ (↑(ByteArray.size x) : Int)) (h8 : ByteArray.size (cut x (IntKind.wrap IntKind.i64 (8 * t63h1)) (IntKind.wrap IntKind.i64 (IntKind.wrap IntKind.i64 (8 * t63h1) + 8))) ≤ 8) (h9 : ¬List.getD (wordsH 8 (bytesOf x) (ByteArray.size x / 8)) (Int.toNat t63h1) 0 = beV (bytesOf (cut x (IntKind.wrap IntKind.i64 (8 * t63h1)) (IntKind.wrap IntKind.i64 (IntKind.wrap IntKind.i64 (8 * t63h1) + 8))))) : G (mkX Try.prog (tab libj) Try.f12 [] ρ w ⟨V.bool false, [], []⟩) (s12st1 x t63h1) :=
  G.ends (tab_ok libj_ok) mixed [(64, true), (78, true)] 1000000 [] (by kernel_rfl) (by kernel_rfl) (by kernel_rfl) (by kernel_rfl)
    (ocons (decide_eq_true h1) (ocons (decide_eq_true h2) (ocons (decide_eq_true h1) (ocons (bltT h3) (ocons (decide_eq_true h4) (ocons (decide_eq_true h5) (ocons (decide_eq_true h6) (ocons (decide_eq_true h7) (ocons (bleT h8) (ocons (bneI h9) onil))))))))))
theorem s12_10 {ρ : Env} {w : World} (x : ByteArray) (t63h1 : Int) (h1 : t63h1 < (↑(ByteArray.size x / 8) : Int)) (h2 : 0 ≤ t63h1) (h3 : Int.toNat t63h1 < List.length (wordsH 8 (bytesOf x) (ByteArray.size x / 8))) (h4 : 0 ≤ IntKind.wrap IntKind.i64 (8 * t63h1)) (h5 : IntKind.wrap IntKind.i64 (8 * t63h1) ≤ IntKind.wrap IntKind.i64 (IntKind.wrap IntKind.i64 (8 * t63h1) + 8)) (h6 : 0 ≤ IntKind.wrap IntKind.i64 (IntKind.wrap IntKind.i64 (8 * t63h1) + 8)) (h7 : IntKind.wrap IntKind.i64 (IntKind.wrap IntKind.i64 (8 * t63h1) + 8) ≤ (↑(ByteArray.size x) : Int)) (h8 : ByteArray.size (cut x (IntKind.wrap IntKind.i64 (8 * t63h1)) (IntKind.wrap IntKind.i64 (IntKind.wrap IntKind.i64 (8 * t63h1) + 8))) ≤ 8) (h9 : List.getD (wordsH 8 (bytesOf x) (ByteArray.size x / 8)) (Int.toNat t63h1) 0 = beV (bytesOf (cut x (IntKind.wrap IntKind.i64 (8 * t63h1)) (IntKind.wrap IntKind.i64 (IntKind.wrap IntKind.i64 (8 * t63h1) + 8))))) (h10 : Int.toNat t63h1 < List.length (wordsL 8 (bytesOf x) (ByteArray.size x / 8))) (h11 : ByteArray.size (cut x (IntKind.wrap IntKind.i64 (8 * t63h1)) (IntKind.wrap IntKind.i64 (IntKind.wrap IntKind.i64 (8 * t63h1) + 8))) ≤ 1000000000) (h12 : ByteArray.size (strOf (List.reverse (bytesOf (cut x (IntKind.wrap IntKind.i64 (8 * t63h1)) (IntKind.wrap IntKind.i64 (IntKind.wrap IntKind.i64 (8 * t63h1) + 8)))))) ≤ 8) (h13 : ¬List.getD (wordsL 8 (bytesOf x) (ByteArray.size x / 8)) (Int.toNat t63h1) 0 = beV (bytesOf (strOf (List.reverse (bytesOf (cut x (IntKind.wrap IntKind.i64 (8 * t63h1)) (IntKind.wrap IntKind.i64 (IntKind.wrap IntKind.i64 (8 * t63h1) + 8)))))))) : G (mkX Try.prog (tab libj) Try.f12 [] ρ w ⟨V.bool false, [], []⟩) (s12st1 x t63h1) :=
  G.ends (tab_ok libj_ok) mixed [(64, true), (78, false), (93, true)] 1000000 [] (by kernel_rfl) (by kernel_rfl) (by kernel_rfl) (by kernel_rfl)
    (ocons (decide_eq_true h1) (ocons (decide_eq_true h2) (ocons (decide_eq_true h1) (ocons (bltT h3) (ocons (decide_eq_true h4) (ocons (decide_eq_true h5) (ocons (decide_eq_true h6) (ocons (decide_eq_true h7) (ocons (bleT h8) (ocons (nbneI h9) (ocons (decide_eq_true h2) (ocons (decide_eq_true h1) (ocons (bltT h10) (ocons (decide_eq_true h4) (ocons (decide_eq_true h5) (ocons (decide_eq_true h6) (ocons (decide_eq_true h7) (ocons (bleT h11) (ocons (bleT h12) (ocons (bneI h13) onil))))))))))))))))))))
theorem s12_11 {ρ : Env} {w : World} {r : Res} (x : ByteArray) (t63h1 : Int) (h1 : t63h1 < (↑(ByteArray.size x / 8) : Int)) (h2 : 0 ≤ t63h1) (h3 : Int.toNat t63h1 < List.length (wordsH 8 (bytesOf x) (ByteArray.size x / 8))) (h4 : 0 ≤ IntKind.wrap IntKind.i64 (8 * t63h1)) (h5 : IntKind.wrap IntKind.i64 (8 * t63h1) ≤ IntKind.wrap IntKind.i64 (IntKind.wrap IntKind.i64 (8 * t63h1) + 8)) (h6 : 0 ≤ IntKind.wrap IntKind.i64 (IntKind.wrap IntKind.i64 (8 * t63h1) + 8)) (h7 : IntKind.wrap IntKind.i64 (IntKind.wrap IntKind.i64 (8 * t63h1) + 8) ≤ (↑(ByteArray.size x) : Int)) (h8 : ByteArray.size (cut x (IntKind.wrap IntKind.i64 (8 * t63h1)) (IntKind.wrap IntKind.i64 (IntKind.wrap IntKind.i64 (8 * t63h1) + 8))) ≤ 8) (h9 : List.getD (wordsH 8 (bytesOf x) (ByteArray.size x / 8)) (Int.toNat t63h1) 0 = beV (bytesOf (cut x (IntKind.wrap IntKind.i64 (8 * t63h1)) (IntKind.wrap IntKind.i64 (IntKind.wrap IntKind.i64 (8 * t63h1) + 8))))) (h10 : Int.toNat t63h1 < List.length (wordsL 8 (bytesOf x) (ByteArray.size x / 8))) (h11 : ByteArray.size (cut x (IntKind.wrap IntKind.i64 (8 * t63h1)) (IntKind.wrap IntKind.i64 (IntKind.wrap IntKind.i64 (8 * t63h1) + 8))) ≤ 1000000000) (h12 : ByteArray.size (strOf (List.reverse (bytesOf (cut x (IntKind.wrap IntKind.i64 (8 * t63h1)) (IntKind.wrap IntKind.i64 (IntKind.wrap IntKind.i64 (8 * t63h1) + 8)))))) ≤ 8) (h13 : List.getD (wordsL 8 (bytesOf x) (ByteArray.size x / 8)) (Int.toNat t63h1) 0 = beV (bytesOf (strOf (List.reverse (bytesOf (cut x (IntKind.wrap IntKind.i64 (8 * t63h1)) (IntKind.wrap IntKind.i64 (IntKind.wrap IntKind.i64 (8 * t63h1) + 8)))))))) (hg : G (mkX Try.prog (tab libj) Try.f12 [] ρ w r) (s12st1 (x) (IntKind.wrap IntKind.i64 (t63h1 + 1)))) : G (mkX Try.prog (tab libj) Try.f12 [] ρ w r) (s12st1 x t63h1) :=
  G.seg (X := mkX Try.prog (tab libj) Try.f12 [] ρ w r) ⟨tab_ok libj_ok, mixed⟩ [(64, true), (78, false), (93, false)] 1000000 0 [0, 3, 4, 5, 61, 62, 63] [(0, none), (1, none), (2, none)] (k := s12k1) (vs := [V.str x, V.w (W.c (C.own 0)), V.w (W.c (C.own 1)), V.w (W.c (C.own 2)), V.w (W.c (C.own 1)), V.int IntKind.i64 (↑(ByteArray.size x / 8) : Int), V.int IntKind.i64 (IntKind.wrap IntKind.i64 (t63h1 + 1))]) (bs := [Blk.mk 25 (Mode.own (ByteArray.size x / 4)) (K.ints IntKind.u32 (wordsH 4 (bytesOf x) (ByteArray.size x / 4))), Blk.mk 22 (Mode.own (ByteArray.size x / 8)) (K.ints IntKind.u64 (wordsH 8 (bytesOf x) (ByteArray.size x / 8))), Blk.mk 22 (Mode.own (ByteArray.size x / 8)) (K.ints IntKind.u64 (wordsL 8 (bytesOf x) (ByteArray.size x / 8)))]) (by kernel_rfl) (by kernel_rfl)
    (ocons (decide_eq_true h1) (ocons (decide_eq_true h2) (ocons (decide_eq_true h1) (ocons (bltT h3) (ocons (decide_eq_true h4) (ocons (decide_eq_true h5) (ocons (decide_eq_true h6) (ocons (decide_eq_true h7) (ocons (bleT h8) (ocons (nbneI h9) (ocons (decide_eq_true h2) (ocons (decide_eq_true h1) (ocons (bltT h10) (ocons (decide_eq_true h4) (ocons (decide_eq_true h5) (ocons (decide_eq_true h6) (ocons (decide_eq_true h7) (ocons (bleT h11) (ocons (bleT h12) (ocons (nbneI h13) onil)))))))))))))))))))) hg
theorem s12_12 {ρ : Env} {w : World} (x : ByteArray) (t63h1 : Int) (h1 : ¬t63h1 < (↑(ByteArray.size x / 8) : Int)) (h2 : ByteArray.size x / 4 = List.length (wordsH 4 (bytesOf x) (ByteArray.size x / 4))) (h3 : List.length (wordsH 4 (bytesOf x) (ByteArray.size x / 4)) ≤ 100000000) (h4 : 0 ≤ IntKind.wrap IntKind.i64 (IntKind.wrap IntKind.i64 (Int.tdiv (↑(ByteArray.size x) : Int) 4) * 4)) (h5 : IntKind.wrap IntKind.i64 (IntKind.wrap IntKind.i64 (Int.tdiv (↑(ByteArray.size x) : Int) 4) * 4) ≤ (↑(ByteArray.size x) : Int)) (h6 : strOf (List.flatMap (beL 4) (wordsH 4 (bytesOf x) (ByteArray.size x / 4))) = cut x 0 (IntKind.wrap IntKind.i64 (IntKind.wrap IntKind.i64 (Int.tdiv (↑(ByteArray.size x) : Int) 4) * 4))) (h7 : ByteArray.size x / 8 = List.length (wordsH 8 (bytesOf x) (ByteArray.size x / 8))) (h8 : List.length (wordsH 8 (bytesOf x) (ByteArray.size x / 8)) ≤ 100000000) (h9 : 0 ≤ IntKind.wrap IntKind.i64 (IntKind.wrap IntKind.i64 (Int.tdiv (↑(ByteArray.size x) : Int) 8) * 8)) (h10 : IntKind.wrap IntKind.i64 (IntKind.wrap IntKind.i64 (Int.tdiv (↑(ByteArray.size x) : Int) 8) * 8) ≤ (↑(ByteArray.size x) : Int)) (h11 : strOf (List.flatMap (beL 8) (wordsH 8 (bytesOf x) (ByteArray.size x / 8))) = cut x 0 (IntKind.wrap IntKind.i64 (IntKind.wrap IntKind.i64 (Int.tdiv (↑(ByteArray.size x) : Int) 8) * 8))) (h12 : ByteArray.size x / 8 = List.length (wordsL 8 (bytesOf x) (ByteArray.size x / 8))) (h13 : List.length (wordsL 8 (bytesOf x) (ByteArray.size x / 8)) ≤ 100000000) (h14 : strOf (List.flatMap (leL 8) (wordsL 8 (bytesOf x) (ByteArray.size x / 8))) = cut x 0 (IntKind.wrap IntKind.i64 (IntKind.wrap IntKind.i64 (Int.tdiv (↑(ByteArray.size x) : Int) 8) * 8))) : G (mkX Try.prog (tab libj) Try.f12 [] ρ w ⟨V.bool true, [], []⟩) (s12st1 x t63h1) :=
  G.ends (tab_ok libj_ok) mixed [(64, false), (104, true), (115, true), (126, true)] 1000000 [] (by kernel_rfl) (by kernel_rfl) (by kernel_rfl) (by kernel_rfl)
    (ocons (ndec h1) (ocons (beqT h2) (ocons (bleT h3) (ocons rfl (ocons rfl (ocons (decide_eq_true h4) (ocons (decide_eq_true h4) (ocons (decide_eq_true h5) (ocons (eqS_of h6) (ocons (beqT h7) (ocons (bleT h8) (ocons rfl (ocons rfl (ocons (decide_eq_true h9) (ocons (decide_eq_true h9) (ocons (decide_eq_true h10) (ocons (eqS_of h11) (ocons (beqT h12) (ocons (bleT h13) (ocons rfl (ocons rfl (ocons (decide_eq_true h9) (ocons (decide_eq_true h9) (ocons (decide_eq_true h10) (ocons (eqS_of h14) onil)))))))))))))))))))))))))
theorem s12_13 {ρ : Env} {w : World} (x : ByteArray) (t63h1 : Int) (h1 : ¬t63h1 < (↑(ByteArray.size x / 8) : Int)) (h2 : ByteArray.size x / 4 = List.length (wordsH 4 (bytesOf x) (ByteArray.size x / 4))) (h3 : List.length (wordsH 4 (bytesOf x) (ByteArray.size x / 4)) ≤ 100000000) (h4 : 0 ≤ IntKind.wrap IntKind.i64 (IntKind.wrap IntKind.i64 (Int.tdiv (↑(ByteArray.size x) : Int) 4) * 4)) (h5 : IntKind.wrap IntKind.i64 (IntKind.wrap IntKind.i64 (Int.tdiv (↑(ByteArray.size x) : Int) 4) * 4) ≤ (↑(ByteArray.size x) : Int)) (h6 : strOf (List.flatMap (beL 4) (wordsH 4 (bytesOf x) (ByteArray.size x / 4))) = cut x 0 (IntKind.wrap IntKind.i64 (IntKind.wrap IntKind.i64 (Int.tdiv (↑(ByteArray.size x) : Int) 4) * 4))) (h7 : ByteArray.size x / 8 = List.length (wordsH 8 (bytesOf x) (ByteArray.size x / 8))) (h8 : List.length (wordsH 8 (bytesOf x) (ByteArray.size x / 8)) ≤ 100000000) (h9 : 0 ≤ IntKind.wrap IntKind.i64 (IntKind.wrap IntKind.i64 (Int.tdiv (↑(ByteArray.size x) : Int) 8) * 8)) (h10 : IntKind.wrap IntKind.i64 (IntKind.wrap IntKind.i64 (Int.tdiv (↑(ByteArray.size x) : Int) 8) * 8) ≤ (↑(ByteArray.size x) : Int)) (h11 : strOf (List.flatMap (beL 8) (wordsH 8 (bytesOf x) (ByteArray.size x / 8))) = cut x 0 (IntKind.wrap IntKind.i64 (IntKind.wrap IntKind.i64 (Int.tdiv (↑(ByteArray.size x) : Int) 8) * 8))) (h12 : ByteArray.size x / 8 = List.length (wordsL 8 (bytesOf x) (ByteArray.size x / 8))) (h13 : List.length (wordsL 8 (bytesOf x) (ByteArray.size x / 8)) ≤ 100000000) (h14 : ¬strOf (List.flatMap (leL 8) (wordsL 8 (bytesOf x) (ByteArray.size x / 8))) = cut x 0 (IntKind.wrap IntKind.i64 (IntKind.wrap IntKind.i64 (Int.tdiv (↑(ByteArray.size x) : Int) 8) * 8))) : G (mkX Try.prog (tab libj) Try.f12 [] ρ w ⟨V.bool false, [], []⟩) (s12st1 x t63h1) :=
  G.ends (tab_ok libj_ok) mixed [(64, false), (104, true), (115, true), (126, false)] 1000000 [] (by kernel_rfl) (by kernel_rfl) (by kernel_rfl) (by kernel_rfl)
    (ocons (ndec h1) (ocons (beqT h2) (ocons (bleT h3) (ocons rfl (ocons rfl (ocons (decide_eq_true h4) (ocons (decide_eq_true h4) (ocons (decide_eq_true h5) (ocons (eqS_of h6) (ocons (beqT h7) (ocons (bleT h8) (ocons rfl (ocons rfl (ocons (decide_eq_true h9) (ocons (decide_eq_true h9) (ocons (decide_eq_true h10) (ocons (eqS_of h11) (ocons (beqT h12) (ocons (bleT h13) (ocons rfl (ocons rfl (ocons (decide_eq_true h9) (ocons (decide_eq_true h9) (ocons (decide_eq_true h10) (ocons (neS h14) onil)))))))))))))))))))))))))
theorem s12_14 {ρ : Env} {w : World} (x : ByteArray) (t63h1 : Int) (h1 : ¬t63h1 < (↑(ByteArray.size x / 8) : Int)) (h2 : ByteArray.size x / 4 = List.length (wordsH 4 (bytesOf x) (ByteArray.size x / 4))) (h3 : List.length (wordsH 4 (bytesOf x) (ByteArray.size x / 4)) ≤ 100000000) (h4 : 0 ≤ IntKind.wrap IntKind.i64 (IntKind.wrap IntKind.i64 (Int.tdiv (↑(ByteArray.size x) : Int) 4) * 4)) (h5 : IntKind.wrap IntKind.i64 (IntKind.wrap IntKind.i64 (Int.tdiv (↑(ByteArray.size x) : Int) 4) * 4) ≤ (↑(ByteArray.size x) : Int)) (h6 : strOf (List.flatMap (beL 4) (wordsH 4 (bytesOf x) (ByteArray.size x / 4))) = cut x 0 (IntKind.wrap IntKind.i64 (IntKind.wrap IntKind.i64 (Int.tdiv (↑(ByteArray.size x) : Int) 4) * 4))) (h7 : ByteArray.size x / 8 = List.length (wordsH 8 (bytesOf x) (ByteArray.size x / 8))) (h8 : List.length (wordsH 8 (bytesOf x) (ByteArray.size x / 8)) ≤ 100000000) (h9 : 0 ≤ IntKind.wrap IntKind.i64 (IntKind.wrap IntKind.i64 (Int.tdiv (↑(ByteArray.size x) : Int) 8) * 8)) (h10 : IntKind.wrap IntKind.i64 (IntKind.wrap IntKind.i64 (Int.tdiv (↑(ByteArray.size x) : Int) 8) * 8) ≤ (↑(ByteArray.size x) : Int)) (h11 : ¬strOf (List.flatMap (beL 8) (wordsH 8 (bytesOf x) (ByteArray.size x / 8))) = cut x 0 (IntKind.wrap IntKind.i64 (IntKind.wrap IntKind.i64 (Int.tdiv (↑(ByteArray.size x) : Int) 8) * 8))) : G (mkX Try.prog (tab libj) Try.f12 [] ρ w ⟨V.bool false, [], []⟩) (s12st1 x t63h1) :=
  G.ends (tab_ok libj_ok) mixed [(64, false), (104, true), (115, false)] 1000000 [] (by kernel_rfl) (by kernel_rfl) (by kernel_rfl) (by kernel_rfl)
    (ocons (ndec h1) (ocons (beqT h2) (ocons (bleT h3) (ocons rfl (ocons rfl (ocons (decide_eq_true h4) (ocons (decide_eq_true h4) (ocons (decide_eq_true h5) (ocons (eqS_of h6) (ocons (beqT h7) (ocons (bleT h8) (ocons rfl (ocons rfl (ocons (decide_eq_true h9) (ocons (decide_eq_true h9) (ocons (decide_eq_true h10) (ocons (neS h11) onil)))))))))))))))))
theorem s12_15 {ρ : Env} {w : World} (x : ByteArray) (t63h1 : Int) (h1 : ¬t63h1 < (↑(ByteArray.size x / 8) : Int)) (h2 : ByteArray.size x / 4 = List.length (wordsH 4 (bytesOf x) (ByteArray.size x / 4))) (h3 : List.length (wordsH 4 (bytesOf x) (ByteArray.size x / 4)) ≤ 100000000) (h4 : 0 ≤ IntKind.wrap IntKind.i64 (IntKind.wrap IntKind.i64 (Int.tdiv (↑(ByteArray.size x) : Int) 4) * 4)) (h5 : IntKind.wrap IntKind.i64 (IntKind.wrap IntKind.i64 (Int.tdiv (↑(ByteArray.size x) : Int) 4) * 4) ≤ (↑(ByteArray.size x) : Int)) (h6 : ¬strOf (List.flatMap (beL 4) (wordsH 4 (bytesOf x) (ByteArray.size x / 4))) = cut x 0 (IntKind.wrap IntKind.i64 (IntKind.wrap IntKind.i64 (Int.tdiv (↑(ByteArray.size x) : Int) 4) * 4))) : G (mkX Try.prog (tab libj) Try.f12 [] ρ w ⟨V.bool false, [], []⟩) (s12st1 x t63h1) :=
  G.ends (tab_ok libj_ok) mixed [(64, false), (104, false)] 1000000 [] (by kernel_rfl) (by kernel_rfl) (by kernel_rfl) (by kernel_rfl)
    (ocons (ndec h1) (ocons (beqT h2) (ocons (bleT h3) (ocons rfl (ocons rfl (ocons (decide_eq_true h4) (ocons (decide_eq_true h4) (ocons (decide_eq_true h5) (ocons (neS h6) onil)))))))))

theorem wordsH_get (w : Nat) (l : List Int) (n i : Nat) (h : i < n) : (wordsH w l n).getD i 0 = beV (chunk w l i) := by
  simp [wordsH, List.getD, h]
theorem wordsL_get (w : Nat) (l : List Int) (n i : Nat) (h : i < n) : (wordsL w l n).getD i 0 = leV (chunk w l i) := by
  simp [wordsL, List.getD, h]
theorem beL_beV : ∀ (n : Nat) (l : List Int), l.length = n → (∀ b ∈ l, 0 ≤ b ∧ b < 256) → beL n (beV l) = l
  | 0, l, h, _ => by
    have : l = [] := List.eq_nil_of_length_eq_zero h
    subst this
    rfl
  | n + 1, l, h, hb => by
    have hne : l ≠ [] := by rintro rfl; simp at h
    obtain ⟨m, b, rfl⟩ : ∃ m b, l = m ++ [b] := ⟨l.dropLast, l.getLast hne, (List.dropLast_concat_getLast hne).symm⟩
    have ih := beL_beV n m (by simpa using h) (fun c hc => hb c (by simp [hc]))
    have := hb b (by simp)
    rw [beV_append]
    have e1 : (beV m * 256 + b) / 256 = beV m := by omega
    have e2 : (beV m * 256 + b) % 256 = b := by omega
    simp only [beL, e1, e2, ih]
theorem leL_leV : ∀ (l : List Int), (∀ b ∈ l, 0 ≤ b ∧ b < 256) → leL l.length (leV l) = l
  | [], _ => rfl
  | b :: l, hb => by
    have ih := leL_leV l (fun c hc => hb c (by simp [hc]))
    have := hb b (by simp)
    have e1 : (b + 256 * leV l) / 256 = leV l := by omega
    have e2 : (b + 256 * leV l) % 256 = b := by omega
    simp only [List.length_cons, leL, leV, e1, e2, ih]
theorem chunk_length (w : Nat) (l : List Int) (i : Nat) (h : w * (i + 1) ≤ l.length) : (chunk w l i).length = w := by
  rw [Nat.mul_succ] at h
  rw [chunk, List.length_take, List.length_drop]; omega
theorem chunk_range {w : Nat} {l : List Int} (hb : ∀ b ∈ l, 0 ≤ b ∧ b < 256) (i : Nat) : ∀ b ∈ chunk w l i, 0 ≤ b ∧ b < 256 := fun b h => hb b (List.mem_of_mem_drop (List.mem_of_mem_take h))
theorem take_chunk (w : Nat) (l : List Int) (n : Nat) : l.take (w * (n + 1)) = l.take (w * n) ++ chunk w l n := by
  rw [Nat.mul_succ, List.take_add]; rfl
theorem backH (w : Nat) (l : List Int) (hb : ∀ b ∈ l, 0 ≤ b ∧ b < 256) : ∀ n, w * n ≤ l.length → (wordsH w l n).flatMap (beL w) = l.take (w * n)
  | 0, _ => by simp [wordsH]
  | n + 1, h => by
    have ih := backH w l hb n (by rw [Nat.mul_succ] at h; omega)
    rw [wordsH_succ, List.flatMap_append, List.flatMap_singleton, ih, take_chunk, beL_beV w _ (chunk_length w l n h) (chunk_range hb n)]
theorem backL (w : Nat) (l : List Int) (hb : ∀ b ∈ l, 0 ≤ b ∧ b < 256) : ∀ n, w * n ≤ l.length → (wordsL w l n).flatMap (leL w) = l.take (w * n)
  | 0, _ => by simp [wordsL]
  | n + 1, h => by
    have ih := backL w l hb n (by rw [Nat.mul_succ] at h; omega)
    have hc := leL_leV _ (chunk_range (w := w) hb n)
    rw [chunk_length w l n h] at hc
    rw [wordsL_succ, List.flatMap_append, List.flatMap_singleton, ih, take_chunk, hc]
theorem cut_chunk (x : ByteArray) (w i : Nat) : bytesOf (cut x ((w * i : Nat) : Int) ((w * i + w : Nat) : Int)) = chunk w (bytesOf x) i := by
  rw [bytesOf_cut, Int.toNat_natCast, Int.toNat_natCast, Nat.add_sub_cancel_left]; rfl
theorem cut_head (x : ByteArray) (n : Nat) : cut x 0 (n : Int) = strOf ((bytesOf x).take n) := by
  apply bytesOf_inj
  rw [bytesOf_strOf (fun b hb => bytesOf_range x b (List.mem_of_mem_take hb)), bytesOf_cut]
  simp
theorem size_bytes (x : ByteArray) : x.size = (bytesOf x).length := (bytesOf_length x).symm

theorem s12 (x : ByteArray) : Sx.Spec Try.prog 12 [.c (.v (.string x))] [] ⟨V.bool true, [], []⟩ := by
  by_cases c : (x.size : Int) > 300
  · exact s12_1 x c
  have hl := bytesOf_length x
  have hbr := bytesOf_range x
  have q4 : IntKind.wrap IntKind.i64 (Int.tdiv (x.size : Int) 4) = ((x.size / 4 : Nat) : Int) := by rw [tdiv_pos (by omega), i64w] <;> omega
  have q8 : IntKind.wrap IntKind.i64 (Int.tdiv (x.size : Int) 8) = ((x.size / 8 : Nat) : Int) := by rw [tdiv_pos (by omega), i64w] <;> omega
  have p4 : IntKind.wrap IntKind.i64 (((x.size / 4 : Nat) : Int) * 4) = ((4 * (x.size / 4) : Nat) : Int) := by rw [i64w] <;> omega
  have p8 : IntKind.wrap IntKind.i64 (((x.size / 8 : Nat) : Int) * 8) = ((8 * (x.size / 8) : Nat) : Int) := by rw [i64w] <;> omega
  refine spec_body (tab := tab libj) Try.func12 (by kernel_rfl) (by kernel_rfl) (by kernel_rfl) fun ρ w => ?_
  refine s12_5 x c (by omega) q4.symm q8.symm ?_
  refine G.loop (fun i => s12st0 x (i : Int)) (x.size / 4) (fun i hi hg => ?_) ?_
  · have e1 : IntKind.wrap IntKind.i64 (4 * (i : Int)) = ((4 * i : Nat) : Int) := by rw [i64w] <;> omega
    have e2 : IntKind.wrap IntKind.i64 (((4 * i : Nat) : Int) + 4) = ((4 * i + 4 : Nat) : Int) := by rw [i64w] <;> omega
    have hc := cut_chunk x 4 i
    have hcl := chunk_length 4 (bytesOf x) i (by omega)
    have hr := beV_range 4 _ hcl (chunk_range hbr i)
    refine s12_7 x (i : Int) (by omega) (by omega) (by rw [wordsH_length]; omega) (by rw [e1]; omega) (by rw [e1, e2]; omega) (by rw [e1, e2]; omega) (by rw [e1, e2]; omega) ?_ ?_ ?_
    · rw [e1, e2, size_bytes, hc, hcl]; omega
    · rw [e1, e2, hc, Int.toNat_natCast, wordsH_get _ _ _ _ hi]
      exact w64_id hr.1 (by have := hr.2; omega)
    · rw [i64s i (by omega)]; exact hg
  · refine s12_8 x _ (by omega) ?_
    refine G.loop (fun i => s12st1 x (i : Int)) (x.size / 8) (fun i hi hg => ?_) ?_
    · have e1 : IntKind.wrap IntKind.i64 (8 * (i : Int)) = ((8 * i : Nat) : Int) := by rw [i64w] <;> omega
      have e2 : IntKind.wrap IntKind.i64 (((8 * i : Nat) : Int) + 8) = ((8 * i + 8 : Nat) : Int) := by rw [i64w] <;> omega
      have hc := cut_chunk x 8 i
      have hcl := chunk_length 8 (bytesOf x) i (by omega)
      have hrv : bytesOf (strOf (chunk 8 (bytesOf x) i).reverse) = (chunk 8 (bytesOf x) i).reverse := bytesOf_strOf (fun b hb => chunk_range hbr i b (List.mem_reverse.1 hb))
      refine s12_11 x (i : Int) (by omega) (by omega) (by rw [wordsH_length]; omega) (by rw [e1]; omega) (by rw [e1, e2]; omega) (by rw [e1, e2]; omega) (by rw [e1, e2]; omega) ?_ ?_ (by rw [wordsL_length]; omega) ?_ ?_ ?_ ?_
      · rw [e1, e2, size_bytes, hc, hcl]; omega
      · rw [e1, e2, hc, Int.toNat_natCast, wordsH_get _ _ _ _ hi]
      · rw [e1, e2, size_bytes, hc, hcl]; omega
      · rw [e1, e2, hc, strOf_size, List.length_reverse, hcl]; omega
      · rw [e1, e2, hc, hrv, rev_leV, Int.toNat_natCast, wordsL_get _ _ _ _ hi]
      · rw [i64s i (by omega)]; exact hg
    · refine s12_12 x _ (by omega) (wordsH_length ..).symm (by rw [wordsH_length]; omega) ?_ ?_ ?_ (wordsH_length ..).symm (by rw [wordsH_length]; omega) ?_ ?_ ?_ (wordsL_length ..).symm (by rw [wordsL_length]; omega) ?_
      · rw [q4, p4]; omega
      · rw [q4, p4]; omega
      · rw [q4, p4, cut_head, backH 4 _ hbr _ (by omega)]
      · rw [q8, p8]; omega
      · rw [q8, p8]; omega
      · rw [q8, p8, cut_head, backH 8 _ hbr _ (by omega)]
      · rw [q8, p8, cut_head, backL 8 _ hbr _ (by omega)]

def ks12 : List Kind := [.str]
theorem open12 : ∀ l, AllIs ks12 l → Sx.Spec Try.prog 12 (allW l 0) (allB l) ⟨V.bool true, [], []⟩ := by
  intro l h
  match l, h with
  | [.str x], _ => exact s12 x

set_option maxRecDepth 100000 in
theorem lifted12 (os : Os) (started : os.Started) (H : Type) (enc : TypeId × Value → H) :
    ReturnsInHanded {} Try.checked os 12 .any (Rows.octetGetsSpec.pre6 enc Try.prog Try.f12 Rows.octetGetsRow.domain false) (Rows.octetGetsSpec.post enc Try.prog Try.f12 false true false false) := by
  refine returnsInHanded_of_change (C := Try.checked) (by kernel_rfl) started (by kernel_rfl) Try.func12
    (ChangeSpec.witness6 (enc := enc) (C := Try.checked) false ⟨#[], #[.string ⟨#[]⟩], []⟩ 8 (by kernel_rfl) (by kernel_rfl) (by kernel_rfl) (by kernel_rfl)) ?_
  intro W base args ds gs before hval0 hW hcnd _
  exact law_step (ks := ks12) (tb := 4) laid (by kernel_rfl) (by kernel_rfl) rfl (by kernel_rfl) Try.underlying4 (fun ds hds => by
    match ds, hds with
    | [_], _ => rfl) open12 hval0 hW
theorem closed12 : joinedFacts Try.prog 12 Try.f12 Rows.octetGetsSpec Rows.octetGetsRow = true :=
  joined rfl rfl rfl rfl (by kernel_rfl) (by kernel_rfl) (by kernel_rfl) (by kernel_rfl) (by kernel_rfl) (by kernel_rfl) (by kernel_rfl) (by kernel_rfl) (by kernel_rfl) (by kernel_rfl) rfl (by kernel_rfl) (by kernel_rfl)
theorem named12 : Try.prog.funcNamed Rows.octetGetsRow.func = some 12 := by kernel_rfl
theorem over12 : Rows.octetGetsRow.holds Try.pinned (OpenSpec.ofChange Rows.octetGetsSpec) :=
  OpenClaim.holds_of_wide 12 Try.f12 rfl rfl rfl rfl rfl rfl rfl ⟨rfl, rfl, rfl, rfl, rfl⟩ rfl rfl rfl rfl rfl named12 Try.func12 closed12
    (of_decide_eq_true (by kernel_rfl)) (by unfold Func.isWrapper; first | (rw [if_pos (by decide +kernel)]; kernel_rfl) | (rw [if_neg (by decide +kernel)]; exact ⟨rfl, rfl⟩))
    (fun os started H enc _ => lifted12 os started H enc)
theorem octetGets_proved : Rows.OctetGetsSaid :=
  over12
#print axioms octetGets_proved
end Go.Proofs.Ytmjejlbmcefaoaa
