/- The head of the laws of borders. -/
import Derived.Test.YtbkomdinchiffaaGreatBorZ
import Derived.Test.YtbkomdinchiffaaGreatBorO
import Derived.Test.YtbkomdinchiffaaGreatFew
namespace Go.Proofs.YtbkomdinchiffaaGreat
open Go.RowKit Go.Sort

def bA : ByteArray := ⟨#[97]⟩
def bB : ByteArray := ⟨#[98]⟩
def bC : ByteArray := ⟨#[99]⟩
def bD : ByteArray := ⟨#[100]⟩
def bV : ByteArray := ⟨#[118]⟩
def bW : ByteArray := ⟨#[119]⟩
def hd1 : List ObjD := squareD [wayD bV [bA, bB], wayD bW [bC, bD]]
def hd2 : List ObjD := squareD [wayD bV [bA, bB], wayD bW [bB, bC]]
def hd3 : List ObjD := squareD [wayD bV [bA, bB, bA], wayD bW [bB, bA]]
def hd4 : List ObjD := squareD [wayD bV [bA, bB]]
theorem ok1 : mapOK hd1 = true := by kernel_rfl
theorem ok2 : mapOK hd2 = true := by kernel_rfl
theorem ok3 : mapOK hd3 = true := by kernel_rfl
theorem ok4 : mapOK hd4 = true := by kernel_rfl
theorem ck1 : checkP hd1 = [(bV, bW)] := by kernel_rfl
theorem ck2 : checkP hd2 = [] := by kernel_rfl
theorem ck3 : checkP hd3 = [] := by kernel_rfl
theorem ks3 : keysP hd3 = [(bA, bB)] := by kernel_rfl
theorem ow3 : ownF hd3 hd3 (bA, bB) = [bV, bW] := by kernel_rfl
theorem fr4 : freeP hd4 ((4, 4), (9, 0)) = true := by kernel_rfl
theorem fr5 : freeP hd4 ((2, 2), (9, 0)) = false := by kernel_rfl

set_option maxRecDepth 100000 in
set_option maxHeartbeats 4000000 in
theorem head_any (w : World) :
    Calls Tryz.prog 10 #[] w fun e w' => e = .returned (.bool true) ∧ Below w.heap.size w w' := by
  go_enter Tryz.func10, Tryz.ntmps10
  have B0 := Lib.hid (Below.refl w.heap.size w)
  go_wp2_with fail
  -- a way's texts and the way: world w (Below B0), cells .string bA, .string bB, list [bA, bB] of 2 texts; then world w1 (Below B1), its texts S1
  have HS := row_new w (.cells #[.string bA, .string bB] 9)
  have BS := (Below.refl (w).heap.size (w)).alloc (Nat.le_refl _) (.cells #[.string bA, .string bB] 9)
  have SR := StrRow.of_block (cap := 2) (l := [bA, bB]) rfl HS (by decide) (by decide) 2 rfl
  refine (way_any _ _ [bA, bB] _ SR).mono ?_
  rintro e w1 ⟨rfl, hb⟩
  have S1 := Lib.hid (SR.later hb)
  have B1 := Lib.hid (below_step (B0).out (Nat.le_refl _) (below_step BS (Nat.le_refl _) hb))
  have BW := below_step BS (Nat.le_refl _) hb
  clear HS BS SR hb
  go_wp2_with fail
  -- a way's texts and the way: world w1 (Below B1), cells .string bC, .string bD, list [bC, bD] of 2 texts; then world w2 (Below B2), its texts S2
  have HS := row_new w1 (.cells #[.string bC, .string bD] 9)
  have BS := (Below.refl (w1).heap.size (w1)).alloc (Nat.le_refl _) (.cells #[.string bC, .string bD] 9)
  have SR := StrRow.of_block (cap := 2) (l := [bC, bD]) rfl HS (by decide) (by decide) 2 rfl
  refine (way_any _ _ [bC, bD] _ SR).mono ?_
  rintro e w2 ⟨rfl, hb⟩
  have S2 := Lib.hid (SR.later hb)
  have B2 := Lib.hid (below_step (B1).out (Nat.le_refl _) (below_step BS (Nat.le_refl _) hb))
  have BW := below_step BS (Nat.le_refl _) hb
  clear HS BS SR hb
  go_wp2_with fail
  replace S1 := Lib.hid (S1.out.later BW)
  -- two ways .slice (some ⟨w.heap.size, 0, none⟩) 2 2, .slice (some ⟨w1.heap.size, 0, none⟩) 2 2 (texts S1 of list [bA, bB], S2 of list [bC, bD]) in world w2 (Below B2), then square: world w3, Below B3, objects HV
  have HO := row_new w2 (.cells ((([(wayD bV [bA, bB], .slice (some ⟨w.heap.size, 0, none⟩) 2 2, .slice none 0 0), (wayD bW [bC, bD], .slice (some ⟨w1.heap.size, 0, none⟩) 2 2, .slice none 0 0)] : List ObM)).flatMap encOb).toArray 59)
  have BS := (Below.refl (w2).heap.size (w2)).alloc (Nat.le_refl _) (.cells ((([(wayD bV [bA, bB], .slice (some ⟨w.heap.size, 0, none⟩) 2 2, .slice none 0 0), (wayD bW [bC, bD], .slice (some ⟨w1.heap.size, 0, none⟩) 2 2, .slice none 0 0)] : List ObM)).flatMap encOb).toArray 59)
  have HR := RowE.of_block (cap := 2) (l := ([(wayD bV [bA, bB], .slice (some ⟨w.heap.size, 0, none⟩) 2 2, .slice none 0 0), (wayD bW [bC, bD], .slice (some ⟨w1.heap.size, 0, none⟩) 2 2, .slice none 0 0)] : List ObM)) encOb_len rfl HO 2 rfl
  have HV0 := objs_of HR (fun x hx => by
    simp only [List.mem_cons, List.not_mem_nil, or_false] at hx
    rcases hx with rfl | rfl
    · exact ⟨S1.out.later BS, TagRow.nil _, (by show bV.size ≤ _; decide)⟩
    · exact ⟨S2.out.later BS, TagRow.nil _, (by show bW.size ≤ _; decide)⟩) (by simp)
  refine (square_any _ [wayD bV [bA, bB], wayD bW [bC, bD]] _ HV0 (by decide)).mono ?_
  rintro e w3 ⟨vm, rfl, hv, hb⟩
  have HV := Lib.hid hv
  have B3 := Lib.hid (below_step (B2).out (Nat.le_refl _) (below_step BS (Nat.le_refl _) hb))
  have BQ := below_step BS (Nat.le_refl _) hb
  clear HO BS HR HV0 hb hv
  go_wp2_with fail
  refine (check_any vm hd1 _ HV.out ok1 (by decide) (Nat.le_trans (keys_len ok1) (by decide))).mono ?_
  rintro e w4 ⟨v1, rfl, hv1, hb⟩
  rw [ck1] at hv1
  have B4 := Lib.hid (below_step B3.out (Nat.le_refl _) hb)
  have V1 := Lib.hid hv1
  clear hv1 hb HV S1 S2 BW BQ B0 B1 B2 B3
  go_wp2_with fail
  -- a way's texts and the way: world w4 (Below B4), cells .string bA, .string bB, list [bA, bB] of 2 texts; then world w5 (Below B5), its texts S1
  have HS := row_new w4 (.cells #[.string bA, .string bB] 9)
  have BS := (Below.refl (w4).heap.size (w4)).alloc (Nat.le_refl _) (.cells #[.string bA, .string bB] 9)
  have SR := StrRow.of_block (cap := 2) (l := [bA, bB]) rfl HS (by decide) (by decide) 2 rfl
  refine (way_any _ _ [bA, bB] _ SR).mono ?_
  rintro e w5 ⟨rfl, hb⟩
  have S1 := Lib.hid (SR.later hb)
  have B5 := Lib.hid (below_step (B4).out (Nat.le_refl _) (below_step BS (Nat.le_refl _) hb))
  have BW := below_step BS (Nat.le_refl _) hb
  clear HS BS SR hb
  go_wp2_with fail
  replace V1 := Lib.hid (V1.out.later BW)
  clear BW
  -- a way's texts and the way: world w5 (Below B5), cells .string bB, .string bC, list [bB, bC] of 2 texts; then world w6 (Below B6), its texts S2
  have HS := row_new w5 (.cells #[.string bB, .string bC] 9)
  have BS := (Below.refl (w5).heap.size (w5)).alloc (Nat.le_refl _) (.cells #[.string bB, .string bC] 9)
  have SR := StrRow.of_block (cap := 2) (l := [bB, bC]) rfl HS (by decide) (by decide) 2 rfl
  refine (way_any _ _ [bB, bC] _ SR).mono ?_
  rintro e w6 ⟨rfl, hb⟩
  have S2 := Lib.hid (SR.later hb)
  have B6 := Lib.hid (below_step (B5).out (Nat.le_refl _) (below_step BS (Nat.le_refl _) hb))
  have BW := below_step BS (Nat.le_refl _) hb
  clear HS BS SR hb
  go_wp2_with fail
  replace S1 := Lib.hid (S1.out.later BW)
  replace V1 := Lib.hid (V1.out.later BW)
  clear BW
  -- two ways .slice (some ⟨w4.heap.size, 0, none⟩) 2 2, .slice (some ⟨w5.heap.size, 0, none⟩) 2 2 (texts S1 of list [bA, bB], S2 of list [bB, bC]) in world w6 (Below B6), then square: world w7, Below B7, objects HV
  have HO := row_new w6 (.cells ((([(wayD bV [bA, bB], .slice (some ⟨w4.heap.size, 0, none⟩) 2 2, .slice none 0 0), (wayD bW [bB, bC], .slice (some ⟨w5.heap.size, 0, none⟩) 2 2, .slice none 0 0)] : List ObM)).flatMap encOb).toArray 59)
  have BS := (Below.refl (w6).heap.size (w6)).alloc (Nat.le_refl _) (.cells ((([(wayD bV [bA, bB], .slice (some ⟨w4.heap.size, 0, none⟩) 2 2, .slice none 0 0), (wayD bW [bB, bC], .slice (some ⟨w5.heap.size, 0, none⟩) 2 2, .slice none 0 0)] : List ObM)).flatMap encOb).toArray 59)
  have HR := RowE.of_block (cap := 2) (l := ([(wayD bV [bA, bB], .slice (some ⟨w4.heap.size, 0, none⟩) 2 2, .slice none 0 0), (wayD bW [bB, bC], .slice (some ⟨w5.heap.size, 0, none⟩) 2 2, .slice none 0 0)] : List ObM)) encOb_len rfl HO 2 rfl
  have HV0 := objs_of HR (fun x hx => by
    simp only [List.mem_cons, List.not_mem_nil, or_false] at hx
    rcases hx with rfl | rfl
    · exact ⟨S1.out.later BS, TagRow.nil _, (by show bV.size ≤ _; decide)⟩
    · exact ⟨S2.out.later BS, TagRow.nil _, (by show bW.size ≤ _; decide)⟩) (by simp)
  refine (square_any _ [wayD bV [bA, bB], wayD bW [bB, bC]] _ HV0 (by decide)).mono ?_
  rintro e w7 ⟨vm2, rfl, hv, hb⟩
  have HV := Lib.hid hv
  have B7 := Lib.hid (below_step (B6).out (Nat.le_refl _) (below_step BS (Nat.le_refl _) hb))
  have BQ := below_step BS (Nat.le_refl _) hb
  clear HO BS HR HV0 hb hv
  go_wp2_with fail
  replace V1 := Lib.hid (V1.out.later BQ)
  clear BQ
  refine (check_any vm2 hd2 _ HV.out ok2 (by decide) (Nat.le_trans (keys_len ok2) (by decide))).mono ?_
  rintro e w8 ⟨v2, rfl, hv2, hb⟩
  rw [ck2] at hv2
  have B8 := Lib.hid (below_step B7.out (Nat.le_refl _) hb)
  replace V1 := Lib.hid (V1.out.later hb)
  have V2 := Lib.hid hv2
  clear hv2 hb HV S1 S2 B4 B5 B6 B7
  go_wp2_with fail
  -- a way's texts and the way: world w8 (Below B8), cells .string bA, .string bB, .string bA, list [bA, bB, bA] of 3 texts; then world w9 (Below B9), its texts S1
  have HS := row_new w8 (.cells #[.string bA, .string bB, .string bA] 9)
  have BS := (Below.refl (w8).heap.size (w8)).alloc (Nat.le_refl _) (.cells #[.string bA, .string bB, .string bA] 9)
  have SR := StrRow.of_block (cap := 3) (l := [bA, bB, bA]) rfl HS (by decide) (by decide) 3 rfl
  refine (way_any _ _ [bA, bB, bA] _ SR).mono ?_
  rintro e w9 ⟨rfl, hb⟩
  have S1 := Lib.hid (SR.later hb)
  have B9 := Lib.hid (below_step (B8).out (Nat.le_refl _) (below_step BS (Nat.le_refl _) hb))
  have BW := below_step BS (Nat.le_refl _) hb
  clear HS BS SR hb
  go_wp2_with fail
  replace V1 := Lib.hid (V1.out.later BW)
  replace V2 := Lib.hid (V2.out.later BW)
  clear BW
  -- a way's texts and the way: world w9 (Below B9), cells .string bB, .string bA, list [bB, bA] of 2 texts; then world w10 (Below B10), its texts S2
  have HS := row_new w9 (.cells #[.string bB, .string bA] 9)
  have BS := (Below.refl (w9).heap.size (w9)).alloc (Nat.le_refl _) (.cells #[.string bB, .string bA] 9)
  have SR := StrRow.of_block (cap := 2) (l := [bB, bA]) rfl HS (by decide) (by decide) 2 rfl
  refine (way_any _ _ [bB, bA] _ SR).mono ?_
  rintro e w10 ⟨rfl, hb⟩
  have S2 := Lib.hid (SR.later hb)
  have B10 := Lib.hid (below_step (B9).out (Nat.le_refl _) (below_step BS (Nat.le_refl _) hb))
  have BW := below_step BS (Nat.le_refl _) hb
  clear HS BS SR hb
  go_wp2_with fail
  replace S1 := Lib.hid (S1.out.later BW)
  replace V1 := Lib.hid (V1.out.later BW)
  replace V2 := Lib.hid (V2.out.later BW)
  clear BW
  -- two ways .slice (some ⟨w8.heap.size, 0, none⟩) 3 3, .slice (some ⟨w9.heap.size, 0, none⟩) 2 2 (texts S1 of list [bA, bB, bA], S2 of list [bB, bA]) in world w10 (Below B10), then square: world w11, Below B11, objects HV
  have HO := row_new w10 (.cells ((([(wayD bV [bA, bB, bA], .slice (some ⟨w8.heap.size, 0, none⟩) 3 3, .slice none 0 0), (wayD bW [bB, bA], .slice (some ⟨w9.heap.size, 0, none⟩) 2 2, .slice none 0 0)] : List ObM)).flatMap encOb).toArray 59)
  have BS := (Below.refl (w10).heap.size (w10)).alloc (Nat.le_refl _) (.cells ((([(wayD bV [bA, bB, bA], .slice (some ⟨w8.heap.size, 0, none⟩) 3 3, .slice none 0 0), (wayD bW [bB, bA], .slice (some ⟨w9.heap.size, 0, none⟩) 2 2, .slice none 0 0)] : List ObM)).flatMap encOb).toArray 59)
  have HR := RowE.of_block (cap := 2) (l := ([(wayD bV [bA, bB, bA], .slice (some ⟨w8.heap.size, 0, none⟩) 3 3, .slice none 0 0), (wayD bW [bB, bA], .slice (some ⟨w9.heap.size, 0, none⟩) 2 2, .slice none 0 0)] : List ObM)) encOb_len rfl HO 2 rfl
  have HV0 := objs_of HR (fun x hx => by
    simp only [List.mem_cons, List.not_mem_nil, or_false] at hx
    rcases hx with rfl | rfl
    · exact ⟨S1.out.later BS, TagRow.nil _, (by show bV.size ≤ _; decide)⟩
    · exact ⟨S2.out.later BS, TagRow.nil _, (by show bW.size ≤ _; decide)⟩) (by simp)
  refine (square_any _ [wayD bV [bA, bB, bA], wayD bW [bB, bA]] _ HV0 (by decide)).mono ?_
  rintro e w11 ⟨vm3, rfl, hv, hb⟩
  have HV := Lib.hid hv
  have B11 := Lib.hid (below_step (B10).out (Nat.le_refl _) (below_step BS (Nat.le_refl _) hb))
  have BQ := below_step BS (Nat.le_refl _) hb
  clear HO BS HR HV0 hb hv
  go_wp2_with fail
  have BW := BQ
  replace V1 := Lib.hid (V1.out.later BW)
  replace V2 := Lib.hid (V2.out.later BW)
  clear BQ BW
  refine (check_any vm3 hd3 _ HV.out ok3 (by decide) (Nat.le_trans (keys_len ok3) (by decide))).mono ?_
  rintro e w12 ⟨v3, rfl, hv3, BW⟩
  rw [ck3] at hv3
  have B12 := Lib.hid (below_step B11.out (Nat.le_refl _) BW)
  replace V1 := Lib.hid (V1.out.later BW)
  replace V2 := Lib.hid (V2.out.later BW)
  have V3 := Lib.hid hv3
  clear hv3 BW HV S1 S2 B8 B9 B10 B11
  go_wp2_with fail
  -- a way's texts and the way: world w12 (Below B12), cells .string bA, .string bB, .string bA, list [bA, bB, bA] of 3 texts; then world w13 (Below B13), its texts S1
  have HS := row_new w12 (.cells #[.string bA, .string bB, .string bA] 9)
  have BS := (Below.refl (w12).heap.size (w12)).alloc (Nat.le_refl _) (.cells #[.string bA, .string bB, .string bA] 9)
  have SR := StrRow.of_block (cap := 3) (l := [bA, bB, bA]) rfl HS (by decide) (by decide) 3 rfl
  refine (way_any _ _ [bA, bB, bA] _ SR).mono ?_
  rintro e w13 ⟨rfl, hb⟩
  have S1 := Lib.hid (SR.later hb)
  have B13 := Lib.hid (below_step (B12).out (Nat.le_refl _) (below_step BS (Nat.le_refl _) hb))
  have BW := below_step BS (Nat.le_refl _) hb
  clear HS BS SR hb
  go_wp2_with fail
  replace V1 := Lib.hid (V1.out.later BW)
  replace V2 := Lib.hid (V2.out.later BW)
  replace V3 := Lib.hid (V3.out.later BW)
  clear BW
  -- a way's texts and the way: world w13 (Below B13), cells .string bB, .string bA, list [bB, bA] of 2 texts; then world w14 (Below B14), its texts S2
  have HS := row_new w13 (.cells #[.string bB, .string bA] 9)
  have BS := (Below.refl (w13).heap.size (w13)).alloc (Nat.le_refl _) (.cells #[.string bB, .string bA] 9)
  have SR := StrRow.of_block (cap := 2) (l := [bB, bA]) rfl HS (by decide) (by decide) 2 rfl
  refine (way_any _ _ [bB, bA] _ SR).mono ?_
  rintro e w14 ⟨rfl, hb⟩
  have S2 := Lib.hid (SR.later hb)
  have B14 := Lib.hid (below_step (B13).out (Nat.le_refl _) (below_step BS (Nat.le_refl _) hb))
  have BW := below_step BS (Nat.le_refl _) hb
  clear HS BS SR hb
  go_wp2_with fail
  replace S1 := Lib.hid (S1.out.later BW)
  replace V1 := Lib.hid (V1.out.later BW)
  replace V2 := Lib.hid (V2.out.later BW)
  replace V3 := Lib.hid (V3.out.later BW)
  clear BW
  -- two ways .slice (some ⟨w12.heap.size, 0, none⟩) 3 3, .slice (some ⟨w13.heap.size, 0, none⟩) 2 2 (texts S1 of list [bA, bB, bA], S2 of list [bB, bA]) in world w14 (Below B14), then square: world w15, Below B15, objects HV
  have HO := row_new w14 (.cells ((([(wayD bV [bA, bB, bA], .slice (some ⟨w12.heap.size, 0, none⟩) 3 3, .slice none 0 0), (wayD bW [bB, bA], .slice (some ⟨w13.heap.size, 0, none⟩) 2 2, .slice none 0 0)] : List ObM)).flatMap encOb).toArray 59)
  have BS := (Below.refl (w14).heap.size (w14)).alloc (Nat.le_refl _) (.cells ((([(wayD bV [bA, bB, bA], .slice (some ⟨w12.heap.size, 0, none⟩) 3 3, .slice none 0 0), (wayD bW [bB, bA], .slice (some ⟨w13.heap.size, 0, none⟩) 2 2, .slice none 0 0)] : List ObM)).flatMap encOb).toArray 59)
  have HR := RowE.of_block (cap := 2) (l := ([(wayD bV [bA, bB, bA], .slice (some ⟨w12.heap.size, 0, none⟩) 3 3, .slice none 0 0), (wayD bW [bB, bA], .slice (some ⟨w13.heap.size, 0, none⟩) 2 2, .slice none 0 0)] : List ObM)) encOb_len rfl HO 2 rfl
  have HV0 := objs_of HR (fun x hx => by
    simp only [List.mem_cons, List.not_mem_nil, or_false] at hx
    rcases hx with rfl | rfl
    · exact ⟨S1.out.later BS, TagRow.nil _, (by show bV.size ≤ _; decide)⟩
    · exact ⟨S2.out.later BS, TagRow.nil _, (by show bW.size ≤ _; decide)⟩) (by simp)
  refine (square_any _ [wayD bV [bA, bB, bA], wayD bW [bB, bA]] _ HV0 (by decide)).mono ?_
  rintro e w15 ⟨vm4, rfl, hv, hb⟩
  have HV := Lib.hid hv
  have B15 := Lib.hid (below_step (B14).out (Nat.le_refl _) (below_step BS (Nat.le_refl _) hb))
  have BQ := below_step BS (Nat.le_refl _) hb
  clear HO BS HR HV0 hb hv
  go_wp2_with fail
  have BW := BQ
  replace V1 := Lib.hid (V1.out.later BW)
  replace V2 := Lib.hid (V2.out.later BW)
  replace V3 := Lib.hid (V3.out.later BW)
  clear BQ BW
  refine (segments_any vm4 hd3 _ HV.out ok3).mono ?_
  rintro e w16 ⟨v4, v5, rfl, hv4, hv5, BW⟩
  have hown : (keysP hd3).map (ownF hd3 hd3) = [[bV, bW]] := by rw [ks3, List.map_cons, ow3]; rfl
  rw [hown] at hv5
  rw [show (keysP hd3).map (segB hd3) = [segB hd3 (bA, bB)] by rw [ks3]; rfl] at hv4
  have B16 := Lib.hid (below_step B15.out (Nat.le_refl _) BW)
  replace V1 := Lib.hid (V1.out.later BW)
  replace V2 := Lib.hid (V2.out.later BW)
  replace V3 := Lib.hid (V3.out.later BW)
  have V4 := Lib.hid hv4
  have V5 := Lib.hid hv5
  clear hv4 hv5 hown BW HV S1 S2 B12 B13 B14 B15
  obtain ⟨a1, c1, hs1, hg1⟩ := vios_get V1.out
  obtain ⟨a2, c2, hs2, -⟩ := vios_get V2.out
  obtain ⟨a3, c3, hs3, -⟩ := vios_get V3.out
  obtain ⟨a4, c4, hs4, -⟩ := V4.out
  obtain ⟨a5, c5, hs5, hg5⟩ := texts_get V5.out
  subst hs1 hs2 hs3 hs4 hs5
  simp only [List.length_cons, List.length_nil] at hg1 hg5
  clear hg1 hg5
  go_wp2_with fail
  -- a way's texts and the way: world w16 (Below B16), cells .string bA, .string bB, list [bA, bB] of 2 texts; then world w17 (Below B17), its texts S1
  have HS := row_new w16 (.cells #[.string bA, .string bB] 9)
  have BS := (Below.refl (w16).heap.size (w16)).alloc (Nat.le_refl _) (.cells #[.string bA, .string bB] 9)
  have SR := StrRow.of_block (cap := 2) (l := [bA, bB]) rfl HS (by decide) (by decide) 2 rfl
  refine (way_any _ _ [bA, bB] _ SR).mono ?_
  rintro e w17 ⟨rfl, hb⟩
  have S1 := Lib.hid (SR.later hb)
  have B17 := Lib.hid (below_step (B16).out (Nat.le_refl _) (below_step BS (Nat.le_refl _) hb))
  have BW := below_step BS (Nat.le_refl _) hb
  clear HS BS SR hb
  go_wp2_with fail
  replace V1 := Lib.hid (V1.out.later BW)
  replace V2 := Lib.hid (V2.out.later BW)
  replace V3 := Lib.hid (V3.out.later BW)
  replace V4 := Lib.hid (V4.out.later BW)
  replace V5 := Lib.hid (V5.out.on BW)
  clear BW
  -- one way .slice (some ⟨w16.heap.size, 0, none⟩) 2 2 (texts S1 of list [bA, bB]) in world w17 (Below B17), then square: world w18, Below B18, objects HV of value vm5
  have HO := row_new w17 (.cells ((([(wayD bV [bA, bB], .slice (some ⟨w16.heap.size, 0, none⟩) 2 2, .slice none 0 0)] : List ObM)).flatMap encOb).toArray 59)
  have BS := (Below.refl (w17).heap.size (w17)).alloc (Nat.le_refl _) (.cells ((([(wayD bV [bA, bB], .slice (some ⟨w16.heap.size, 0, none⟩) 2 2, .slice none 0 0)] : List ObM)).flatMap encOb).toArray 59)
  have HR := RowE.of_block (cap := 1) (l := ([(wayD bV [bA, bB], .slice (some ⟨w16.heap.size, 0, none⟩) 2 2, .slice none 0 0)] : List ObM)) encOb_len rfl HO 1 rfl
  have HV0 := objs_of HR (fun x hx => by
    simp only [List.mem_cons, List.not_mem_nil, or_false] at hx
    rcases hx with rfl
    exact ⟨S1.out.later BS, TagRow.nil _, (by show bV.size ≤ _; decide)⟩) (by simp)
  refine (square_any _ [wayD bV [bA, bB]] _ HV0 (by decide)).mono ?_
  rintro e w18 ⟨vm5, rfl, hv, hb⟩
  have HV := Lib.hid hv
  have B18 := Lib.hid (below_step (B17).out (Nat.le_refl _) (below_step BS (Nat.le_refl _) hb))
  have BQ := below_step BS (Nat.le_refl _) hb
  clear HO BS HR HV0 hb hv
  go_wp2_with fail
  have BW := BQ
  replace V1 := Lib.hid (V1.out.later BW)
  replace V2 := Lib.hid (V2.out.later BW)
  replace V3 := Lib.hid (V3.out.later BW)
  replace V4 := Lib.hid (V4.out.later BW)
  replace V5 := Lib.hid (V5.out.on BW)
  clear BQ BW
  refine (free_any vm5 hd4 ((4, 4), (9, 0)) _ HV.out ok4).mono ?_
  rintro e w19 ⟨rfl, BW⟩
  rw [fr4]
  have B19 := Lib.hid (below_step B18.out (Nat.le_refl _) BW)
  replace V1 := Lib.hid (V1.out.later BW)
  replace V2 := Lib.hid (V2.out.later BW)
  replace V3 := Lib.hid (V3.out.later BW)
  replace V4 := Lib.hid (V4.out.later BW)
  replace V5 := Lib.hid (V5.out.on BW)
  obtain ⟨_, _, es1, hg1⟩ := vios_get V1.out
  injection es1 with e1 e2 e3
  subst e1
  obtain ⟨b1, o1, ea, hc1⟩ := hg1 (by simp)
  subst ea
  obtain ⟨vi, p0', p1', p2', sr⟩ := hc1 0 _ rfl
  have p1 : w19.cell? ⟨b1, o1 + 1, none⟩ = some (.int .i64 2) := by simpa using p1'
  have p2 : w19.cell? ⟨b1, o1 + 2, none⟩ = some vi := by simpa using p2'
  have pz := lt_of_cell p1
  obtain ⟨_, _, es5, hg5⟩ := texts_get V5.out
  injection es5 with f1 f2 f3
  subst f1
  obtain ⟨b5, o5, ea, hc5⟩ := hg5 (by simp)
  subst ea
  obtain ⟨vo, q0', so⟩ := hc5 0 _ rfl
  have q0 : w19.cell? ⟨b5, o5, none⟩ = some vo := by simpa using q0'
  have qz := lt_of_cell q0
  have SV := Lib.hid sr
  have SO := Lib.hid so
  clear BW HV S1 B16 B17 B18 hg1 hc1 hg5 hc5 p0' p1' p2' sr q0' so V1 V2 V3 V4 V5 e2 e3 f2 f3
  go_wp2_with fail
  have HS := row_new w19 (.cells #[.string bV, .string bW] 9)
  have BS := (Below.refl w19.heap.size w19).alloc (Nat.le_refl _) (.cells #[.string bV, .string bW] 9)
  have SR := StrRow.of_block (cap := 2) (l := [bV, bW]) rfl HS (by decide) (by decide) 2 rfl
  refine (rids_any _ _ [bV, bW] [bV, bW] _ (SV.out.later BS) SR).mono ?_
  rintro e w20 ⟨rfl, hb⟩
  rw [decide_eq_true rfl]
  have BW := below_step BS (Nat.le_refl _) hb
  have B20 := Lib.hid (below_step B19.out (Nat.le_refl _) BW)
  have p1 := cell_later BW p1
  have q0 := cell_later BW q0
  have pz := lt_of_cell p1
  have qz := lt_of_cell q0
  replace SO := Lib.hid (SO.out.later BW)
  clear SR HS BS hb BW B19
  go_wp2_with fail
  have HS := row_new w20 (.cells #[.string bV, .string bW] 9)
  have BS := (Below.refl w20.heap.size w20).alloc (Nat.le_refl _) (.cells #[.string bV, .string bW] 9)
  have SR := StrRow.of_block (cap := 2) (l := [bV, bW]) rfl HS (by decide) (by decide) 2 rfl
  refine (rids_any _ _ [bV, bW] [bV, bW] _ (SO.out.later BS) SR).mono ?_
  rintro e w21 ⟨rfl, hb⟩
  rw [decide_eq_true rfl]
  have BW := below_step BS (Nat.le_refl _) hb
  have B21 := Lib.hid (below_step B20.out (Nat.le_refl _) BW)
  clear SR HS BS hb BW B20 p1 q0 pz qz
  go_wp2_with fail
  -- a way's texts and the way: world w21 (Below B21), cells .string bA, .string bB, list [bA, bB] of 2 texts; then world w22 (Below B22), its texts S1
  have HS := row_new w21 (.cells #[.string bA, .string bB] 9)
  have BS := (Below.refl (w21).heap.size (w21)).alloc (Nat.le_refl _) (.cells #[.string bA, .string bB] 9)
  have SR := StrRow.of_block (cap := 2) (l := [bA, bB]) rfl HS (by decide) (by decide) 2 rfl
  refine (way_any _ _ [bA, bB] _ SR).mono ?_
  rintro e w22 ⟨rfl, hb⟩
  have S1 := Lib.hid (SR.later hb)
  have B22 := Lib.hid (below_step (B21).out (Nat.le_refl _) (below_step BS (Nat.le_refl _) hb))
  have BW := below_step BS (Nat.le_refl _) hb
  clear HS BS SR hb
  go_wp2_with fail
  -- one way .slice (some ⟨w21.heap.size, 0, none⟩) 2 2 (texts S1 of list [bA, bB]) in world w22 (Below B22), then square: world w23, Below B23, objects HV of value vm6
  have HO := row_new w22 (.cells ((([(wayD bV [bA, bB], .slice (some ⟨w21.heap.size, 0, none⟩) 2 2, .slice none 0 0)] : List ObM)).flatMap encOb).toArray 59)
  have BS := (Below.refl (w22).heap.size (w22)).alloc (Nat.le_refl _) (.cells ((([(wayD bV [bA, bB], .slice (some ⟨w21.heap.size, 0, none⟩) 2 2, .slice none 0 0)] : List ObM)).flatMap encOb).toArray 59)
  have HR := RowE.of_block (cap := 1) (l := ([(wayD bV [bA, bB], .slice (some ⟨w21.heap.size, 0, none⟩) 2 2, .slice none 0 0)] : List ObM)) encOb_len rfl HO 1 rfl
  have HV0 := objs_of HR (fun x hx => by
    simp only [List.mem_cons, List.not_mem_nil, or_false] at hx
    rcases hx with rfl
    exact ⟨S1.out.later BS, TagRow.nil _, (by show bV.size ≤ _; decide)⟩) (by simp)
  refine (square_any _ [wayD bV [bA, bB]] _ HV0 (by decide)).mono ?_
  rintro e w23 ⟨vm6, rfl, hv, hb⟩
  have HV := Lib.hid hv
  have B23 := Lib.hid (below_step (B22).out (Nat.le_refl _) (below_step BS (Nat.le_refl _) hb))
  have BQ := below_step BS (Nat.le_refl _) hb
  clear HO BS HR HV0 hb hv
  go_wp2_with fail
  refine (free_any vm6 hd4 ((2, 2), (9, 0)) _ HV.out ok4).mono ?_
  rintro e w24 ⟨rfl, BX⟩
  rw [fr5]
  have B24 := Lib.hid (below_step B23.out (Nat.le_refl _) BX)
  clear BW BQ BX HV S1 B21 B22 B23
  go_wp2
  go_ret
  exact ⟨rfl, B24.out⟩
end Go.Proofs.YtbkomdinchiffaaGreat
