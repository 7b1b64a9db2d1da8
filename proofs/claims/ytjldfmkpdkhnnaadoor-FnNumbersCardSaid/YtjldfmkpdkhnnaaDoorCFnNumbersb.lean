-- Written by this session's own program (a turn of the kit's print, with contracts of the session's own where the print has none).
import Derived.Test.YtjldfmkpdkhnnaaDoorCFnNumbersa
namespace Go.Proofs.YtjldfmkpdkhnnaaDoor.QL
open Go.RowKit Go.Proofs.YtjldfmkpdkhnnaaDoorW.PrintWords Go.Proofs.YtjldfmkpdkhnnaaDoorW.PrintLast Go.Proofs.YtjldfmkpdkhnnaaDoorW.PrintMore Go.Proofs.YtjldfmkpdkhnnaaDoor.Aux Go.Proofs.YtjldfmkpdkhnnaaDoor.Dom Go.Proofs.YtjldfmkpdkhnnaaDoor.Ext Go.Proofs.YtjldfmkpdkhnnaaDoor.Glob
attribute [local go_sem] max2_int min2_int max_two min_two max_three min_three max_four min_four   -- for this text's walks alone
set_option linter.unusedVariables false
set_option linter.unusedSimpArgs false

/-! ### spec_l1Spoil: function 66 -/
def spec_l1Spoil.f (k : Nat) (s0_0 : List Int) (s0_1 : Int) (s0_2 : Int) (a1 : ByteArray) : Option (ByteArray × Int × Int) := if (a1.size : Int) = 0 then ((spec_l1Text.f k s0_0 s0_1 s0_2 3).bind fun bt101 => (some (bt101.1, bt101.2.1, bt101.2.2))) else ((spec_l1Below.f s0_0 s0_1 s0_2 (a1.size : Int)).bind fun bt104 => ((spec_l1Below.f s0_0 bt104.2.1 bt104.2.2 4).bind fun bt107 => (if bt107.1 = 0 then (if 0 ≤ bt104.1 then (if bt104.1 ≤ (a1.size : Int) then (if 0 ≤ (wrap64 (bt104.1 + 1)) then (if (wrap64 (bt104.1 + 1)) ≤ (a1.size : Int) then (if (a1.extract 0 (bt104.1 : Int).toNat).size + (a1.extract ((wrap64 (bt104.1 + 1)) : Int).toNat a1.size).size ≤ 9223372036854775807 then (some ((a1.extract 0 (bt104.1 : Int).toNat) ++ (a1.extract ((wrap64 (bt104.1 + 1)) : Int).toNat a1.size), bt107.2.1, bt107.2.2)) else (none)) else (none)) else (none)) else (none)) else (none)) else (if bt107.1 = 1 then (if 0 ≤ bt104.1 then (if bt104.1 ≤ (a1.size : Int) then ((spec_l1Byte.f s0_0 bt107.2.1 bt107.2.2).bind fun bt110 => ((some (([(bt110.1) % 256] : List Int) : List Int)).bind fun y113 => (if (a1.extract 0 (bt104.1 : Int).toNat).size + (strOfNums y113).size ≤ 9223372036854775807 then (if ((a1.extract 0 (bt104.1 : Int).toNat) ++ (strOfNums y113)).size + (a1.extract (bt104.1 : Int).toNat a1.size).size ≤ 9223372036854775807 then (some (((a1.extract 0 (bt104.1 : Int).toNat) ++ (strOfNums y113)) ++ (a1.extract (bt104.1 : Int).toNat a1.size), bt110.2.1, bt110.2.2)) else (none)) else (none)))) else (none)) else (none)) else (if bt107.1 = 2 then (if 0 ≤ bt104.1 then (if bt104.1 ≤ (a1.size : Int) then (some (a1.extract 0 (bt104.1 : Int).toNat, bt107.2.1, bt107.2.2)) else (none)) else (none)) else (if 0 ≤ bt104.1 then (if bt104.1 ≤ (a1.size : Int) then (if bt104.1 < (a1.size : Int) then ((spec_l1Below.f s0_0 bt107.2.1 bt107.2.2 255).bind fun bt116 => ((some (([(Go.bits .xor .i64 (wrap64 (bt a1 bt104.1)) (wrap64 (1 + bt116.1))) % 256] : List Int) : List Int)).bind fun y119 => (if (a1.extract 0 (bt104.1 : Int).toNat).size + (strOfNums y119).size ≤ 9223372036854775807 then (if 0 ≤ (wrap64 (bt104.1 + 1)) then (if (wrap64 (bt104.1 + 1)) ≤ (a1.size : Int) then (if ((a1.extract 0 (bt104.1 : Int).toNat) ++ (strOfNums y119)).size + (a1.extract ((wrap64 (bt104.1 + 1)) : Int).toNat a1.size).size ≤ 9223372036854775807 then (some (((a1.extract 0 (bt104.1 : Int).toNat) ++ (strOfNums y119)) ++ (a1.extract ((wrap64 (bt104.1 + 1)) : Int).toNat a1.size), bt116.2.1, bt116.2.2)) else (none)) else (none)) else (none)) else (none)))) else (none)) else (none)) else (none)))))))
theorem spec_l1Spoil.mono : ∀ a0 a1 a2 a3 k, LeO (spec_l1Spoil.f k a0 a1 a2 a3) (spec_l1Spoil.f (k + 1) a0 a1 a2 a3) := by
 intro a0 a1 a2 a3 k
 unfold spec_l1Spoil.f
 repeat' first
   | (with_reducible exact spec_l1Text.mono _ _ _ _ _)
   | (with_reducible exact LeO.refl _)
   | (with_reducible exact LeO.none _)
   | (with_reducible refine LeO.ite ?_ ?_)
   | (with_reducible refine LeO.bind ?_ (fun _ => ?_))
   | exact spec_l1Text.mono _ _ _ _ _
   | exact LeO.none _
   | refine LeO.ite ?_ ?_
   | refine LeO.bind ?_ (fun _ => ?_)
def spec_l1Spoil.T6 : Bool × List (List Nat × List Nat) := (true, [([], []), ([], []), ([0, 1], [0, 1]), ([], []), ([], []), ([4], [4]), ([3, 5], [3, 5]), ([2, 6], [2, 6]), ([7, 0, 1, 2, 3, 4, 5, 6, 7], [7])])
def spec_l1Spoil.B6 : List Nat := [0, 0, 3, 0, 0, 16, 56, 127, 255]
theorem spec_l1Spoil.tab6 : rtab .any (opsOf Tryd.f66 6) = spec_l1Spoil.T6 := by kernel_rfl
theorem spec_l1Spoil.bits6 : waitsOk spec_l1Spoil.T6.2 spec_l1Spoil.B6 = true := by kernel_rfl
def spec_l1Spoil.T8 : Bool × List (List Nat × List Nat) := (true, [([], []), ([], []), ([0, 1], [0, 1]), ([], []), ([3], [3]), ([4], [4]), ([5], [5]), ([6], [6]), ([2, 7], [2, 7]), ([], []), ([], []), ([9, 10], [9, 10]), ([8, 11], [8, 11]), ([12, 4, 0, 1, 2, 3, 4, 5, 6, 7, 8, 9, 10, 11, 12], [12])])
def spec_l1Spoil.B8 : List Nat := [0, 0, 3, 0, 8, 24, 56, 120, 255, 0, 0, 1536, 4095, 8191]
theorem spec_l1Spoil.tab8 : rtab .any (opsOf Tryd.f66 8) = spec_l1Spoil.T8 := by kernel_rfl
theorem spec_l1Spoil.bits8 : waitsOk spec_l1Spoil.T8.2 spec_l1Spoil.B8 = true := by kernel_rfl
def spec_l1Spoil.T11 : Bool × List (List Nat × List Nat) := (true, [([], []), ([], []), ([0, 1], [0, 1]), ([], []), ([], []), ([3, 4], [3, 4]), ([5], [5]), ([], []), ([7], [7]), ([8], [8]), ([6, 9], [6, 9]), ([10], [10]), ([11], [11]), ([12], [12]), ([2, 13], [2, 13]), ([], []), ([], []), ([16], [16]), ([15, 17], [15, 17]), ([14, 18], [14, 18]), ([19, 8, 0, 1, 2, 3, 4, 5, 6, 7, 8, 9, 10, 11, 12, 13, 14, 15, 16, 17, 18, 19], [19])])
def spec_l1Spoil.B11 : List Nat := [0, 0, 3, 0, 0, 24, 56, 0, 128, 384, 1016, 2040, 4088, 8184, 16383, 0, 0, 65536, 229376, 524287, 1048575]
theorem spec_l1Spoil.tab11 : rtab .any (opsOf Tryd.f66 11) = spec_l1Spoil.T11 := by kernel_rfl
theorem spec_l1Spoil.bits11 : waitsOk spec_l1Spoil.T11.2 spec_l1Spoil.B11 = true := by kernel_rfl
set_option maxHeartbeats 8000000 in
set_option maxRecDepth 100000 in
theorem spec_l1Spoil.calls (k : Nat) (g : Nat) (s0_0 : List Int) (s0_1 : Int) (s0_2 : Int) (a1 : ByteArray) (r1 : ByteArray) (r2 : Int) (r3 : Int) (w0 w : World) (hI : IsS110 w0 w g s0_0 s0_1 s0_2) (hB : Below w0.heap.size w0 w) (h : spec_l1Spoil.f k s0_0 s0_1 s0_2 a1 = some (r1, r2, r3)) :
  Calls Tryd.prog 66 #[.pointer (some ⟨g, 0, none⟩), .string a1] w fun e w' => e = .returned (.string r1) ∧ IsS110 w0 w' g s0_0 r2 r3 ∧ Below w0.heap.size w0 w' ∧ KeepBut w w' g none := by
 have HI0 := Aside0.mk hI
 have HK := Aside0.mk (KeepBut.refl w g none)
 have HL := Aside0.mk hB.size
 clear hI
 have HW0 := Aside0.mk hB.size
 have HB := Aside0.mk hB
 clear hB
 have H : (if (a1.size : Int) = 0 then ((spec_l1Text.f k s0_0 s0_1 s0_2 3).bind fun bt101 => (some (bt101.1, bt101.2.1, bt101.2.2))) else ((spec_l1Below.f s0_0 s0_1 s0_2 (a1.size : Int)).bind fun bt104 => ((spec_l1Below.f s0_0 bt104.2.1 bt104.2.2 4).bind fun bt107 => (if bt107.1 = 0 then (if 0 ≤ bt104.1 then (if bt104.1 ≤ (a1.size : Int) then (if 0 ≤ (wrap64 (bt104.1 + 1)) then (if (wrap64 (bt104.1 + 1)) ≤ (a1.size : Int) then (if (a1.extract 0 (bt104.1 : Int).toNat).size + (a1.extract ((wrap64 (bt104.1 + 1)) : Int).toNat a1.size).size ≤ 9223372036854775807 then (some ((a1.extract 0 (bt104.1 : Int).toNat) ++ (a1.extract ((wrap64 (bt104.1 + 1)) : Int).toNat a1.size), bt107.2.1, bt107.2.2)) else (none)) else (none)) else (none)) else (none)) else (none)) else (if bt107.1 = 1 then (if 0 ≤ bt104.1 then (if bt104.1 ≤ (a1.size : Int) then ((spec_l1Byte.f s0_0 bt107.2.1 bt107.2.2).bind fun bt110 => ((some (([(bt110.1) % 256] : List Int) : List Int)).bind fun y113 => (if (a1.extract 0 (bt104.1 : Int).toNat).size + (strOfNums y113).size ≤ 9223372036854775807 then (if ((a1.extract 0 (bt104.1 : Int).toNat) ++ (strOfNums y113)).size + (a1.extract (bt104.1 : Int).toNat a1.size).size ≤ 9223372036854775807 then (some (((a1.extract 0 (bt104.1 : Int).toNat) ++ (strOfNums y113)) ++ (a1.extract (bt104.1 : Int).toNat a1.size), bt110.2.1, bt110.2.2)) else (none)) else (none)))) else (none)) else (none)) else (if bt107.1 = 2 then (if 0 ≤ bt104.1 then (if bt104.1 ≤ (a1.size : Int) then (some (a1.extract 0 (bt104.1 : Int).toNat, bt107.2.1, bt107.2.2)) else (none)) else (none)) else (if 0 ≤ bt104.1 then (if bt104.1 ≤ (a1.size : Int) then (if bt104.1 < (a1.size : Int) then ((spec_l1Below.f s0_0 bt107.2.1 bt107.2.2 255).bind fun bt116 => ((some (([(Go.bits .xor .i64 (wrap64 (bt a1 bt104.1)) (wrap64 (1 + bt116.1))) % 256] : List Int) : List Int)).bind fun y119 => (if (a1.extract 0 (bt104.1 : Int).toNat).size + (strOfNums y119).size ≤ 9223372036854775807 then (if 0 ≤ (wrap64 (bt104.1 + 1)) then (if (wrap64 (bt104.1 + 1)) ≤ (a1.size : Int) then (if ((a1.extract 0 (bt104.1 : Int).toNat) ++ (strOfNums y119)).size + (a1.extract ((wrap64 (bt104.1 + 1)) : Int).toNat a1.size).size ≤ 9223372036854775807 then (some (((a1.extract 0 (bt104.1 : Int).toNat) ++ (strOfNums y119)) ++ (a1.extract ((wrap64 (bt104.1 + 1)) : Int).toNat a1.size), bt116.2.1, bt116.2.2)) else (none)) else (none)) else (none)) else (none)))) else (none)) else (none)) else (none)))))))) = some (r1, r2, r3) := h
 clear h
 by_cases c3 : (a1.size : Int) = 0
 ·rw [if_pos c3] at H
  have c3b0 : ((a1.size : Int) == 0) = true := beq_iff_eq.mpr c3
  have c3b1 : ((a1.size : Int) != 0) = false := bne_eq_false_iff_eq.mpr c3
  clear c3
  replace H := Option.bind_eq_some_iff.mp H
  obtain ⟨⟨t101, t102, t103⟩, A40, H⟩ := H
  try dsimp only at H
  have A4 := Aside0.mk A40
  clear A40
  simp only [Option.some.injEq, Prod.mk.injEq] at H
  obtain ⟨rfl, rfl, rfl⟩ := H
  go_enter Tryd.func66, Tryd.ntmps66
  go_wp2_with (first | ((with_reducible refine gate_callee (f := 59) rfl ?_); refine goesL_ (some 10) rfl rfl Tryd.func59 (by kernel_rfl) rfl #[.pointer (some ⟨g, 0, none⟩), .int .i64 3] rfl am ?_; (with_reducible refine (spec_l1Text.calls k g s0_0 s0_1 s0_2 3 t101 t102 t103 w0 _ ?side1 ?side2 A4.out).mono ?_); (case side1 => repeat (first | (with_reducible first | exact HI0.out | apply IsS110.alloc | apply IsS110.drewN | apply IsS110.drew | apply IsS110.set_1 | apply IsS110.set_2) | exact HI0.out)); (case side2 => repeat (first | (with_reducible first | exact HB.out | apply below_alloc | apply pw_below_drewN | apply below_drew1 | refine below_set ?_ (IsS110.ge HI0.out)) | exact HB.out)); rintro e w5 ⟨rfl, hi, hb, hk⟩; refine ⟨_, rfl, ?_⟩; have n0_ := Aside0.mk (KeepBut.trans (by repeat (first | (with_reducible first | exact HK.out | apply KeepBut.set_ | apply keep_drewN | apply keep_drew | apply keep_alloc) | exact HK.out)) hk (.inl rfl)); have n1_ := Aside0.mk (hb); have n2_ := Aside0.mk (hi); clear HK; clear HB; clear HI0; have HK := n0_; have HB := n1_; have HI0 := n2_; clear n0_ n1_ n2_; (try clear hb); (try clear hb2); (try clear hk); (try clear hi)))
  go_ret
  exact ⟨by first | rfl | (simp [errW_none, errW_some] <;> rfl) | (simp [*, errW_none, errW_some] <;> rfl), by repeat (first | (with_reducible first | exact HI0.out | apply IsS110.alloc | apply IsS110.drewN | apply IsS110.drew | apply IsS110.set_1 | apply IsS110.set_2) | exact HI0.out), by repeat (first | (with_reducible first | exact HB.out | apply below_alloc | apply pw_below_drewN | apply below_drew1 | refine below_set ?_ (IsS110.ge HI0.out)) | exact HB.out), by repeat (first | (with_reducible first | exact HK.out | apply KeepBut.set_ | apply keep_drewN | apply keep_drew | apply keep_alloc) | exact HK.out)⟩
 ·rw [if_neg c3] at H
  have c3b0 : ((a1.size : Int) == 0) = false := beq_eq_false_iff_ne.mpr c3
  have c3b1 : ((a1.size : Int) != 0) = true := bne_iff_ne.mpr c3
  replace H := Option.bind_eq_some_iff.mp H
  obtain ⟨⟨t104, t105, t106⟩, A60, H⟩ := H
  try dsimp only at H
  have A6 := Aside0.mk A60
  clear A60
  replace H := Option.bind_eq_some_iff.mp H
  obtain ⟨⟨t107, t108, t109⟩, A70, H⟩ := H
  try dsimp only at H
  have A7 := Aside0.mk A70
  clear A70
  by_cases c8 : t107 = 0
  ·rw [if_pos c8] at H
   have c8b0 : (t107 == 0) = true := beq_iff_eq.mpr c8
   have c8b1 : (t107 != 0) = false := bne_eq_false_iff_eq.mpr c8
   clear c8
   by_cases c9 : 0 ≤ t104
   ·rw [if_pos c9] at H
    have c9b0 := eq_true c9
    have c9b1 : decide (0 ≤ t104) = true := decide_eq_true c9
    clear c9
    by_cases c10 : t104 ≤ (a1.size : Int)
    ·rw [if_pos c10] at H
     have c10b0 := eq_true c10
     have c10b1 : decide (t104 ≤ (a1.size : Int)) = true := decide_eq_true c10
     clear c10
     obtain ⟨ji11, hji11⟩ : ∃ j_ : Int, (wrap64 (t104 + 1)) = j_ := ⟨_, rfl⟩
     replace H : (if 0 ≤ (ji11) then (if (ji11) ≤ (a1.size : Int) then (if (a1.extract 0 (t104 : Int).toNat).size + (a1.extract ((ji11) : Int).toNat a1.size).size ≤ 9223372036854775807 then (some ((a1.extract 0 (t104 : Int).toNat) ++ (a1.extract ((ji11) : Int).toNat a1.size), t108, t109)) else (none)) else (none)) else (none)) = some (r1, r2, r3) := by first | (rw [hji11] at H; exact H) | (simp only [hji11] at H ⊢; exact H)
     (try rw [hji11] at A6)
     (try rw [hji11] at A7)
     have hji11w : (IntKind.i64.wrap (t104 + 1)) = ji11 := (i64_w _).trans hji11
     by_cases c12 : 0 ≤ (ji11)
     ·rw [if_pos c12] at H
      have c12b0 := eq_true c12
      have c12b1 : decide (0 ≤ (ji11)) = true := decide_eq_true c12
      clear c12
      by_cases c13 : (ji11) ≤ (a1.size : Int)
      ·rw [if_pos c13] at H
       have c13b0 := eq_true c13
       have c13b1 : decide ((ji11) ≤ (a1.size : Int)) = true := decide_eq_true c13
       clear c13
       by_cases c14 : (a1.extract 0 (t104 : Int).toNat).size + (a1.extract ((ji11) : Int).toNat a1.size).size ≤ 9223372036854775807
       ·rw [if_pos c14] at H
        have c14b0 := eq_true c14
        have c14b1 : decide ((a1.extract 0 (t104 : Int).toNat).size + (a1.extract ((ji11) : Int).toNat a1.size).size ≤ 9223372036854775807) = true := decide_eq_true c14
        try have c14b2 : (9223372036854775807 < (a1.extract 0 (t104 : Int).toNat).size + (a1.extract ((ji11) : Int).toNat a1.size).size) = False := eq_false (Nat.not_lt.2 c14)
        try have c14b5 : (9223372036854775807 < t104.toNat + (a1.size - ji11.toNat)) = False := eq_false (Nat.not_lt.2 (by have q_ : t104 ≤ (a1.size : Int) := of_decide_eq_true asm; have g_ := c14; simp only [ByteArray.size_append, ByteArray.size_extract, strOfNums_size] at g_ ⊢; omega))
        simp only [Option.some.injEq, Prod.mk.injEq] at H
        obtain ⟨rfl, rfl, rfl⟩ := H
        go_enter Tryd.func66, Tryd.ntmps66
        try go_wp2_with (first | ((with_reducible refine gate_callee (f := 89) rfl ?_); refine goesL_ (some 14) rfl rfl Tryd.func89 (by kernel_rfl) rfl #[.pointer (some ⟨g, 0, none⟩), .int .i64 (a1.size : Int)] rfl am ?_; (with_reducible refine (spec_l1Below.calls g s0_0 s0_1 s0_2 (a1.size : Int) t104 t105 t106 w0 _ ?side1 ?side2 A6.out).mono ?_); (case side1 => repeat (first | (with_reducible first | exact HI0.out | apply IsS110.alloc | apply IsS110.drewN | apply IsS110.drew | apply IsS110.set_1 | apply IsS110.set_2) | exact HI0.out)); (case side2 => repeat (first | (with_reducible first | exact HB.out | apply below_alloc | apply pw_below_drewN | apply below_drew1 | refine below_set ?_ (IsS110.ge HI0.out)) | exact HB.out)); rintro e w15 ⟨rfl, hi, hb, hk⟩; refine ⟨_, rfl, ?_⟩; have n0_ := Aside0.mk (KeepBut.trans (by repeat (first | (with_reducible first | exact HK.out | apply KeepBut.set_ | apply keep_drewN | apply keep_drew | apply keep_alloc) | exact HK.out)) hk (.inl rfl)); have n1_ := Aside0.mk (hb); have n2_ := Aside0.mk (hi); clear HK; clear HB; clear HI0; have HK := n0_; have HB := n1_; have HI0 := n2_; clear n0_ n1_ n2_; (try clear hb); (try clear hb2); (try clear hk); (try clear hi)) | ((with_reducible refine gate_callee (f := 89) rfl ?_); refine goesL_ (some 16) rfl rfl Tryd.func89 (by kernel_rfl) rfl #[.pointer (some ⟨g, 0, none⟩), .int .i64 4] rfl am ?_; (with_reducible refine (spec_l1Below.calls g s0_0 t105 t106 4 t107 t108 t109 w0 _ ?side1 ?side2 A7.out).mono ?_); (case side1 => repeat (first | (with_reducible first | exact HI0.out | apply IsS110.alloc | apply IsS110.drewN | apply IsS110.drew | apply IsS110.set_1 | apply IsS110.set_2) | exact HI0.out)); (case side2 => repeat (first | (with_reducible first | exact HB.out | apply below_alloc | apply pw_below_drewN | apply below_drew1 | refine below_set ?_ (IsS110.ge HI0.out)) | exact HB.out)); rintro e w16 ⟨rfl, hi, hb, hk⟩; refine ⟨_, rfl, ?_⟩; have n0_ := Aside0.mk (KeepBut.trans (by repeat (first | (with_reducible first | exact HK.out | apply KeepBut.set_ | apply keep_drewN | apply keep_drew | apply keep_alloc) | exact HK.out)) hk (.inl rfl)); have n1_ := Aside0.mk (hb); have n2_ := Aside0.mk (hi); clear HK; clear HB; clear HI0; have HK := n0_; have HB := n1_; have HI0 := n2_; clear n0_ n1_ n2_; (try clear hb); (try clear hb2); (try clear hk); (try clear hi)))
        have n0_ := Aside0.mk (IsS110.drew HI0.out)
        have n1_ := Aside0.mk (keep_drew HK.out)
        have n2_ := Aside0.mk (below_drew1 HB.out)
        clear HI0
        clear HK
        clear HB
        have HI0 := n0_
        have HK := n1_
        have HB := n2_
        clear n0_ n1_ n2_
        refine start_ (n := 9) (S := fun w' => True) (ds := []) (Array.replicate 9 false) (by kernel_rfl) rfl rfl trivial (fun hHeld => ?_); refine with_tabW spec_l1Spoil.tab6 spec_l1Spoil.bits6 (fun HT_ HW_ => ?_)
        generalize w16.drew = w17 at HI0 HK HB hHeld ⊢
        refine pu 0 19 HT_ ?_
        refine pu 1 20 HT_ ?_
        refine pu 2 21 HT_ ?_
        refine pu 3 22 HT_ ?_
        refine pu 4 23 HT_ ?_
        refine pu 5 24 HT_ ?_
        refine pu 6 25 HT_ ?_
        refine pu 7 26 HT_ ?_
        refine pu 8 4 HT_ ?_
        refine done_ (done_of HT_.out (by kernel_rfl)) ?_
        try go_wp2
        go_ret
        exact ⟨by first | rfl | (simp [errW_none, errW_some] <;> rfl) | (simp only [← hji11]; first | rfl | (simp [errW_none, errW_some] <;> rfl)) | (simp [*, errW_none, errW_some] <;> rfl), by repeat (first | (with_reducible first | exact HI0.out | apply IsS110.alloc | apply IsS110.drewN | apply IsS110.drew | apply IsS110.set_1 | apply IsS110.set_2) | exact HI0.out), by repeat (first | (with_reducible first | exact HB.out | apply below_alloc | apply pw_below_drewN | apply below_drew1 | refine below_set ?_ (IsS110.ge HI0.out)) | exact HB.out), by repeat (first | (with_reducible first | exact HK.out | apply KeepBut.set_ | apply keep_drewN | apply keep_drew | apply keep_alloc) | exact HK.out)⟩
       ·rw [if_neg c14] at H
        exact absurd H (by simp)
      ·rw [if_neg c13] at H
       exact absurd H (by simp)
     ·rw [if_neg c12] at H
      exact absurd H (by simp)
    ·rw [if_neg c10] at H
     exact absurd H (by simp)
   ·rw [if_neg c9] at H
    exact absurd H (by simp)
  ·rw [if_neg c8] at H
   have c8b0 : (t107 == 0) = false := beq_eq_false_iff_ne.mpr c8
   have c8b1 : (t107 != 0) = true := bne_iff_ne.mpr c8
   by_cases c18 : t107 = 1
   ·rw [if_pos c18] at H
    have c18b0 : (t107 == 1) = true := beq_iff_eq.mpr c18
    have c18b1 : (t107 != 1) = false := bne_eq_false_iff_eq.mpr c18
    clear c18
    by_cases c19 : 0 ≤ t104
    ·rw [if_pos c19] at H
     have c19b0 := eq_true c19
     have c19b1 : decide (0 ≤ t104) = true := decide_eq_true c19
     clear c19
     by_cases c20 : t104 ≤ (a1.size : Int)
     ·rw [if_pos c20] at H
      have c20b0 := eq_true c20
      have c20b1 : decide (t104 ≤ (a1.size : Int)) = true := decide_eq_true c20
      clear c20
      replace H := Option.bind_eq_some_iff.mp H
      obtain ⟨⟨t110, t111, t112⟩, A210, H⟩ := H
      try dsimp only at H
      have A21 := Aside0.mk A210
      clear A210
      obtain ⟨y113, hy113⟩ : ∃ y_ : List Int, y_ = (([(t110) % 256] : List Int)) := ⟨_, rfl⟩
      replace H : (if (a1.extract 0 (t104 : Int).toNat).size + (strOfNums y113).size ≤ 9223372036854775807 then (if ((a1.extract 0 (t104 : Int).toNat) ++ (strOfNums y113)).size + (a1.extract (t104 : Int).toNat a1.size).size ≤ 9223372036854775807 then (some (((a1.extract 0 (t104 : Int).toNat) ++ (strOfNums y113)) ++ (a1.extract (t104 : Int).toNat a1.size), t111, t112)) else (none)) else (none)) = some (r1, r2, r3) := by first | (rw [hy113]; with_reducible exact H) | (have H2_ := (Option.bind_some _ _).symm.trans H; rw [hy113]; with_reducible exact H2_) | (have H2_ := (Option.bind_some _ _).symm.trans H; with_reducible exact H2_) | with_reducible exact H | (rw [hy113]; exact H) | exact H
      have Ny113 := Aside0.mk hy113
      clear hy113
      by_cases c22 : (a1.extract 0 (t104 : Int).toNat).size + (strOfNums y113).size ≤ 9223372036854775807
      ·rw [if_pos c22] at H
       have c22b0 := eq_true c22
       have c22b1 : decide ((a1.extract 0 (t104 : Int).toNat).size + (strOfNums y113).size ≤ 9223372036854775807) = true := decide_eq_true c22
       try have c22b2 : (9223372036854775807 < (a1.extract 0 (t104 : Int).toNat).size + (strOfNums y113).size) = False := eq_false (Nat.not_lt.2 c22)
       try have c22b5 : (9223372036854775807 < t104.toNat + (strOfNums y113).size) = False := eq_false (Nat.not_lt.2 (by have q_ : t104 ≤ (a1.size : Int) := of_decide_eq_true asm; have g_ := c22; simp only [ByteArray.size_append, ByteArray.size_extract, strOfNums_size] at g_ ⊢; omega))
       try have c22b6 : (9223372036854775807 < t104.toNat + y113.length) = False := eq_false (Nat.not_lt.2 (by have q_ : t104 ≤ (a1.size : Int) := of_decide_eq_true asm; have g_ := c22; simp only [ByteArray.size_append, ByteArray.size_extract, strOfNums_size] at g_ ⊢; omega))
       have c23b0 := eq_true (of_decide_eq_true asm : 0 ≤ t104)
       have c24b0 := eq_true (of_decide_eq_true asm : t104 ≤ (a1.size : Int))
       by_cases c25 : ((a1.extract 0 (t104 : Int).toNat) ++ (strOfNums y113)).size + (a1.extract (t104 : Int).toNat a1.size).size ≤ 9223372036854775807
       ·rw [if_pos c25] at H
        have c25b0 := eq_true c25
        have c25b1 : decide (((a1.extract 0 (t104 : Int).toNat) ++ (strOfNums y113)).size + (a1.extract (t104 : Int).toNat a1.size).size ≤ 9223372036854775807) = true := decide_eq_true c25
        try have c25b2 : (9223372036854775807 < ((a1.extract 0 (t104 : Int).toNat) ++ (strOfNums y113)).size + (a1.extract (t104 : Int).toNat a1.size).size) = False := eq_false (Nat.not_lt.2 c25)
        try have c25b5 : (9223372036854775807 < t104.toNat + (strOfNums y113).size + (a1.size - t104.toNat)) = False := eq_false (Nat.not_lt.2 (by have q_ : t104 ≤ (a1.size : Int) := of_decide_eq_true asm; have g_ := c25; simp only [ByteArray.size_append, ByteArray.size_extract, strOfNums_size] at g_ ⊢; omega))
        try have c25b6 : (9223372036854775807 < t104.toNat + y113.length + (a1.size - t104.toNat)) = False := eq_false (Nat.not_lt.2 (by have q_ : t104 ≤ (a1.size : Int) := of_decide_eq_true asm; have g_ := c25; simp only [ByteArray.size_append, ByteArray.size_extract, strOfNums_size] at g_ ⊢; omega))
        try have c25b3 : (9223372036854775807 < (a1.extract 0 (t104 : Int).toNat).size + (strOfNums y113).size + (a1.extract (t104 : Int).toNat a1.size).size) = False := eq_false (Nat.not_lt.2 (by have h_ := c25; simp only [ByteArray.size_append] at h_; exact h_))
        try have c25b3 : (9223372036854775807 < (a1.extract 0 (t104 : Int).toNat).size + (strOfNums y113).size + (a1.extract (t104 : Int).toNat a1.size).size) = False := eq_false (Nat.not_lt.2 (by have h_ := c25; simp only [ByteArray.size_append] at h_; exact h_))
        simp only [Option.some.injEq, Prod.mk.injEq] at H
        obtain ⟨rfl, rfl, rfl⟩ := H
        go_enter Tryd.func66, Tryd.ntmps66
        try go_wp2_with (first | ((with_reducible refine gate_callee (f := 89) rfl ?_); refine goesL_ (some 14) rfl rfl Tryd.func89 (by kernel_rfl) rfl #[.pointer (some ⟨g, 0, none⟩), .int .i64 (a1.size : Int)] rfl am ?_; (with_reducible refine (spec_l1Below.calls g s0_0 s0_1 s0_2 (a1.size : Int) t104 t105 t106 w0 _ ?side1 ?side2 A6.out).mono ?_); (case side1 => repeat (first | (with_reducible first | exact HI0.out | apply IsS110.alloc | apply IsS110.drewN | apply IsS110.drew | apply IsS110.set_1 | apply IsS110.set_2) | exact HI0.out)); (case side2 => repeat (first | (with_reducible first | exact HB.out | apply below_alloc | apply pw_below_drewN | apply below_drew1 | refine below_set ?_ (IsS110.ge HI0.out)) | exact HB.out)); rintro e w26 ⟨rfl, hi, hb, hk⟩; refine ⟨_, rfl, ?_⟩; have n0_ := Aside0.mk (KeepBut.trans (by repeat (first | (with_reducible first | exact HK.out | apply KeepBut.set_ | apply keep_drewN | apply keep_drew | apply keep_alloc) | exact HK.out)) hk (.inl rfl)); have n1_ := Aside0.mk (hb); have n2_ := Aside0.mk (hi); clear HK; clear HB; clear HI0; have HK := n0_; have HB := n1_; have HI0 := n2_; clear n0_ n1_ n2_; (try clear hb); (try clear hb2); (try clear hk); (try clear hi)) | ((with_reducible refine gate_callee (f := 89) rfl ?_); refine goesL_ (some 16) rfl rfl Tryd.func89 (by kernel_rfl) rfl #[.pointer (some ⟨g, 0, none⟩), .int .i64 4] rfl am ?_; (with_reducible refine (spec_l1Below.calls g s0_0 t105 t106 4 t107 t108 t109 w0 _ ?side1 ?side2 A7.out).mono ?_); (case side1 => repeat (first | (with_reducible first | exact HI0.out | apply IsS110.alloc | apply IsS110.drewN | apply IsS110.drew | apply IsS110.set_1 | apply IsS110.set_2) | exact HI0.out)); (case side2 => repeat (first | (with_reducible first | exact HB.out | apply below_alloc | apply pw_below_drewN | apply below_drew1 | refine below_set ?_ (IsS110.ge HI0.out)) | exact HB.out)); rintro e w27 ⟨rfl, hi, hb, hk⟩; refine ⟨_, rfl, ?_⟩; have n0_ := Aside0.mk (KeepBut.trans (by repeat (first | (with_reducible first | exact HK.out | apply KeepBut.set_ | apply keep_drewN | apply keep_drew | apply keep_alloc) | exact HK.out)) hk (.inl rfl)); have n1_ := Aside0.mk (hb); have n2_ := Aside0.mk (hi); clear HK; clear HB; clear HI0; have HK := n0_; have HB := n1_; have HI0 := n2_; clear n0_ n1_ n2_; (try clear hb); (try clear hb2); (try clear hk); (try clear hi)))
        have n0_ := Aside0.mk (IsS110.drew HI0.out)
        have n1_ := Aside0.mk (keep_drew HK.out)
        have n2_ := Aside0.mk (below_drew1 HB.out)
        clear HI0
        clear HK
        clear HB
        have HI0 := n0_
        have HK := n1_
        have HB := n2_
        clear n0_ n1_ n2_
        refine start_ (n := 14) (S := fun w' => True) (ds := []) (Array.replicate 14 false) (by kernel_rfl) rfl rfl trivial (fun hHeld => ?_); refine with_tabW spec_l1Spoil.tab8 spec_l1Spoil.bits8 (fun HT_ HW_ => ?_)
        generalize w27.drew = w28 at HI0 HK HB hHeld ⊢
        refine pu 0 29 HT_ ?_
        refine pu 1 30 HT_ ?_
        refine pu 2 31 HT_ ?_
        refine pu 3 32 HT_ ?_
        refine pu 9 38 HT_ ?_
        refine pu 10 39 HT_ ?_
        refine pu 11 40 HT_ ?_
        refine on1 4 33 HT_ (fun K hK => ?_)
        refine goes_ Tryd.func101 (by kernel_rfl) rfl #[.pointer (some ⟨g, 0, none⟩)] (by rfl) rfl rfl am ?_
        with_reducible refine (spec_l1Byte.calls g s0_0 t108 t109 t110 t111 t112 w0 _ ?side1 ?side2 A21.out).mono ?_
        (case side1 => repeat (first | (with_reducible first | exact HI0.out | apply IsS110.alloc | apply IsS110.drewN | apply IsS110.drew | apply IsS110.set_1 | apply IsS110.set_2) | exact HI0.out))
        (case side2 => repeat (first | (with_reducible first | exact HB.out | apply below_alloc | apply pw_below_drewN | apply below_drew1 | refine below_set ?_ (IsS110.ge HI0.out)) | exact HB.out))
        rintro e w29 ⟨rfl, hi, hb, hk⟩
        refine ⟨_, rfl, ?_⟩
        have n0_ := Aside0.mk (KeepBut.trans (by repeat (first | (with_reducible first | exact HK.out | apply KeepBut.set_ | apply keep_drewN | apply keep_drew | apply keep_alloc) | exact HK.out)) hk (.inl rfl))
        have n1_ := Aside0.mk (hb)
        have n2_ := Aside0.mk (hi)
        clear HK
        clear HB
        clear HI0
        have HK := n0_
        have HB := n1_
        have HI0 := n2_
        clear n0_ n1_ n2_
        (try clear hb)
        (try clear hb2)
        (try clear hk)
        (try clear hi)
        refine hK.out _ _ trivial (fun hHeld => ?_)
        clear hK K
        refine nrm 33 ?_
        refine pu 5 34 HT_ ?_
        refine on1 6 35 HT_ (fun K hK => ?_)
        refine Kd.R_lit_step (Kd.int .u8) _ 5 ?hg (N := 35) ?hd (xs := ([(t110) % 256] : List Int)) (inner := [.int .u8 ((t110) % 256)]) (ok := fun _ => True) (okp := fun _ => True) ?hr ?hp (fun _ hk => hk) trivial (Below.refl _ _) (Nat.le_refl _) (by simp) ?_; (case hd => rfl); (case hg => rfl); (case hr => first | (go_simp; done) | (go_simp; rfl)); (case hp => exact (Reps.one (show Kd.M (Kd.int .u8) _ _ _ ((t110) % 256) [.int .u8 ((t110) % 256)] from rfl) (Reps.none _ _)))
        intro v114 w30 ho31 hb hg_ hnew_
        clear hg_ hnew_
        (first | rw [← Ny113.out] at ho31 | (simp only [Int.reduceToNat] at ho31; rw [← Ny113.out] at ho31))
        have n0_ := Aside0.mk (Kd.R_lower ho31 (keep_size (w := w) (g := g) (row := none) (by repeat (first | (with_reducible first | exact HK.out | apply KeepBut.set_ | apply keep_drewN | apply keep_drew | apply keep_alloc) | exact HK.out))))
        have n1_ := Aside0.mk (IsS110.below (by repeat (first | (with_reducible first | exact HI0.out | apply IsS110.alloc | apply IsS110.drewN | apply IsS110.drew | apply IsS110.set_1 | apply IsS110.set_2) | exact HI0.out)) hb)
        have n2_ := Aside0.mk (KeepBut.trans (by repeat (first | (with_reducible first | exact HK.out | apply KeepBut.set_ | apply keep_drewN | apply keep_drew | apply keep_alloc) | exact HK.out)) (KeepBut.of_below hb g none) (.inl rfl))
        have n3_ := Aside0.mk (below_step (by repeat (first | (with_reducible first | exact HB.out | apply below_alloc | apply pw_below_drewN | apply below_drew1 | refine below_set ?_ (IsS110.ge HI0.out)) | exact HB.out)) hb)
        clear HI0
        clear HK
        clear HB
        have HO115 := n0_
        have HI0 := n1_
        have HK := n2_
        have HB := n3_
        clear n0_ n1_ n2_ n3_
        clear hb ho31
        refine hK.out _ _ trivial (fun hHeld => ?_)
        clear hK K
        refine nrm 35 ?_
        refine on1 7 36 HT_ (fun K hK => ?_)
        have hcv32 := own_string (P := Tryd.prog) Tryd.underlying30 Tryd.underlying5 Tryd.underlying9 (Kd.own_of_R HO115.out)
        refine value_ (w1 := ?_) (v := ?_) (by rfl) rfl ?_ ?_
        rotate_left 2
        ·go_simp
         constructor
         ·rfl
         ·rfl
        clear hcv32
        refine hK.out _ _ trivial (fun hHeld => ?_)
        clear hK K
        refine nrm 36 ?_
        refine pu 8 37 HT_ ?_
        refine pu 12 41 HT_ ?_
        refine pu 13 4 HT_ ?_
        refine done_ (done_of HT_.out (by kernel_rfl)) ?_
        try go_wp2
        go_ret
        exact ⟨by first | rfl | (simp [errW_none, errW_some] <;> rfl) | (simp [*, errW_none, errW_some] <;> rfl), by repeat (first | (with_reducible first | exact HI0.out | apply IsS110.alloc | apply IsS110.drewN | apply IsS110.drew | apply IsS110.set_1 | apply IsS110.set_2) | exact HI0.out), by repeat (first | (with_reducible first | exact HB.out | apply below_alloc | apply pw_below_drewN | apply below_drew1 | refine below_set ?_ (IsS110.ge HI0.out)) | exact HB.out), by repeat (first | (with_reducible first | exact HK.out | apply KeepBut.set_ | apply keep_drewN | apply keep_drew | apply keep_alloc) | exact HK.out)⟩
       ·rw [if_neg c25] at H
        exact absurd H (by simp)
      ·rw [if_neg c22] at H
       exact absurd H (by simp)
     ·rw [if_neg c20] at H
      exact absurd H (by simp)
    ·rw [if_neg c19] at H
     exact absurd H (by simp)
   ·rw [if_neg c18] at H
    have c18b0 : (t107 == 1) = false := beq_eq_false_iff_ne.mpr c18
    have c18b1 : (t107 != 1) = true := bne_iff_ne.mpr c18
    by_cases c33 : t107 = 2
    ·rw [if_pos c33] at H
     have c33b0 : (t107 == 2) = true := beq_iff_eq.mpr c33
     have c33b1 : (t107 != 2) = false := bne_eq_false_iff_eq.mpr c33
     clear c33
     by_cases c34 : 0 ≤ t104
     ·rw [if_pos c34] at H
      have c34b0 := eq_true c34
      have c34b1 : decide (0 ≤ t104) = true := decide_eq_true c34
      clear c34
      by_cases c35 : t104 ≤ (a1.size : Int)
      ·rw [if_pos c35] at H
       have c35b0 := eq_true c35
       have c35b1 : decide (t104 ≤ (a1.size : Int)) = true := decide_eq_true c35
       clear c35
       simp only [Option.some.injEq, Prod.mk.injEq] at H
       obtain ⟨rfl, rfl, rfl⟩ := H
       go_enter Tryd.func66, Tryd.ntmps66
       go_wp2_with (first | ((with_reducible refine gate_callee (f := 89) rfl ?_); refine goesL_ (some 14) rfl rfl Tryd.func89 (by kernel_rfl) rfl #[.pointer (some ⟨g, 0, none⟩), .int .i64 (a1.size : Int)] rfl am ?_; (with_reducible refine (spec_l1Below.calls g s0_0 s0_1 s0_2 (a1.size : Int) t104 t105 t106 w0 _ ?side1 ?side2 A6.out).mono ?_); (case side1 => repeat (first | (with_reducible first | exact HI0.out | apply IsS110.alloc | apply IsS110.drewN | apply IsS110.drew | apply IsS110.set_1 | apply IsS110.set_2) | exact HI0.out)); (case side2 => repeat (first | (with_reducible first | exact HB.out | apply below_alloc | apply pw_below_drewN | apply below_drew1 | refine below_set ?_ (IsS110.ge HI0.out)) | exact HB.out)); rintro e w36 ⟨rfl, hi, hb, hk⟩; refine ⟨_, rfl, ?_⟩; have n0_ := Aside0.mk (KeepBut.trans (by repeat (first | (with_reducible first | exact HK.out | apply KeepBut.set_ | apply keep_drewN | apply keep_drew | apply keep_alloc) | exact HK.out)) hk (.inl rfl)); have n1_ := Aside0.mk (hb); have n2_ := Aside0.mk (hi); clear HK; clear HB; clear HI0; have HK := n0_; have HB := n1_; have HI0 := n2_; clear n0_ n1_ n2_; (try clear hb); (try clear hb2); (try clear hk); (try clear hi)) | ((with_reducible refine gate_callee (f := 89) rfl ?_); refine goesL_ (some 16) rfl rfl Tryd.func89 (by kernel_rfl) rfl #[.pointer (some ⟨g, 0, none⟩), .int .i64 4] rfl am ?_; (with_reducible refine (spec_l1Below.calls g s0_0 t105 t106 4 t107 t108 t109 w0 _ ?side1 ?side2 A7.out).mono ?_); (case side1 => repeat (first | (with_reducible first | exact HI0.out | apply IsS110.alloc | apply IsS110.drewN | apply IsS110.drew | apply IsS110.set_1 | apply IsS110.set_2) | exact HI0.out)); (case side2 => repeat (first | (with_reducible first | exact HB.out | apply below_alloc | apply pw_below_drewN | apply below_drew1 | refine below_set ?_ (IsS110.ge HI0.out)) | exact HB.out)); rintro e w37 ⟨rfl, hi, hb, hk⟩; refine ⟨_, rfl, ?_⟩; have n0_ := Aside0.mk (KeepBut.trans (by repeat (first | (with_reducible first | exact HK.out | apply KeepBut.set_ | apply keep_drewN | apply keep_drew | apply keep_alloc) | exact HK.out)) hk (.inl rfl)); have n1_ := Aside0.mk (hb); have n2_ := Aside0.mk (hi); clear HK; clear HB; clear HI0; have HK := n0_; have HB := n1_; have HI0 := n2_; clear n0_ n1_ n2_; (try clear hb); (try clear hb2); (try clear hk); (try clear hi)))
       go_ret
       exact ⟨by first | rfl | (simp [errW_none, errW_some] <;> rfl) | (simp [*, errW_none, errW_some] <;> rfl), by repeat (first | (with_reducible first | exact HI0.out | apply IsS110.alloc | apply IsS110.drewN | apply IsS110.drew | apply IsS110.set_1 | apply IsS110.set_2) | exact HI0.out), by repeat (first | (with_reducible first | exact HB.out | apply below_alloc | apply pw_below_drewN | apply below_drew1 | refine below_set ?_ (IsS110.ge HI0.out)) | exact HB.out), by repeat (first | (with_reducible first | exact HK.out | apply KeepBut.set_ | apply keep_drewN | apply keep_drew | apply keep_alloc) | exact HK.out)⟩
      ·rw [if_neg c35] at H
       exact absurd H (by simp)
     ·rw [if_neg c34] at H
      exact absurd H (by simp)
    ·rw [if_neg c33] at H
     have c33b0 : (t107 == 2) = false := beq_eq_false_iff_ne.mpr c33
     have c33b1 : (t107 != 2) = true := bne_iff_ne.mpr c33
     by_cases c38 : 0 ≤ t104
     ·rw [if_pos c38] at H
      have c38b0 := eq_true c38
      have c38b1 : decide (0 ≤ t104) = true := decide_eq_true c38
      clear c38
      by_cases c39 : t104 ≤ (a1.size : Int)
      ·rw [if_pos c39] at H
       have c39b0 := eq_true c39
       have c39b1 : decide (t104 ≤ (a1.size : Int)) = true := decide_eq_true c39
       clear c39
       by_cases c40 : t104 < (a1.size : Int)
       ·rw [if_pos c40] at H
        have c40b0 : decide (t104 < (a1.size : Int)) = true := decide_eq_true c40
        clear c40
        replace H := Option.bind_eq_some_iff.mp H
        obtain ⟨⟨t116, t117, t118⟩, A420, H⟩ := H
        try dsimp only at H
        have A42 := Aside0.mk A420
        clear A420
        obtain ⟨y119, hy119⟩ : ∃ y_ : List Int, y_ = (([(Go.bits .xor .i64 (wrap64 (bt a1 t104)) (wrap64 (1 + t116))) % 256] : List Int)) := ⟨_, rfl⟩
        replace H : (if (a1.extract 0 (t104 : Int).toNat).size + (strOfNums y119).size ≤ 9223372036854775807 then (if 0 ≤ (wrap64 (t104 + 1)) then (if (wrap64 (t104 + 1)) ≤ (a1.size : Int) then (if ((a1.extract 0 (t104 : Int).toNat) ++ (strOfNums y119)).size + (a1.extract ((wrap64 (t104 + 1)) : Int).toNat a1.size).size ≤ 9223372036854775807 then (some (((a1.extract 0 (t104 : Int).toNat) ++ (strOfNums y119)) ++ (a1.extract ((wrap64 (t104 + 1)) : Int).toNat a1.size), t117, t118)) else (none)) else (none)) else (none)) else (none)) = some (r1, r2, r3) := by first | (rw [hy119]; with_reducible exact H) | (have H2_ := (Option.bind_some _ _).symm.trans H; rw [hy119]; with_reducible exact H2_) | (have H2_ := (Option.bind_some _ _).symm.trans H; with_reducible exact H2_) | with_reducible exact H | (rw [hy119]; exact H) | exact H
        have Ny119 := Aside0.mk hy119
        clear hy119
        by_cases c43 : (a1.extract 0 (t104 : Int).toNat).size + (strOfNums y119).size ≤ 9223372036854775807
        ·rw [if_pos c43] at H
         have c43b0 := eq_true c43
         have c43b1 : decide ((a1.extract 0 (t104 : Int).toNat).size + (strOfNums y119).size ≤ 9223372036854775807) = true := decide_eq_true c43
         try have c43b2 : (9223372036854775807 < (a1.extract 0 (t104 : Int).toNat).size + (strOfNums y119).size) = False := eq_false (Nat.not_lt.2 c43)
         try have c43b5 : (9223372036854775807 < t104.toNat + (strOfNums y119).size) = False := eq_false (Nat.not_lt.2 (by have q_ : t104 ≤ (a1.size : Int) := of_decide_eq_true asm; have g_ := c43; simp only [ByteArray.size_append, ByteArray.size_extract, strOfNums_size] at g_ ⊢; omega))
         try have c43b6 : (9223372036854775807 < t104.toNat + y119.length) = False := eq_false (Nat.not_lt.2 (by have q_ : t104 ≤ (a1.size : Int) := of_decide_eq_true asm; have g_ := c43; simp only [ByteArray.size_append, ByteArray.size_extract, strOfNums_size] at g_ ⊢; omega))
         obtain ⟨ji44, hji44⟩ : ∃ j_ : Int, (wrap64 (t104 + 1)) = j_ := ⟨_, rfl⟩
         replace H : (if 0 ≤ (ji44) then (if (ji44) ≤ (a1.size : Int) then (if ((a1.extract 0 (t104 : Int).toNat) ++ (strOfNums y119)).size + (a1.extract ((ji44) : Int).toNat a1.size).size ≤ 9223372036854775807 then (some (((a1.extract 0 (t104 : Int).toNat) ++ (strOfNums y119)) ++ (a1.extract ((ji44) : Int).toNat a1.size), t117, t118)) else (none)) else (none)) else (none)) = some (r1, r2, r3) := by first | (rw [hji44] at H; exact H) | (simp only [hji44] at H ⊢; exact H)
         (try rw [hji44] at A6)
         (try rw [hji44] at A7)
         (try rw [hji44] at A42)
         have hji44w : (IntKind.i64.wrap (t104 + 1)) = ji44 := (i64_w _).trans hji44
         by_cases c45 : 0 ≤ (ji44)
         ·rw [if_pos c45] at H
          have c45b0 := eq_true c45
          have c45b1 : decide (0 ≤ (ji44)) = true := decide_eq_true c45
          clear c45
          by_cases c46 : (ji44) ≤ (a1.size : Int)
          ·rw [if_pos c46] at H
           have c46b0 := eq_true c46
           have c46b1 : decide ((ji44) ≤ (a1.size : Int)) = true := decide_eq_true c46
           clear c46
           by_cases c47 : ((a1.extract 0 (t104 : Int).toNat) ++ (strOfNums y119)).size + (a1.extract ((ji44) : Int).toNat a1.size).size ≤ 9223372036854775807
           ·rw [if_pos c47] at H
            have c47b0 := eq_true c47
            have c47b1 : decide (((a1.extract 0 (t104 : Int).toNat) ++ (strOfNums y119)).size + (a1.extract ((ji44) : Int).toNat a1.size).size ≤ 9223372036854775807) = true := decide_eq_true c47
            try have c47b2 : (9223372036854775807 < ((a1.extract 0 (t104 : Int).toNat) ++ (strOfNums y119)).size + (a1.extract ((ji44) : Int).toNat a1.size).size) = False := eq_false (Nat.not_lt.2 c47)
            try have c47b5 : (9223372036854775807 < t104.toNat + (strOfNums y119).size + (a1.size - ji44.toNat)) = False := eq_false (Nat.not_lt.2 (by have q_ : t104 ≤ (a1.size : Int) := of_decide_eq_true asm; have g_ := c47; simp only [ByteArray.size_append, ByteArray.size_extract, strOfNums_size] at g_ ⊢; omega))
            try have c47b6 : (9223372036854775807 < t104.toNat + y119.length + (a1.size - ji44.toNat)) = False := eq_false (Nat.not_lt.2 (by have q_ : t104 ≤ (a1.size : Int) := of_decide_eq_true asm; have g_ := c47; simp only [ByteArray.size_append, ByteArray.size_extract, strOfNums_size] at g_ ⊢; omega))
            try have c47b3 : (9223372036854775807 < (a1.extract 0 (t104 : Int).toNat).size + (strOfNums y119).size + (a1.extract ((ji44) : Int).toNat a1.size).size) = False := eq_false (Nat.not_lt.2 (by have h_ := c47; simp only [ByteArray.size_append] at h_; exact h_))
            try have c47b3 : (9223372036854775807 < (a1.extract 0 (t104 : Int).toNat).size + (strOfNums y119).size + (a1.extract ((ji44) : Int).toNat a1.size).size) = False := eq_false (Nat.not_lt.2 (by have h_ := c47; simp only [ByteArray.size_append] at h_; exact h_))
            simp only [Option.some.injEq, Prod.mk.injEq] at H
            obtain ⟨rfl, rfl, rfl⟩ := H
            go_enter Tryd.func66, Tryd.ntmps66
            try go_wp2_with (first | ((with_reducible refine gate_callee (f := 89) rfl ?_); refine goesL_ (some 14) rfl rfl Tryd.func89 (by kernel_rfl) rfl #[.pointer (some ⟨g, 0, none⟩), .int .i64 (a1.size : Int)] rfl am ?_; (with_reducible refine (spec_l1Below.calls g s0_0 s0_1 s0_2 (a1.size : Int) t104 t105 t106 w0 _ ?side1 ?side2 A6.out).mono ?_); (case side1 => repeat (first | (with_reducible first | exact HI0.out | apply IsS110.alloc | apply IsS110.drewN | apply IsS110.drew | apply IsS110.set_1 | apply IsS110.set_2) | exact HI0.out)); (case side2 => repeat (first | (with_reducible first | exact HB.out | apply below_alloc | apply pw_below_drewN | apply below_drew1 | refine below_set ?_ (IsS110.ge HI0.out)) | exact HB.out)); rintro e w48 ⟨rfl, hi, hb, hk⟩; refine ⟨_, rfl, ?_⟩; have n0_ := Aside0.mk (KeepBut.trans (by repeat (first | (with_reducible first | exact HK.out | apply KeepBut.set_ | apply keep_drewN | apply keep_drew | apply keep_alloc) | exact HK.out)) hk (.inl rfl)); have n1_ := Aside0.mk (hb); have n2_ := Aside0.mk (hi); clear HK; clear HB; clear HI0; have HK := n0_; have HB := n1_; have HI0 := n2_; clear n0_ n1_ n2_; (try clear hb); (try clear hb2); (try clear hk); (try clear hi)) | ((with_reducible refine gate_callee (f := 89) rfl ?_); refine goesL_ (some 16) rfl rfl Tryd.func89 (by kernel_rfl) rfl #[.pointer (some ⟨g, 0, none⟩), .int .i64 4] rfl am ?_; (with_reducible refine (spec_l1Below.calls g s0_0 t105 t106 4 t107 t108 t109 w0 _ ?side1 ?side2 A7.out).mono ?_); (case side1 => repeat (first | (with_reducible first | exact HI0.out | apply IsS110.alloc | apply IsS110.drewN | apply IsS110.drew | apply IsS110.set_1 | apply IsS110.set_2) | exact HI0.out)); (case side2 => repeat (first | (with_reducible first | exact HB.out | apply below_alloc | apply pw_below_drewN | apply below_drew1 | refine below_set ?_ (IsS110.ge HI0.out)) | exact HB.out)); rintro e w49 ⟨rfl, hi, hb, hk⟩; refine ⟨_, rfl, ?_⟩; have n0_ := Aside0.mk (KeepBut.trans (by repeat (first | (with_reducible first | exact HK.out | apply KeepBut.set_ | apply keep_drewN | apply keep_drew | apply keep_alloc) | exact HK.out)) hk (.inl rfl)); have n1_ := Aside0.mk (hb); have n2_ := Aside0.mk (hi); clear HK; clear HB; clear HI0; have HK := n0_; have HB := n1_; have HI0 := n2_; clear n0_ n1_ n2_; (try clear hb); (try clear hb2); (try clear hk); (try clear hi)))
            have n0_ := Aside0.mk (IsS110.drew HI0.out)
            have n1_ := Aside0.mk (keep_drew HK.out)
            have n2_ := Aside0.mk (below_drew1 HB.out)
            clear HI0
            clear HK
            clear HB
            have HI0 := n0_
            have HK := n1_
            have HB := n2_
            clear n0_ n1_ n2_
            have p41 : 0 ≤ (t104 : Int) := of_decide_eq_true asm
            have q41 : t104 < (a1.size : Int) := of_decide_eq_true asm
            have hx41 := bt_at a1 t104
            replace p41 := eq_true p41
            replace q41 := eq_true q41
            refine start_ (n := 21) (S := fun w' => True) (ds := []) (Array.replicate 21 false) (by kernel_rfl) rfl rfl trivial (fun hHeld => ?_); refine with_tabW spec_l1Spoil.tab11 spec_l1Spoil.bits11 (fun HT_ HW_ => ?_)
            generalize w49.drew = w50 at HI0 HK HB hHeld ⊢
            refine pu 0 47 HT_ ?_
            refine pu 1 48 HT_ ?_
            refine pu 2 49 HT_ ?_
            refine pu 3 50 HT_ ?_
            refine pu 4 51 HT_ ?_
            refine pu 7 54 HT_ ?_
            refine pu 15 62 HT_ ?_
            refine pu 16 63 HT_ ?_
            refine pu 17 64 HT_ ?_
            refine pu 18 65 HT_ ?_
            refine tk 5 52 HT_ HW_ hHeld ?_ (hy := by intro w' _; go_simp; with_reducible rfl)
            refine pu 6 53 HT_ ?_
            refine on1 8 55 HT_ (fun K hK => ?_)
            refine goes_ Tryd.func89 (by kernel_rfl) rfl #[.pointer (some ⟨g, 0, none⟩), .int .i64 255] (by rfl) rfl rfl am ?_
            with_reducible refine (spec_l1Below.calls g s0_0 t108 t109 255 t116 t117 t118 w0 _ ?side1 ?side2 A42.out).mono ?_
            (case side1 => repeat (first | (with_reducible first | exact HI0.out | apply IsS110.alloc | apply IsS110.drewN | apply IsS110.drew | apply IsS110.set_1 | apply IsS110.set_2) | exact HI0.out))
            (case side2 => repeat (first | (with_reducible first | exact HB.out | apply below_alloc | apply pw_below_drewN | apply below_drew1 | refine below_set ?_ (IsS110.ge HI0.out)) | exact HB.out))
            rintro e w51 ⟨rfl, hi, hb, hk⟩
            refine ⟨_, rfl, ?_⟩
            have n0_ := Aside0.mk (KeepBut.trans (by repeat (first | (with_reducible first | exact HK.out | apply KeepBut.set_ | apply keep_drewN | apply keep_drew | apply keep_alloc) | exact HK.out)) hk (.inl rfl))
            have n1_ := Aside0.mk (hb)
            have n2_ := Aside0.mk (hi)
            clear HK
            clear HB
            clear HI0
            have HK := n0_
            have HB := n1_
            have HI0 := n2_
            clear n0_ n1_ n2_
            (try clear hb)
            (try clear hb2)
            (try clear hk)
            (try clear hi)
            refine hK.out _ _ trivial (fun hHeld => ?_)
            clear hK K
            refine nrm 55 ?_
            refine pu 9 56 HT_ ?_
            refine pu 10 57 HT_ ?_
            refine pu 11 58 HT_ ?_
            refine on1 12 59 HT_ (fun K hK => ?_)
            refine Kd.R_lit_step (Kd.int .u8) _ 5 ?hg (N := 59) ?hd (xs := ([(Go.bits .xor .i64 (wrap64 (bt a1 t104)) (wrap64 (1 + t116))) % 256] : List Int)) (inner := [.int .u8 ((Go.bits .xor .i64 (wrap64 (bt a1 t104)) (wrap64 (1 + t116))) % 256)]) (ok := fun _ => True) (okp := fun _ => True) ?hr ?hp (fun _ hk => hk) trivial (Below.refl _ _) (Nat.le_refl _) (by simp) ?_; (case hd => rfl); (case hg => rfl); (case hr => first | (go_simp; done) | (go_simp; rfl)); (case hp => exact (Reps.one (show Kd.M (Kd.int .u8) _ _ _ ((Go.bits .xor .i64 (wrap64 (bt a1 t104)) (wrap64 (1 + t116))) % 256) [.int .u8 ((Go.bits .xor .i64 (wrap64 (bt a1 t104)) (wrap64 (1 + t116))) % 256)] from rfl) (Reps.none _ _)))
            intro v120 w52 ho53 hb hg_ hnew_
            clear hg_ hnew_
            (first | rw [← Ny119.out] at ho53 | (simp only [Int.reduceToNat] at ho53; rw [← Ny119.out] at ho53))
            have n0_ := Aside0.mk (Kd.R_lower ho53 (keep_size (w := w) (g := g) (row := none) (by repeat (first | (with_reducible first | exact HK.out | apply KeepBut.set_ | apply keep_drewN | apply keep_drew | apply keep_alloc) | exact HK.out))))
            have n1_ := Aside0.mk (IsS110.below (by repeat (first | (with_reducible first | exact HI0.out | apply IsS110.alloc | apply IsS110.drewN | apply IsS110.drew | apply IsS110.set_1 | apply IsS110.set_2) | exact HI0.out)) hb)
            have n2_ := Aside0.mk (KeepBut.trans (by repeat (first | (with_reducible first | exact HK.out | apply KeepBut.set_ | apply keep_drewN | apply keep_drew | apply keep_alloc) | exact HK.out)) (KeepBut.of_below hb g none) (.inl rfl))
            have n3_ := Aside0.mk (below_step (by repeat (first | (with_reducible first | exact HB.out | apply below_alloc | apply pw_below_drewN | apply below_drew1 | refine below_set ?_ (IsS110.ge HI0.out)) | exact HB.out)) hb)
            clear HI0
            clear HK
            clear HB
            have HO121 := n0_
            have HI0 := n1_
            have HK := n2_
            have HB := n3_
            clear n0_ n1_ n2_ n3_
            clear hb ho53
            refine hK.out _ _ trivial (fun hHeld => ?_)
            clear hK K
            refine nrm 59 ?_
            refine on1 13 60 HT_ (fun K hK => ?_)
            have hcv54 := own_string (P := Tryd.prog) Tryd.underlying30 Tryd.underlying5 Tryd.underlying9 (Kd.own_of_R HO121.out)
            refine value_ (w1 := ?_) (v := ?_) (by rfl) rfl ?_ ?_
            rotate_left 2
            ·go_simp
             constructor
             ·rfl
             ·rfl
            clear hcv54
            refine hK.out _ _ trivial (fun hHeld => ?_)
            clear hK K
            refine nrm 60 ?_
            refine pu 14 61 HT_ ?_
            refine pu 19 66 HT_ ?_
            refine pu 20 4 HT_ ?_
            refine done_ (done_of HT_.out (by kernel_rfl)) ?_
            try go_wp2
            go_ret
            exact ⟨by first | rfl | (simp [errW_none, errW_some] <;> rfl) | (simp only [← hji44]; first | rfl | (simp [errW_none, errW_some] <;> rfl)) | (simp [*, errW_none, errW_some] <;> rfl), by repeat (first | (with_reducible first | exact HI0.out | apply IsS110.alloc | apply IsS110.drewN | apply IsS110.drew | apply IsS110.set_1 | apply IsS110.set_2) | exact HI0.out), by repeat (first | (with_reducible first | exact HB.out | apply below_alloc | apply pw_below_drewN | apply below_drew1 | refine below_set ?_ (IsS110.ge HI0.out)) | exact HB.out), by repeat (first | (with_reducible first | exact HK.out | apply KeepBut.set_ | apply keep_drewN | apply keep_drew | apply keep_alloc) | exact HK.out)⟩
           ·rw [if_neg c47] at H
            exact absurd H (by simp)
          ·rw [if_neg c46] at H
           exact absurd H (by simp)
         ·rw [if_neg c45] at H
          exact absurd H (by simp)
        ·rw [if_neg c43] at H
         exact absurd H (by simp)
       ·rw [if_neg c40] at H
        exact absurd H (by simp)
      ·rw [if_neg c39] at H
       exact absurd H (by simp)
     ·rw [if_neg c38] at H
      exact absurd H (by simp)

end Go.Proofs.YtjldfmkpdkhnnaaDoor.QL

namespace Go.Proofs.YtjldfmkpdkhnnaaDoor.QL
open Go.RowKit Go.Proofs.YtjldfmkpdkhnnaaDoorW.PrintWords Go.Proofs.YtjldfmkpdkhnnaaDoorW.PrintLast Go.Proofs.YtjldfmkpdkhnnaaDoorW.PrintMore Go.Proofs.YtjldfmkpdkhnnaaDoor.Aux Go.Proofs.YtjldfmkpdkhnnaaDoor.Dom Go.Proofs.YtjldfmkpdkhnnaaDoor.Ext Go.Proofs.YtjldfmkpdkhnnaaDoor.Glob
attribute [local go_sem] max2_int min2_int max_two min_two max_three min_three max_four min_four   -- for this text's walks alone
set_option linter.unusedVariables false
set_option linter.unusedSimpArgs false

/-! ### spec_DrawReadVar: function 24 -/
def spec_DrawReadVar.f (k : Nat) (l0 : List Int) : Option (ByteArray) := (spec_l1New.f k l0).bind fun bt101 => ((spec_l1Num.f bt101.1 bt101.2.1 bt101.2.2).bind fun bt105 => ((spec_Var.f k bt105.1).bind fun t108 => ((spec_l1Text.f k bt101.1 bt105.2.1 bt105.2.2 4).bind fun bt109 => (if t108.size + bt109.1.size ≤ 9223372036854775807 then ((spec_l1Once.f bt101.1 bt109.2.1 bt109.2.2 4).bind fun bt112 => (if bt112.1 = true then ((spec_l1Spoil.f k bt101.1 bt112.2.1 bt112.2.2 (t108 ++ bt109.1)).bind fun bt115 => (some bt115.1)) else (some (t108 ++ bt109.1)))) else (none)))))
theorem spec_DrawReadVar.mono : ∀ a0 k, LeO (spec_DrawReadVar.f k a0) (spec_DrawReadVar.f (k + 1) a0) := by
 intro a0 k
 unfold spec_DrawReadVar.f
 repeat' first
   | (with_reducible exact spec_Var.mono _ _)
   | (with_reducible exact spec_l1New.mono _ _)
   | (with_reducible exact spec_l1Spoil.mono _ _ _ _ _)
   | (with_reducible exact spec_l1Text.mono _ _ _ _ _)
   | (with_reducible exact LeO.refl _)
   | (with_reducible exact LeO.none _)
   | (with_reducible refine LeO.ite ?_ ?_)
   | (with_reducible refine LeO.bind ?_ (fun _ => ?_))
   | exact spec_Var.mono _ _
   | exact spec_l1New.mono _ _
   | exact spec_l1Spoil.mono _ _ _ _ _
   | exact spec_l1Text.mono _ _ _ _ _
   | exact LeO.none _
   | refine LeO.ite ?_ ?_
   | refine LeO.bind ?_ (fun _ => ?_)
set_option maxHeartbeats 8000000 in
set_option maxRecDepth 100000 in
theorem spec_DrawReadVar.calls (k : Nat) (A0 : Option Addr) (c0 : Nat) (l0 : List Int) (r : ByteArray) (w : World) (hr0 : Kd.C (Kd.int .u8) w A0 l0.length l0) (hc0 : l0.length ≤ c0) (h : spec_DrawReadVar.f k l0 = some r) :
  Calls Tryd.prog 24 #[.slice A0 l0.length c0] w fun e w' => e = .returned (.string r) ∧ Below w.heap.size w w' := by
 have HR0 := Aside0.mk hr0
 have HC0 := Aside0.mk hc0
 clear hr0 hc0
 have HB := Aside0.mk (Below.refl w.heap.size w)
 have H : ((spec_l1New.f k l0).bind fun bt101 => ((spec_l1Num.f bt101.1 bt101.2.1 bt101.2.2).bind fun bt105 => ((spec_Var.f k bt105.1).bind fun t108 => ((spec_l1Text.f k bt101.1 bt105.2.1 bt105.2.2 4).bind fun bt109 => (if t108.size + bt109.1.size ≤ 9223372036854775807 then ((spec_l1Once.f bt101.1 bt109.2.1 bt109.2.2 4).bind fun bt112 => (if bt112.1 = true then ((spec_l1Spoil.f k bt101.1 bt112.2.1 bt112.2.2 (t108 ++ bt109.1)).bind fun bt115 => (some bt115.1)) else (some (t108 ++ bt109.1)))) else (none)))))) = some r := h
 clear h
 replace H := Option.bind_eq_some_iff.mp H
 obtain ⟨⟨t101, t102, t103⟩, A20, H⟩ := H
 try dsimp only at H
 have A2 := Aside0.mk A20
 clear A20
 replace H := Option.bind_eq_some_iff.mp H
 obtain ⟨⟨t105, t106, t107⟩, A30, H⟩ := H
 try dsimp only at H
 have A3 := Aside0.mk A30
 clear A30
 replace H := Option.bind_eq_some_iff.mp H
 obtain ⟨t108, A40, H⟩ := H
 try dsimp only at H
 have A4 := Aside0.mk A40
 clear A40
 replace H := Option.bind_eq_some_iff.mp H
 obtain ⟨⟨t109, t110, t111⟩, A50, H⟩ := H
 try dsimp only at H
 have A5 := Aside0.mk A50
 clear A50
 by_cases c6 : t108.size + t109.size ≤ 9223372036854775807
 ·rw [if_pos c6] at H
  have c6b0 := eq_true c6
  have c6b1 : decide (t108.size + t109.size ≤ 9223372036854775807) = true := decide_eq_true c6
  try have c6b2 : (9223372036854775807 < t108.size + t109.size) = False := eq_false (Nat.not_lt.2 c6)
  replace H := Option.bind_eq_some_iff.mp H
  obtain ⟨⟨t112, t113, t114⟩, A70, H⟩ := H
  try dsimp only at H
  have A7 := Aside0.mk A70
  clear A70
  by_cases c8 : t112 = true
  ·subst c8
   rw [if_pos rfl] at H
   replace H := Option.bind_eq_some_iff.mp H
   obtain ⟨⟨t115, t116, t117⟩, A90, H⟩ := H
   try dsimp only at H
   have A9 := Aside0.mk A90
   clear A90
   obtain rfl := Option.some.inj H
   go_enter Tryd.func24, Tryd.ntmps24
   go_wp2_with (first | ((with_reducible refine gate_callee (f := 57) rfl ?_); refine goesL_ (some 6) rfl rfl Tryd.func57 (by kernel_rfl) rfl #[.slice A0 l0.length c0] rfl am ?_; (with_reducible refine (spec_l1New.calls k _ _ l0 t101 t102 t103 w _ ?side1 ?side2 ?side3 A2.out).mono ?_); (case side1 => repeat (first | (with_reducible first | exact HB.out | apply below_alloc | apply pw_below_drewN | apply below_drew1) | exact HB.out)); (case side2 => exact HR0.out); (case side3 => exact HC0.out); rintro e w10 ⟨g104, rfl, hi, hb, hb2⟩; refine ⟨_, rfl, ?_⟩; have n0_ := Aside0.mk (hb); have n1_ := Aside0.mk (hi); clear HB; have HB := n0_; have HI104 := n1_; clear n0_ n1_; (try clear hb); (try clear hb2); (try clear hk); (try clear hi)) | ((with_reducible refine gate_callee (f := 58) rfl ?_); refine goesL_ (some 8) rfl rfl Tryd.func58 (by kernel_rfl) rfl #[.pointer (some ⟨g104, 0, none⟩)] rfl am ?_; (with_reducible refine (spec_l1Num.calls g104 t101 t102 t103 t105 t106 t107 w _ ?side1 ?side2 A3.out).mono ?_); (case side1 => repeat (first | (with_reducible first | exact HI104.out | apply IsS110.alloc | apply IsS110.drewN | apply IsS110.drew | apply IsS110.set_1 | apply IsS110.set_2) | exact HI104.out)); (case side2 => repeat (first | (with_reducible first | exact HB.out | apply below_alloc | apply pw_below_drewN | apply below_drew1 | refine below_set ?_ (IsS110.ge HI104.out)) | exact HB.out)); rintro e w11 ⟨rfl, hi, hb, hk⟩; refine ⟨_, rfl, ?_⟩; have n0_ := Aside0.mk (hb); have n1_ := Aside0.mk (hi); clear HB; clear HI104; have HB := n0_; have HI104 := n1_; clear n0_ n1_; (try clear hb); (try clear hb2); (try clear hk); (try clear hi)) | ((with_reducible refine gate_callee (f := 64) rfl ?_); refine goesL_ (some 9) rfl rfl Tryd.func64 (by kernel_rfl) rfl #[.int .i64 t105] rfl am ?_; (with_reducible refine (spec_Var.calls k t105 t108 _ A4.out).mono ?_); rintro e w12 ⟨rfl, hb⟩; refine ⟨_, rfl, ?_⟩; have n0_ := Aside0.mk (IsS110.below (by repeat (first | (with_reducible first | exact HI104.out | apply IsS110.alloc | apply IsS110.drewN | apply IsS110.drew | apply IsS110.set_1 | apply IsS110.set_2) | exact HI104.out)) hb); have n1_ := Aside0.mk (below_step (by repeat (first | (with_reducible first | exact HB.out | apply below_alloc | apply pw_below_drewN | apply below_drew1 | refine below_set ?_ (IsS110.ge HI104.out)) | exact HB.out)) hb); clear HI104; clear HB; have HI104 := n0_; have HB := n1_; clear n0_ n1_; (try clear hb); (try clear hb2); (try clear hk); (try clear hi)) | ((with_reducible refine gate_callee (f := 59) rfl ?_); refine goesL_ (some 11) rfl rfl Tryd.func59 (by kernel_rfl) rfl #[.pointer (some ⟨g104, 0, none⟩), .int .i64 4] rfl am ?_; (with_reducible refine (spec_l1Text.calls k g104 t101 t106 t107 4 t109 t110 t111 w _ ?side1 ?side2 A5.out).mono ?_); (case side1 => repeat (first | (with_reducible first | exact HI104.out | apply IsS110.alloc | apply IsS110.drewN | apply IsS110.drew | apply IsS110.set_1 | apply IsS110.set_2) | exact HI104.out)); (case side2 => repeat (first | (with_reducible first | exact HB.out | apply below_alloc | apply pw_below_drewN | apply below_drew1 | refine below_set ?_ (IsS110.ge HI104.out)) | exact HB.out)); rintro e w13 ⟨rfl, hi, hb, hk⟩; refine ⟨_, rfl, ?_⟩; have n0_ := Aside0.mk (hb); have n1_ := Aside0.mk (hi); clear HB; clear HI104; have HB := n0_; have HI104 := n1_; clear n0_ n1_; (try clear hb); (try clear hb2); (try clear hk); (try clear hi)) | ((with_reducible refine gate_callee (f := 65) rfl ?_); refine goesL_ (some 14) rfl rfl Tryd.func65 (by kernel_rfl) rfl #[.pointer (some ⟨g104, 0, none⟩), .int .i64 4] rfl am ?_; (with_reducible refine (spec_l1Once.calls g104 t101 t110 t111 4 true t113 t114 w _ ?side1 ?side2 A7.out).mono ?_); (case side1 => repeat (first | (with_reducible first | exact HI104.out | apply IsS110.alloc | apply IsS110.drewN | apply IsS110.drew | apply IsS110.set_1 | apply IsS110.set_2) | exact HI104.out)); (case side2 => repeat (first | (with_reducible first | exact HB.out | apply below_alloc | apply pw_below_drewN | apply below_drew1 | refine below_set ?_ (IsS110.ge HI104.out)) | exact HB.out)); rintro e w14 ⟨rfl, hi, hb, hk⟩; refine ⟨_, rfl, ?_⟩; have n0_ := Aside0.mk (hb); have n1_ := Aside0.mk (hi); clear HB; clear HI104; have HB := n0_; have HI104 := n1_; clear n0_ n1_; (try clear hb); (try clear hb2); (try clear hk); (try clear hi)) | ((with_reducible refine gate_callee (f := 66) rfl ?_); refine goesL_ (some 17) rfl rfl Tryd.func66 (by kernel_rfl) rfl #[.pointer (some ⟨g104, 0, none⟩), .string (t108 ++ t109)] rfl am ?_; (with_reducible refine (spec_l1Spoil.calls k g104 t101 t113 t114 (t108 ++ t109) t115 t116 t117 w _ ?side1 ?side2 A9.out).mono ?_); (case side1 => repeat (first | (with_reducible first | exact HI104.out | apply IsS110.alloc | apply IsS110.drewN | apply IsS110.drew | apply IsS110.set_1 | apply IsS110.set_2) | exact HI104.out)); (case side2 => repeat (first | (with_reducible first | exact HB.out | apply below_alloc | apply pw_below_drewN | apply below_drew1 | refine below_set ?_ (IsS110.ge HI104.out)) | exact HB.out)); rintro e w15 ⟨rfl, hi, hb, hk⟩; refine ⟨_, rfl, ?_⟩; have n0_ := Aside0.mk (hb); have n1_ := Aside0.mk (hi); clear HB; clear HI104; have HB := n0_; have HI104 := n1_; clear n0_ n1_; (try clear hb); (try clear hb2); (try clear hk); (try clear hi)))
   go_ret
   exact ⟨by first | rfl | (simp [errW_none, errW_some] <;> rfl) | (simp [*, errW_none, errW_some] <;> rfl), by repeat (first | (with_reducible first | exact HB.out | apply below_alloc | apply pw_below_drewN | apply below_drew1 | refine below_set ?_ (IsS110.ge HI104.out)) | exact HB.out)⟩
  ·replace c8 := Bool.eq_false_iff.mpr c8
   subst c8
   rw [if_neg (show ¬ (false = true) by decide)] at H
   obtain rfl := Option.some.inj H
   go_enter Tryd.func24, Tryd.ntmps24
   go_wp2_with (first | ((with_reducible refine gate_callee (f := 57) rfl ?_); refine goesL_ (some 6) rfl rfl Tryd.func57 (by kernel_rfl) rfl #[.slice A0 l0.length c0] rfl am ?_; (with_reducible refine (spec_l1New.calls k _ _ l0 t101 t102 t103 w _ ?side1 ?side2 ?side3 A2.out).mono ?_); (case side1 => repeat (first | (with_reducible first | exact HB.out | apply below_alloc | apply pw_below_drewN | apply below_drew1) | exact HB.out)); (case side2 => exact HR0.out); (case side3 => exact HC0.out); rintro e w16 ⟨g104, rfl, hi, hb, hb2⟩; refine ⟨_, rfl, ?_⟩; have n0_ := Aside0.mk (hb); have n1_ := Aside0.mk (hi); clear HB; have HB := n0_; have HI104 := n1_; clear n0_ n1_; (try clear hb); (try clear hb2); (try clear hk); (try clear hi)) | ((with_reducible refine gate_callee (f := 58) rfl ?_); refine goesL_ (some 8) rfl rfl Tryd.func58 (by kernel_rfl) rfl #[.pointer (some ⟨g104, 0, none⟩)] rfl am ?_; (with_reducible refine (spec_l1Num.calls g104 t101 t102 t103 t105 t106 t107 w _ ?side1 ?side2 A3.out).mono ?_); (case side1 => repeat (first | (with_reducible first | exact HI104.out | apply IsS110.alloc | apply IsS110.drewN | apply IsS110.drew | apply IsS110.set_1 | apply IsS110.set_2) | exact HI104.out)); (case side2 => repeat (first | (with_reducible first | exact HB.out | apply below_alloc | apply pw_below_drewN | apply below_drew1 | refine below_set ?_ (IsS110.ge HI104.out)) | exact HB.out)); rintro e w17 ⟨rfl, hi, hb, hk⟩; refine ⟨_, rfl, ?_⟩; have n0_ := Aside0.mk (hb); have n1_ := Aside0.mk (hi); clear HB; clear HI104; have HB := n0_; have HI104 := n1_; clear n0_ n1_; (try clear hb); (try clear hb2); (try clear hk); (try clear hi)) | ((with_reducible refine gate_callee (f := 64) rfl ?_); refine goesL_ (some 9) rfl rfl Tryd.func64 (by kernel_rfl) rfl #[.int .i64 t105] rfl am ?_; (with_reducible refine (spec_Var.calls k t105 t108 _ A4.out).mono ?_); rintro e w18 ⟨rfl, hb⟩; refine ⟨_, rfl, ?_⟩; have n0_ := Aside0.mk (IsS110.below (by repeat (first | (with_reducible first | exact HI104.out | apply IsS110.alloc | apply IsS110.drewN | apply IsS110.drew | apply IsS110.set_1 | apply IsS110.set_2) | exact HI104.out)) hb); have n1_ := Aside0.mk (below_step (by repeat (first | (with_reducible first | exact HB.out | apply below_alloc | apply pw_below_drewN | apply below_drew1 | refine below_set ?_ (IsS110.ge HI104.out)) | exact HB.out)) hb); clear HI104; clear HB; have HI104 := n0_; have HB := n1_; clear n0_ n1_; (try clear hb); (try clear hb2); (try clear hk); (try clear hi)) | ((with_reducible refine gate_callee (f := 59) rfl ?_); refine goesL_ (some 11) rfl rfl Tryd.func59 (by kernel_rfl) rfl #[.pointer (some ⟨g104, 0, none⟩), .int .i64 4] rfl am ?_; (with_reducible refine (spec_l1Text.calls k g104 t101 t106 t107 4 t109 t110 t111 w _ ?side1 ?side2 A5.out).mono ?_); (case side1 => repeat (first | (with_reducible first | exact HI104.out | apply IsS110.alloc | apply IsS110.drewN | apply IsS110.drew | apply IsS110.set_1 | apply IsS110.set_2) | exact HI104.out)); (case side2 => repeat (first | (with_reducible first | exact HB.out | apply below_alloc | apply pw_below_drewN | apply below_drew1 | refine below_set ?_ (IsS110.ge HI104.out)) | exact HB.out)); rintro e w19 ⟨rfl, hi, hb, hk⟩; refine ⟨_, rfl, ?_⟩; have n0_ := Aside0.mk (hb); have n1_ := Aside0.mk (hi); clear HB; clear HI104; have HB := n0_; have HI104 := n1_; clear n0_ n1_; (try clear hb); (try clear hb2); (try clear hk); (try clear hi)) | ((with_reducible refine gate_callee (f := 65) rfl ?_); refine goesL_ (some 14) rfl rfl Tryd.func65 (by kernel_rfl) rfl #[.pointer (some ⟨g104, 0, none⟩), .int .i64 4] rfl am ?_; (with_reducible refine (spec_l1Once.calls g104 t101 t110 t111 4 false t113 t114 w _ ?side1 ?side2 A7.out).mono ?_); (case side1 => repeat (first | (with_reducible first | exact HI104.out | apply IsS110.alloc | apply IsS110.drewN | apply IsS110.drew | apply IsS110.set_1 | apply IsS110.set_2) | exact HI104.out)); (case side2 => repeat (first | (with_reducible first | exact HB.out | apply below_alloc | apply pw_below_drewN | apply below_drew1 | refine below_set ?_ (IsS110.ge HI104.out)) | exact HB.out)); rintro e w20 ⟨rfl, hi, hb, hk⟩; refine ⟨_, rfl, ?_⟩; have n0_ := Aside0.mk (hb); have n1_ := Aside0.mk (hi); clear HB; clear HI104; have HB := n0_; have HI104 := n1_; clear n0_ n1_; (try clear hb); (try clear hb2); (try clear hk); (try clear hi)))
   go_ret
   exact ⟨by first | rfl | (simp [errW_none, errW_some] <;> rfl) | (simp [*, errW_none, errW_some] <;> rfl), by repeat (first | (with_reducible first | exact HB.out | apply below_alloc | apply pw_below_drewN | apply below_drew1 | refine below_set ?_ (IsS110.ge HI104.out)) | exact HB.out)⟩
 ·rw [if_neg c6] at H
  exact absurd H (by simp)

end Go.Proofs.YtjldfmkpdkhnnaaDoor.QL

namespace Go.Proofs.YtjldfmkpdkhnnaaDoor.QL
open Go.RowKit Go.Proofs.YtjldfmkpdkhnnaaDoorW.PrintWords Go.Proofs.YtjldfmkpdkhnnaaDoorW.PrintLast Go.Proofs.YtjldfmkpdkhnnaaDoorW.PrintMore Go.Proofs.YtjldfmkpdkhnnaaDoor.Aux Go.Proofs.YtjldfmkpdkhnnaaDoor.Dom Go.Proofs.YtjldfmkpdkhnnaaDoor.Ext Go.Proofs.YtjldfmkpdkhnnaaDoor.Glob
attribute [local go_sem] max2_int min2_int max_two min_two max_three min_three max_four min_four   -- for this text's walks alone
set_option linter.unusedVariables false
set_option linter.unusedSimpArgs false

/-! ### laws_FnNumbers: function 4 -/
mutual
def laws_FnNumbers.j0 : Nat → List Int → Int → ByteArray → Bool → Option (Bool)
 | 0, _, _, _, _ => none
 | k + 1, x0, x3, x4, x55 => if x55 = true then (some false) else ((impl_Fixed.f k x3 7).bind fun t107 => (if t107.size + x4.size ≤ 9223372036854775807 then ((impl_ReadFixed.f k (t107 ++ x4) 7).bind fun bt108 => (if t107.toList = ([] : List UInt8) then (if x3 < 0 then (laws_FnNumbers.j1 k x0 x3 x4 ((t107.toList == ([] : List UInt8)) != true)) else (laws_FnNumbers.j1 k x0 x3 x4 ((t107.toList == ([] : List UInt8)) != (decide (x3 ≥ 72057594037927936))))) else (if bt108.2 = true then (if bt108.1 = x3 then (if (t107.size : Int) = 7 then (if x3 < 0 then (laws_FnNumbers.j1 k x0 x3 x4 ((t107.toList == ([] : List UInt8)) != true)) else (laws_FnNumbers.j1 k x0 x3 x4 ((t107.toList == ([] : List UInt8)) != (decide (x3 ≥ 72057594037927936))))) else (laws_FnNumbers.j1 k x0 x3 x4 true)) else (laws_FnNumbers.j1 k x0 x3 x4 true)) else (laws_FnNumbers.j1 k x0 x3 x4 true)))) else (none)))
def laws_FnNumbers.j1 : Nat → List Int → Int → ByteArray → Bool → Option (Bool)
 | 0, _, _, _, _ => none
 | k + 1, x0, x3, x4, x91 => if x91 = true then (some false) else ((impl_Dec.f x3).bind fun t110 => ((impl_ReadDec.f t110).bind fun bt111 => (if x3 > (-1000000000) then (if (bt111.2 != (decide (x3 < 1000000000))) = true then (laws_FnNumbers.j2 k x0 x4 true) else (if bt111.2 = true then (laws_FnNumbers.j2 k x0 x4 (bt111.1 != x3)) else (laws_FnNumbers.j2 k x0 x4 false))) else (if (bt111.2 != false) = true then (laws_FnNumbers.j2 k x0 x4 true) else (if bt111.2 = true then (laws_FnNumbers.j2 k x0 x4 (bt111.1 != x3)) else (laws_FnNumbers.j2 k x0 x4 false))))))
def laws_FnNumbers.j2 : Nat → List Int → ByteArray → Bool → Option (Bool)
 | 0, _, _, _ => none
 | k + 1, x0, x4, x113 => if x113 = true then (some false) else ((impl_Hex.f k x4).bind fun t113 => ((impl_Unhex.f k t113).bind fun bt114 => ((spec_DrawReadVar.f k x0).bind fun t116 => ((impl_ReadVar.f k t116).bind fun bt117 => (if bt114.2 = true then (if bt114.1.toList = x4.toList then (if bt117.2 = 0 then (some true) else (if bt117.2 > 0 then ((spec_DrawReadVar.f k x0).bind fun t119 => (if bt117.2 ≤ (t119.size : Int) then ((impl_Var.f k bt117.1).bind fun t120 => ((spec_DrawReadVar.f k x0).bind fun t121 => (if 0 ≤ bt117.2 then (if bt117.2 ≤ (t121.size : Int) then (some (t120.toList == (t121.extract 0 (bt117.2 : Int).toNat).toList)) else (none)) else (none)))) else (some false))) else (some false))) else (some false)) else (some false))))))
end
def laws_FnNumbers.f (k : Nat) (l0 : List Int) : Option (Bool) := (laws_big.f l0).bind fun t101 => (if t101 = true then (some true) else ((spec_DrawVar.f k l0).bind fun t102 => ((spec_DrawHex.f k l0).bind fun t103 => ((impl_Var.f k t102).bind fun t104 => (if t104.size + t103.size ≤ 9223372036854775807 then ((impl_ReadVar.f k (t104 ++ t103)).bind fun bt105 => (if t102 ≥ 0 then (if ((t104.toList != ([] : List UInt8)) != (decide (t102 ≤ 562949953421311))) = true then (laws_FnNumbers.j0 k l0 t102 t103 true) else (if t104.toList = ([] : List UInt8) then (laws_FnNumbers.j0 k l0 t102 t103 false) else (if bt105.1 = t102 then (laws_FnNumbers.j0 k l0 t102 t103 (bt105.2 != (t104.size : Int))) else (laws_FnNumbers.j0 k l0 t102 t103 true)))) else (if ((t104.toList != ([] : List UInt8)) != false) = true then (laws_FnNumbers.j0 k l0 t102 t103 true) else (if t104.toList = ([] : List UInt8) then (laws_FnNumbers.j0 k l0 t102 t103 false) else (if bt105.1 = t102 then (laws_FnNumbers.j0 k l0 t102 t103 (bt105.2 != (t104.size : Int))) else (laws_FnNumbers.j0 k l0 t102 t103 true)))))) else (none))))))
theorem laws_FnNumbers.mono_l : ∀ k, (∀ y0 y1 y2 y3, LeO (laws_FnNumbers.j0 k y0 y1 y2 y3) (laws_FnNumbers.j0 (k + 1) y0 y1 y2 y3)) ∧ (∀ y0 y1 y2 y3, LeO (laws_FnNumbers.j1 k y0 y1 y2 y3) (laws_FnNumbers.j1 (k + 1) y0 y1 y2 y3)) ∧ (∀ y0 y1 y2, LeO (laws_FnNumbers.j2 k y0 y1 y2) (laws_FnNumbers.j2 (k + 1) y0 y1 y2))
 | 0 => ⟨fun _ _ _ _ r h => by simp [laws_FnNumbers.j0] at h, fun _ _ _ _ r h => by simp [laws_FnNumbers.j1] at h, fun _ _ _ r h => by simp [laws_FnNumbers.j2] at h⟩
 | k + 1 => by
  obtain ⟨ih0, ih1, ih2⟩ := laws_FnNumbers.mono_l k
  refine ⟨?_, ?_, ?_⟩
  ·intro y0 y1 y2 y3
   unfold laws_FnNumbers.j0
   repeat' first
   | (with_reducible exact ih0 _ _ _ _)
   | (with_reducible exact ih1 _ _ _ _)
   | (with_reducible exact ih2 _ _ _)
   | (with_reducible exact impl_Fixed.mono _ _ _)
   | (with_reducible exact impl_Hex.mono _ _)
   | (with_reducible exact impl_ReadFixed.mono _ _ _)
   | (with_reducible exact impl_ReadVar.mono _ _)
   | (with_reducible exact impl_Unhex.mono _ _)
   | (with_reducible exact impl_Var.mono _ _)
   | (with_reducible exact spec_DrawHex.mono _ _)
   | (with_reducible exact spec_DrawReadVar.mono _ _)
   | (with_reducible exact spec_DrawVar.mono _ _)
   | (with_reducible exact LeO.refl _)
   | (with_reducible exact LeO.none _)
   | (with_reducible refine LeO.ite ?_ ?_)
   | (with_reducible refine LeO.bind ?_ (fun _ => ?_))
   | exact ih0 _ _ _ _
   | exact ih1 _ _ _ _
   | exact ih2 _ _ _
   | exact impl_Fixed.mono _ _ _
   | exact impl_Hex.mono _ _
   | exact impl_ReadFixed.mono _ _ _
   | exact impl_ReadVar.mono _ _
   | exact impl_Unhex.mono _ _
   | exact impl_Var.mono _ _
   | exact spec_DrawHex.mono _ _
   | exact spec_DrawReadVar.mono _ _
   | exact spec_DrawVar.mono _ _
   | exact LeO.none _
   | refine LeO.ite ?_ ?_
   | refine LeO.bind ?_ (fun _ => ?_)
  ·intro y0 y1 y2 y3
   unfold laws_FnNumbers.j1
   repeat' first
   | (with_reducible exact ih0 _ _ _ _)
   | (with_reducible exact ih1 _ _ _ _)
   | (with_reducible exact ih2 _ _ _)
   | (with_reducible exact impl_Fixed.mono _ _ _)
   | (with_reducible exact impl_Hex.mono _ _)
   | (with_reducible exact impl_ReadFixed.mono _ _ _)
   | (with_reducible exact impl_ReadVar.mono _ _)
   | (with_reducible exact impl_Unhex.mono _ _)
   | (with_reducible exact impl_Var.mono _ _)
   | (with_reducible exact spec_DrawHex.mono _ _)
   | (with_reducible exact spec_DrawReadVar.mono _ _)
   | (with_reducible exact spec_DrawVar.mono _ _)
   | (with_reducible exact LeO.refl _)
   | (with_reducible exact LeO.none _)
   | (with_reducible refine LeO.ite ?_ ?_)
   | (with_reducible refine LeO.bind ?_ (fun _ => ?_))
   | exact ih0 _ _ _ _
   | exact ih1 _ _ _ _
   | exact ih2 _ _ _
   | exact impl_Fixed.mono _ _ _
   | exact impl_Hex.mono _ _
   | exact impl_ReadFixed.mono _ _ _
   | exact impl_ReadVar.mono _ _
   | exact impl_Unhex.mono _ _
   | exact impl_Var.mono _ _
   | exact spec_DrawHex.mono _ _
   | exact spec_DrawReadVar.mono _ _
   | exact spec_DrawVar.mono _ _
   | exact LeO.none _
   | refine LeO.ite ?_ ?_
   | refine LeO.bind ?_ (fun _ => ?_)
  ·intro y0 y1 y2
   unfold laws_FnNumbers.j2
   repeat' first
   | (with_reducible exact ih0 _ _ _ _)
   | (with_reducible exact ih1 _ _ _ _)
   | (with_reducible exact ih2 _ _ _)
   | (with_reducible exact impl_Fixed.mono _ _ _)
   | (with_reducible exact impl_Hex.mono _ _)
   | (with_reducible exact impl_ReadFixed.mono _ _ _)
   | (with_reducible exact impl_ReadVar.mono _ _)
   | (with_reducible exact impl_Unhex.mono _ _)
   | (with_reducible exact impl_Var.mono _ _)
   | (with_reducible exact spec_DrawHex.mono _ _)
   | (with_reducible exact spec_DrawReadVar.mono _ _)
   | (with_reducible exact spec_DrawVar.mono _ _)
   | (with_reducible exact LeO.refl _)
   | (with_reducible exact LeO.none _)
   | (with_reducible refine LeO.ite ?_ ?_)
   | (with_reducible refine LeO.bind ?_ (fun _ => ?_))
   | exact ih0 _ _ _ _
   | exact ih1 _ _ _ _
   | exact ih2 _ _ _
   | exact impl_Fixed.mono _ _ _
   | exact impl_Hex.mono _ _
   | exact impl_ReadFixed.mono _ _ _
   | exact impl_ReadVar.mono _ _
   | exact impl_Unhex.mono _ _
   | exact impl_Var.mono _ _
   | exact spec_DrawHex.mono _ _
   | exact spec_DrawReadVar.mono _ _
   | exact spec_DrawVar.mono _ _
   | exact LeO.none _
   | refine LeO.ite ?_ ?_
   | refine LeO.bind ?_ (fun _ => ?_)
theorem laws_FnNumbers.mono : ∀ a0 k, LeO (laws_FnNumbers.f k a0) (laws_FnNumbers.f (k + 1) a0) := by
 intro a0 k
 obtain ⟨ih0, ih1, ih2⟩ := laws_FnNumbers.mono_l k
 unfold laws_FnNumbers.f
 repeat' first
   | (with_reducible exact ih0 _ _ _ _)
   | (with_reducible exact ih1 _ _ _ _)
   | (with_reducible exact ih2 _ _ _)
   | (with_reducible exact impl_Fixed.mono _ _ _)
   | (with_reducible exact impl_Hex.mono _ _)
   | (with_reducible exact impl_ReadFixed.mono _ _ _)
   | (with_reducible exact impl_ReadVar.mono _ _)
   | (with_reducible exact impl_Unhex.mono _ _)
   | (with_reducible exact impl_Var.mono _ _)
   | (with_reducible exact spec_DrawHex.mono _ _)
   | (with_reducible exact spec_DrawReadVar.mono _ _)
   | (with_reducible exact spec_DrawVar.mono _ _)
   | (with_reducible exact LeO.refl _)
   | (with_reducible exact LeO.none _)
   | (with_reducible refine LeO.ite ?_ ?_)
   | (with_reducible refine LeO.bind ?_ (fun _ => ?_))
   | exact ih0 _ _ _ _
   | exact ih1 _ _ _ _
   | exact ih2 _ _ _
   | exact impl_Fixed.mono _ _ _
   | exact impl_Hex.mono _ _
   | exact impl_ReadFixed.mono _ _ _
   | exact impl_ReadVar.mono _ _
   | exact impl_Unhex.mono _ _
   | exact impl_Var.mono _ _
   | exact spec_DrawHex.mono _ _
   | exact spec_DrawReadVar.mono _ _
   | exact spec_DrawVar.mono _ _
   | exact LeO.none _
   | refine LeO.ite ?_ ?_
   | refine LeO.bind ?_ (fun _ => ?_)
set_option maxHeartbeats 8000000 in
set_option maxRecDepth 100000 in
theorem laws_FnNumbers.calls (k : Nat) (A0 : Option Addr) (c0 : Nat) (l0 : List Int) (r : Bool) (w : World) (hr0 : Kd.C (Kd.int .u8) w A0 l0.length l0) (hc0 : l0.length ≤ c0) (hGErr : GErr w) (hGPow : GPow w) (h : laws_FnNumbers.f k l0 = some r) :
  Calls Tryd.prog 4 #[.slice A0 l0.length c0] w fun e w' => e = .returned (.bool r) ∧ Below w.heap.size w w' := by
 have HR0 := Aside0.mk hr0
 have HC0 := Aside0.mk hc0
 clear hr0 hc0
 have HGErr := Aside0.mk hGErr
 clear hGErr
 have HGPow := Aside0.mk hGPow
 clear hGPow
 have HB := Aside0.mk (Below.refl w.heap.size w)
 have H : ((laws_big.f l0).bind fun t101 => (if t101 = true then (some true) else ((spec_DrawVar.f k l0).bind fun t102 => ((spec_DrawHex.f k l0).bind fun t103 => ((impl_Var.f k t102).bind fun t104 => (if t104.size + t103.size ≤ 9223372036854775807 then ((impl_ReadVar.f k (t104 ++ t103)).bind fun bt105 => (if t102 ≥ 0 then (if ((t104.toList != ([] : List UInt8)) != (decide (t102 ≤ 562949953421311))) = true then (laws_FnNumbers.j0 k l0 t102 t103 true) else (if t104.toList = ([] : List UInt8) then (laws_FnNumbers.j0 k l0 t102 t103 false) else (if bt105.1 = t102 then (laws_FnNumbers.j0 k l0 t102 t103 (bt105.2 != (t104.size : Int))) else (laws_FnNumbers.j0 k l0 t102 t103 true)))) else (if ((t104.toList != ([] : List UInt8)) != false) = true then (laws_FnNumbers.j0 k l0 t102 t103 true) else (if t104.toList = ([] : List UInt8) then (laws_FnNumbers.j0 k l0 t102 t103 false) else (if bt105.1 = t102 then (laws_FnNumbers.j0 k l0 t102 t103 (bt105.2 != (t104.size : Int))) else (laws_FnNumbers.j0 k l0 t102 t103 true)))))) else (none))))))) = some r := h
 clear h
 replace H := Option.bind_eq_some_iff.mp H
 obtain ⟨t101, A20, H⟩ := H
 try dsimp only at H
 have A2 := Aside0.mk A20
 clear A20
 by_cases c3 : t101 = true
 ·subst c3
  rw [if_pos rfl] at H
  obtain rfl := Option.some.inj H
  go_enter Tryd.func4, Tryd.ntmps4
  go_wp2_with (first | ((with_reducible refine gate_callee (f := 13) rfl ?_); refine goesL_ (some 18) rfl rfl Tryd.func13 (by kernel_rfl) rfl #[.slice A0 l0.length c0] rfl am ?_; (with_reducible refine (laws_big.calls _ _ l0 true _ ?side1 ?side2 A2.out).mono ?_); (case side1 => repeat (first | exact HR0.out | (with_reducible refine Kd.C_alloc ?_ _) | (with_reducible refine Kd.C_drewN ?_ _) | (with_reducible refine Kd.C_drew ?_))); (case side2 => exact HC0.out); rintro e w' ⟨rfl, ⟨nd, rfl⟩⟩; refine ⟨_, rfl, ?_⟩))
  go_ret
  exact ⟨by first | rfl | (simp [errW_none, errW_some] <;> rfl) | (simp [*, errW_none, errW_some] <;> rfl), bq⟩
 ·replace c3 := Bool.eq_false_iff.mpr c3
  subst c3
  rw [if_neg (show ¬ (false = true) by decide)] at H
  replace H := Option.bind_eq_some_iff.mp H
  obtain ⟨t102, A40, H⟩ := H
  try dsimp only at H
  have A4 := Aside0.mk A40
  clear A40
  replace H := Option.bind_eq_some_iff.mp H
  obtain ⟨t103, A50, H⟩ := H
  try dsimp only at H
  have A5 := Aside0.mk A50
  clear A50
  replace H := Option.bind_eq_some_iff.mp H
  obtain ⟨t104, A60, H⟩ := H
  try dsimp only at H
  have A6 := Aside0.mk A60
  clear A60
  by_cases c7 : t104.size + t103.size ≤ 9223372036854775807
  ·rw [if_pos c7] at H
   have c7b0 := eq_true c7
   have c7b1 : decide (t104.size + t103.size ≤ 9223372036854775807) = true := decide_eq_true c7
   try have c7b2 : (9223372036854775807 < t104.size + t103.size) = False := eq_false (Nat.not_lt.2 c7)
   replace H := Option.bind_eq_some_iff.mp H
   obtain ⟨⟨t105, t106⟩, A80, H⟩ := H
   try dsimp only at H
   have A8 := Aside0.mk A80
   clear A80
   have HC9 := Aside0.mk H
   clear H
   go_enter Tryd.func4, Tryd.ntmps4
   go_upto_region 7 with (first | ((with_reducible refine gate_callee (f := 13) rfl ?_); refine goesL_ (some 18) rfl rfl Tryd.func13 (by kernel_rfl) rfl #[.slice A0 l0.length c0] rfl am ?_; (with_reducible refine (laws_big.calls _ _ l0 false _ ?side1 ?side2 A2.out).mono ?_); (case side1 => repeat (first | exact HR0.out | (with_reducible refine Kd.C_alloc ?_ _) | (with_reducible refine Kd.C_drewN ?_ _) | (with_reducible refine Kd.C_drew ?_))); (case side2 => exact HC0.out); rintro e w' ⟨rfl, ⟨nd, rfl⟩⟩; refine ⟨_, rfl, ?_⟩) | ((with_reducible refine gate_callee (f := 14) rfl ?_); refine goesL_ (some 20) rfl rfl Tryd.func14 (by kernel_rfl) rfl #[.slice A0 l0.length c0] rfl am ?_; (with_reducible refine (spec_DrawVar.calls k _ _ l0 t102 _ ?side1 ?side2 A4.out).mono ?_); (case side1 => repeat (first | exact HR0.out | (with_reducible refine Kd.C_alloc ?_ _) | (with_reducible refine Kd.C_drewN ?_ _) | (with_reducible refine Kd.C_drew ?_))); (case side2 => exact HC0.out); rintro e w10 ⟨rfl, hb⟩; refine ⟨_, rfl, ?_⟩; have n0_ := Aside0.mk (below_step bq hb); clear HB; have HB := n0_; clear n0_; (try clear hb); (try clear hb2); (try clear hk); (try clear hi)) | ((with_reducible refine gate_callee (f := 15) rfl ?_); refine goesL_ (some 22) rfl rfl Tryd.func15 (by kernel_rfl) rfl #[.slice A0 l0.length c0] rfl am ?_; (with_reducible refine (spec_DrawHex.calls k _ _ l0 t103 _ ?side1 ?side2 A5.out).mono ?_); (case side1 => repeat (first | exact (Kd.C_below HR0.out HB.out) | (with_reducible refine Kd.C_alloc ?_ _) | (with_reducible refine Kd.C_drewN ?_ _) | (with_reducible refine Kd.C_drew ?_))); (case side2 => exact HC0.out); rintro e w11 ⟨rfl, hb⟩; refine ⟨_, rfl, ?_⟩; have n0_ := Aside0.mk (below_step bq hb); clear HB; have HB := n0_; clear n0_; (try clear hb); (try clear hb2); (try clear hk); (try clear hi)) | ((with_reducible refine gate_callee (f := 16) rfl ?_); refine goesL_ (some 24) rfl rfl Tryd.func16 (by kernel_rfl) rfl #[.int .i64 t102] rfl am ?_; (with_reducible refine (impl_Var.calls k t102 t104 _ A6.out).mono ?_); rintro e w12 ⟨rfl, hb⟩; refine ⟨_, rfl, ?_⟩; have n0_ := Aside0.mk (below_step bq hb); clear HB; have HB := n0_; clear n0_; (try clear hb); (try clear hb2); (try clear hk); (try clear hi)) | ((with_reducible refine gate_callee (f := 17) rfl ?_); refine goesL_ (some 29) rfl rfl Tryd.func17 (by kernel_rfl) rfl #[.string (t104 ++ t103)] rfl am ?_; (with_reducible refine (impl_ReadVar.calls k (t104 ++ t103) t105 t106 _ A8.out).mono ?_); rintro e w' ⟨rfl, ⟨nd, rfl⟩⟩; refine ⟨_, rfl, ?_⟩))
   (try simp only [Act.put, List.setIfInBounds_toArray, List.set_cons_zero, List.set_cons_succ])
   go_cut [6, 7, 55] (fun v6 v7 v55 wc => ∃ (kq : Nat) (x55_8 : Bool), v55 = .bool x55_8 ∧ Aside0 (laws_FnNumbers.j0 kq l0 t102 t103 x55_8 = some r) ∧ Aside0 (kq ≤ k) ∧ Aside0 (Below w.heap.size w wc))
   case first =>
    have H := HC9.out
    clear HC9
    by_cases ca0_ : 0 ≤ t102
    ·have fa0_ : decide (0 ≤ t102) = true := decide_eq_true ca0_
     by_cases ca1_ : t102 ≤ 562949953421311
     ·have fa1_ : decide (t102 ≤ 562949953421311) = true := decide_eq_true ca1_
      by_cases ca2_ : t104.toList = ([] : List UInt8)
      ·have fa2_ : (t104.toList == ([] : List UInt8)) = true := beq_iff_eq.mpr ca2_
       have ga2_ : (t104.toList != ([] : List UInt8)) = false := bne_eq_false_iff_eq.mpr ca2_
       simp only [ge_iff_le, gt_iff_lt, ca0_, ca1_, ca2_, fa0_, fa1_, fa2_, ga2_, if_true, if_false, bne_self_eq_false, beq_self_eq_true, Bool.true_bne, Bool.false_bne, Bool.bne_true, Bool.bne_false, Bool.true_beq, Bool.false_beq, Bool.not_true, Bool.not_false, reduceIte, reduceCtorEq, Bool.false_eq_true] at H
       have H' := Aside0.mk H
       clear H ca0_ ca1_ ca2_
       go_wp2
       go_meet
       case rel => exact ⟨_, _, rfl, H', ⟨by first | omega | exact Nat.le_refl _⟩, ⟨by repeat (first | (with_reducible first | exact HB.out | apply below_alloc | apply pw_below_drewN | apply below_drew1) | exact HB.out)⟩⟩
      ·have fa2_ : (t104.toList == ([] : List UInt8)) = false := beq_eq_false_iff_ne.mpr ca2_
       have ga2_ : (t104.toList != ([] : List UInt8)) = true := bne_iff_ne.mpr ca2_
       by_cases ca3_ : t105 = t102
       ·have fa3_ : (t105 == t102) = true := beq_iff_eq.mpr ca3_
        have ga3_ : (t105 != t102) = false := bne_eq_false_iff_eq.mpr ca3_
        by_cases ca4_ : t106 = (t104.size : Int)
        ·have fa4_ : (t106 == (t104.size : Int)) = true := beq_iff_eq.mpr ca4_
         have ga4_ : (t106 != (t104.size : Int)) = false := bne_eq_false_iff_eq.mpr ca4_
         simp only [ge_iff_le, gt_iff_lt, ca0_, ca1_, ca2_, ca3_, ca4_, fa0_, fa1_, fa2_, ga2_, fa3_, ga3_, fa4_, ga4_, if_true, if_false, bne_self_eq_false, beq_self_eq_true, Bool.true_bne, Bool.false_bne, Bool.bne_true, Bool.bne_false, Bool.true_beq, Bool.false_beq, Bool.not_true, Bool.not_false, reduceIte, reduceCtorEq, Bool.false_eq_true] at H
         have H' := Aside0.mk H
         clear H ca0_ ca1_ ca2_ ca3_ ca4_
         go_wp2
         go_meet
         case rel => exact ⟨_, _, rfl, H', ⟨by first | omega | exact Nat.le_refl _⟩, ⟨by repeat (first | (with_reducible first | exact HB.out | apply below_alloc | apply pw_below_drewN | apply below_drew1) | exact HB.out)⟩⟩
        ·have fa4_ : (t106 == (t104.size : Int)) = false := beq_eq_false_iff_ne.mpr ca4_
         have ga4_ : (t106 != (t104.size : Int)) = true := bne_iff_ne.mpr ca4_
         simp only [ge_iff_le, gt_iff_lt, ca0_, ca1_, ca2_, ca3_, ca4_, fa0_, fa1_, fa2_, ga2_, fa3_, ga3_, fa4_, ga4_, if_true, if_false, bne_self_eq_false, beq_self_eq_true, Bool.true_bne, Bool.false_bne, Bool.bne_true, Bool.bne_false, Bool.true_beq, Bool.false_beq, Bool.not_true, Bool.not_false, reduceIte, reduceCtorEq, Bool.false_eq_true] at H
         have H' := Aside0.mk H
         clear H ca0_ ca1_ ca2_ ca3_ ca4_
         go_wp2
         go_meet
         case rel => exact ⟨_, _, rfl, H', ⟨by first | omega | exact Nat.le_refl _⟩, ⟨by repeat (first | (with_reducible first | exact HB.out | apply below_alloc | apply pw_below_drewN | apply below_drew1) | exact HB.out)⟩⟩
       ·have fa3_ : (t105 == t102) = false := beq_eq_false_iff_ne.mpr ca3_
        have ga3_ : (t105 != t102) = true := bne_iff_ne.mpr ca3_
        simp only [ge_iff_le, gt_iff_lt, ca0_, ca1_, ca2_, ca3_, fa0_, fa1_, fa2_, ga2_, fa3_, ga3_, if_true, if_false, bne_self_eq_false, beq_self_eq_true, Bool.true_bne, Bool.false_bne, Bool.bne_true, Bool.bne_false, Bool.true_beq, Bool.false_beq, Bool.not_true, Bool.not_false, reduceIte, reduceCtorEq, Bool.false_eq_true] at H
        have H' := Aside0.mk H
        clear H ca0_ ca1_ ca2_ ca3_
        go_wp2
        go_meet
        case rel => exact ⟨_, _, rfl, H', ⟨by first | omega | exact Nat.le_refl _⟩, ⟨by repeat (first | (with_reducible first | exact HB.out | apply below_alloc | apply pw_below_drewN | apply below_drew1) | exact HB.out)⟩⟩
     ·have fa1_ : decide (t102 ≤ 562949953421311) = false := decide_eq_false ca1_
      by_cases ca5_ : t104.toList = ([] : List UInt8)
      ·have fa5_ : (t104.toList == ([] : List UInt8)) = true := beq_iff_eq.mpr ca5_
       have ga5_ : (t104.toList != ([] : List UInt8)) = false := bne_eq_false_iff_eq.mpr ca5_
       simp only [ge_iff_le, gt_iff_lt, ca0_, ca1_, ca5_, fa0_, fa1_, fa5_, ga5_, if_true, if_false, bne_self_eq_false, beq_self_eq_true, Bool.true_bne, Bool.false_bne, Bool.bne_true, Bool.bne_false, Bool.true_beq, Bool.false_beq, Bool.not_true, Bool.not_false, reduceIte, reduceCtorEq, Bool.false_eq_true] at H
       have H' := Aside0.mk H
       clear H ca0_ ca1_ ca5_
       go_wp2
       go_meet
       case rel => exact ⟨_, _, rfl, H', ⟨by first | omega | exact Nat.le_refl _⟩, ⟨by repeat (first | (with_reducible first | exact HB.out | apply below_alloc | apply pw_below_drewN | apply below_drew1) | exact HB.out)⟩⟩
      ·have fa5_ : (t104.toList == ([] : List UInt8)) = false := beq_eq_false_iff_ne.mpr ca5_
       have ga5_ : (t104.toList != ([] : List UInt8)) = true := bne_iff_ne.mpr ca5_
       by_cases ca6_ : t105 = t102
       ·have fa6_ : (t105 == t102) = true := beq_iff_eq.mpr ca6_
        have ga6_ : (t105 != t102) = false := bne_eq_false_iff_eq.mpr ca6_
        by_cases ca7_ : t106 = (t104.size : Int)
        ·have fa7_ : (t106 == (t104.size : Int)) = true := beq_iff_eq.mpr ca7_
         have ga7_ : (t106 != (t104.size : Int)) = false := bne_eq_false_iff_eq.mpr ca7_
         simp only [ge_iff_le, gt_iff_lt, ca0_, ca1_, ca5_, ca6_, ca7_, fa0_, fa1_, fa5_, ga5_, fa6_, ga6_, fa7_, ga7_, if_true, if_false, bne_self_eq_false, beq_self_eq_true, Bool.true_bne, Bool.false_bne, Bool.bne_true, Bool.bne_false, Bool.true_beq, Bool.false_beq, Bool.not_true, Bool.not_false, reduceIte, reduceCtorEq, Bool.false_eq_true] at H
         have H' := Aside0.mk H
         clear H ca0_ ca1_ ca5_ ca6_ ca7_
         go_wp2
         go_meet
         case rel => exact ⟨_, _, rfl, H', ⟨by first | omega | exact Nat.le_refl _⟩, ⟨by repeat (first | (with_reducible first | exact HB.out | apply below_alloc | apply pw_below_drewN | apply below_drew1) | exact HB.out)⟩⟩
        ·have fa7_ : (t106 == (t104.size : Int)) = false := beq_eq_false_iff_ne.mpr ca7_
         have ga7_ : (t106 != (t104.size : Int)) = true := bne_iff_ne.mpr ca7_
         simp only [ge_iff_le, gt_iff_lt, ca0_, ca1_, ca5_, ca6_, ca7_, fa0_, fa1_, fa5_, ga5_, fa6_, ga6_, fa7_, ga7_, if_true, if_false, bne_self_eq_false, beq_self_eq_true, Bool.true_bne, Bool.false_bne, Bool.bne_true, Bool.bne_false, Bool.true_beq, Bool.false_beq, Bool.not_true, Bool.not_false, reduceIte, reduceCtorEq, Bool.false_eq_true] at H
         have H' := Aside0.mk H
         clear H ca0_ ca1_ ca5_ ca6_ ca7_
         go_wp2
         go_meet
         case rel => exact ⟨_, _, rfl, H', ⟨by first | omega | exact Nat.le_refl _⟩, ⟨by repeat (first | (with_reducible first | exact HB.out | apply below_alloc | apply pw_below_drewN | apply below_drew1) | exact HB.out)⟩⟩
       ·have fa6_ : (t105 == t102) = false := beq_eq_false_iff_ne.mpr ca6_
        have ga6_ : (t105 != t102) = true := bne_iff_ne.mpr ca6_
        simp only [ge_iff_le, gt_iff_lt, ca0_, ca1_, ca5_, ca6_, fa0_, fa1_, fa5_, ga5_, fa6_, ga6_, if_true, if_false, bne_self_eq_false, beq_self_eq_true, Bool.true_bne, Bool.false_bne, Bool.bne_true, Bool.bne_false, Bool.true_beq, Bool.false_beq, Bool.not_true, Bool.not_false, reduceIte, reduceCtorEq, Bool.false_eq_true] at H
        have H' := Aside0.mk H
        clear H ca0_ ca1_ ca5_ ca6_
        go_wp2
        go_meet
        case rel => exact ⟨_, _, rfl, H', ⟨by first | omega | exact Nat.le_refl _⟩, ⟨by repeat (first | (with_reducible first | exact HB.out | apply below_alloc | apply pw_below_drewN | apply below_drew1) | exact HB.out)⟩⟩
    ·have fa0_ : decide (0 ≤ t102) = false := decide_eq_false ca0_
     by_cases ca8_ : t104.toList = ([] : List UInt8)
     ·have fa8_ : (t104.toList == ([] : List UInt8)) = true := beq_iff_eq.mpr ca8_
      have ga8_ : (t104.toList != ([] : List UInt8)) = false := bne_eq_false_iff_eq.mpr ca8_
      simp only [ge_iff_le, gt_iff_lt, ca0_, ca8_, fa0_, fa8_, ga8_, if_true, if_false, bne_self_eq_false, beq_self_eq_true, Bool.true_bne, Bool.false_bne, Bool.bne_true, Bool.bne_false, Bool.true_beq, Bool.false_beq, Bool.not_true, Bool.not_false, reduceIte, reduceCtorEq, Bool.false_eq_true] at H
      have H' := Aside0.mk H
      clear H ca0_ ca8_
      go_wp2
      go_meet
      case rel => exact ⟨_, _, rfl, H', ⟨by first | omega | exact Nat.le_refl _⟩, ⟨by repeat (first | (with_reducible first | exact HB.out | apply below_alloc | apply pw_below_drewN | apply below_drew1) | exact HB.out)⟩⟩
     ·have fa8_ : (t104.toList == ([] : List UInt8)) = false := beq_eq_false_iff_ne.mpr ca8_
      have ga8_ : (t104.toList != ([] : List UInt8)) = true := bne_iff_ne.mpr ca8_
      by_cases ca9_ : t105 = t102
      ·have fa9_ : (t105 == t102) = true := beq_iff_eq.mpr ca9_
       have ga9_ : (t105 != t102) = false := bne_eq_false_iff_eq.mpr ca9_
       by_cases ca10_ : t106 = (t104.size : Int)
       ·have fa10_ : (t106 == (t104.size : Int)) = true := beq_iff_eq.mpr ca10_
        have ga10_ : (t106 != (t104.size : Int)) = false := bne_eq_false_iff_eq.mpr ca10_
        simp only [ge_iff_le, gt_iff_lt, ca0_, ca8_, ca9_, ca10_, fa0_, fa8_, ga8_, fa9_, ga9_, fa10_, ga10_, if_true, if_false, bne_self_eq_false, beq_self_eq_true, Bool.true_bne, Bool.false_bne, Bool.bne_true, Bool.bne_false, Bool.true_beq, Bool.false_beq, Bool.not_true, Bool.not_false, reduceIte, reduceCtorEq, Bool.false_eq_true] at H
        have H' := Aside0.mk H
        clear H ca0_ ca8_ ca9_ ca10_
        go_wp2
        go_meet
        case rel => exact ⟨_, _, rfl, H', ⟨by first | omega | exact Nat.le_refl _⟩, ⟨by repeat (first | (with_reducible first | exact HB.out | apply below_alloc | apply pw_below_drewN | apply below_drew1) | exact HB.out)⟩⟩
       ·have fa10_ : (t106 == (t104.size : Int)) = false := beq_eq_false_iff_ne.mpr ca10_
        have ga10_ : (t106 != (t104.size : Int)) = true := bne_iff_ne.mpr ca10_
        simp only [ge_iff_le, gt_iff_lt, ca0_, ca8_, ca9_, ca10_, fa0_, fa8_, ga8_, fa9_, ga9_, fa10_, ga10_, if_true, if_false, bne_self_eq_false, beq_self_eq_true, Bool.true_bne, Bool.false_bne, Bool.bne_true, Bool.bne_false, Bool.true_beq, Bool.false_beq, Bool.not_true, Bool.not_false, reduceIte, reduceCtorEq, Bool.false_eq_true] at H
        have H' := Aside0.mk H
        clear H ca0_ ca8_ ca9_ ca10_
        go_wp2
        go_meet
        case rel => exact ⟨_, _, rfl, H', ⟨by first | omega | exact Nat.le_refl _⟩, ⟨by repeat (first | (with_reducible first | exact HB.out | apply below_alloc | apply pw_below_drewN | apply below_drew1) | exact HB.out)⟩⟩
      ·have fa9_ : (t105 == t102) = false := beq_eq_false_iff_ne.mpr ca9_
       have ga9_ : (t105 != t102) = true := bne_iff_ne.mpr ca9_
       simp only [ge_iff_le, gt_iff_lt, ca0_, ca8_, ca9_, fa0_, fa8_, ga8_, fa9_, ga9_, if_true, if_false, bne_self_eq_false, beq_self_eq_true, Bool.true_bne, Bool.false_bne, Bool.bne_true, Bool.bne_false, Bool.true_beq, Bool.false_beq, Bool.not_true, Bool.not_false, reduceIte, reduceCtorEq, Bool.false_eq_true] at H
       have H' := Aside0.mk H
       clear H ca0_ ca8_ ca9_
       go_wp2
       go_meet
       case rel => exact ⟨_, _, rfl, H', ⟨by first | omega | exact Nat.le_refl _⟩, ⟨by repeat (first | (with_reducible first | exact HB.out | apply below_alloc | apply pw_below_drewN | apply below_drew1) | exact HB.out)⟩⟩
   case rest =>
    clear HC9
    try clear c1
    try clear p2
    try clear c3
    try clear c4
    try clear c7
    try clear c7b0
    try clear c7b1
    try clear c7b2
    try clear c13
    try clear c13b0
    try clear c14
    try clear c14b0
    try clear c14b1
    try clear c14b2
    try clear c15
    try clear c15b0
    try clear c15b1
    try clear c16
    try clear c16b0
    try clear c16b1
    try clear c17
    try clear c17b0
    try clear c17b1
    try clear c17b2
    try clear c18
    try clear c18b0
    try clear c18b1
    try clear c19
    try clear c19b0
    try clear c19b1
    obtain ⟨kq, x55_8, rfl, HA, HJ8, HB⟩ := hcut
    cases kq with
    | zero => exact absurd HA.out (by simp [laws_FnNumbers.j0])
    | succ kj8 =>
     have H := HA.out
     clear HA
     simp only [laws_FnNumbers.j0] at H
     by_cases c20 : x55_8 = true
     ·subst c20
      rw [if_pos rfl] at H
      obtain rfl := Option.some.inj H
      go_wp2
      go_ret
      exact ⟨by first | rfl | (simp [errW_none, errW_some] <;> rfl) | (simp [*, errW_none, errW_some] <;> rfl), bq⟩
     ·replace c20 := Bool.eq_false_iff.mpr c20
      subst c20
      rw [if_neg (show ¬ (false = true) by decide)] at H
      replace H := Option.bind_eq_some_iff.mp H
      obtain ⟨t107, A210, H⟩ := H
      try dsimp only at H
      have A21 := Aside0.mk A210
      clear A210
      by_cases c22 : t107.size + t103.size ≤ 9223372036854775807
      ·rw [if_pos c22] at H
       have c22b0 := eq_true c22
       have c22b1 : decide (t107.size + t103.size ≤ 9223372036854775807) = true := decide_eq_true c22
       try have c22b2 : (9223372036854775807 < t107.size + t103.size) = False := eq_false (Nat.not_lt.2 c22)
       replace H := Option.bind_eq_some_iff.mp H
       obtain ⟨⟨t108, t109⟩, A230, H⟩ := H
       try dsimp only at H
       have A23 := Aside0.mk A230
       clear A230
       have HC24 := Aside0.mk H
       clear H
       go_upto_region 11 with (first | ((with_reducible refine gate_callee (f := 18) rfl ?_); refine goesL_ (some 57) rfl rfl Tryd.func18 (by kernel_rfl) rfl #[.int .i64 t102, .int .i64 7] rfl am ?_; (with_reducible refine (impl_Fixed.calls kj8 t102 7 t107 _ A21.out).mono ?_); rintro e w25 ⟨rfl, hb⟩; refine ⟨_, rfl, ?_⟩; have n0_ := Aside0.mk (below_step bq hb); clear HB; have HB := n0_; clear n0_; (try clear hb); (try clear hb2); (try clear hk); (try clear hi)) | ((with_reducible refine gate_callee (f := 19) rfl ?_); refine goesL_ (some 62) rfl rfl Tryd.func19 (by kernel_rfl) rfl #[.string (t107 ++ t103), .int .i64 7] rfl am ?_; (with_reducible refine (impl_ReadFixed.calls kj8 (t107 ++ t103) 7 t108 t109 _ A23.out).mono ?_); rintro e w' ⟨rfl, ⟨nd, rfl⟩⟩; refine ⟨_, rfl, ?_⟩))
       (try simp only [Act.put, List.setIfInBounds_toArray, List.set_cons_zero, List.set_cons_succ])
       go_cut [9, 10, 91] (fun v9 v10 v91 wc => ∃ (kq : Nat) (x91_23 : Bool), v91 = .bool x91_23 ∧ Aside0 (laws_FnNumbers.j1 kq l0 t102 t103 x91_23 = some r) ∧ Aside0 (kq ≤ kj8) ∧ Aside0 (Below w.heap.size w wc))
       case first =>
        have H := HC24.out
        clear HC24
        by_cases ca0_ : t107.toList = ([] : List UInt8)
        ·have fa0_ : (t107.toList == ([] : List UInt8)) = true := beq_iff_eq.mpr ca0_
         have ga0_ : (t107.toList != ([] : List UInt8)) = false := bne_eq_false_iff_eq.mpr ca0_
         by_cases ca1_ : t102 < 0
         ·have fa1_ : decide (t102 < 0) = true := decide_eq_true ca1_
          simp only [ge_iff_le, gt_iff_lt, ca0_, ca1_, fa0_, ga0_, fa1_, if_true, if_false, bne_self_eq_false, beq_self_eq_true, Bool.true_bne, Bool.false_bne, Bool.bne_true, Bool.bne_false, Bool.true_beq, Bool.false_beq, Bool.not_true, Bool.not_false, reduceIte, reduceCtorEq, Bool.false_eq_true] at H
          have H' := Aside0.mk H
          clear H ca0_ ca1_
          go_wp2
          go_meet
          case rel => exact ⟨_, _, rfl, H', ⟨by have := HJ8.out; first | omega | exact Nat.le_refl _⟩, ⟨by repeat (first | (with_reducible first | exact HB.out | apply below_alloc | apply pw_below_drewN | apply below_drew1) | exact HB.out)⟩⟩
         ·have fa1_ : decide (t102 < 0) = false := decide_eq_false ca1_
          by_cases ca2_ : 72057594037927936 ≤ t102
          ·have fa2_ : decide (72057594037927936 ≤ t102) = true := decide_eq_true ca2_
           simp only [ge_iff_le, gt_iff_lt, ca0_, ca1_, ca2_, fa0_, ga0_, fa1_, fa2_, if_true, if_false, bne_self_eq_false, beq_self_eq_true, Bool.true_bne, Bool.false_bne, Bool.bne_true, Bool.bne_false, Bool.true_beq, Bool.false_beq, Bool.not_true, Bool.not_false, reduceIte, reduceCtorEq, Bool.false_eq_true] at H
           have H' := Aside0.mk H
           clear H ca0_ ca1_ ca2_
           go_wp2
           go_meet
           case rel => exact ⟨_, _, rfl, H', ⟨by have := HJ8.out; first | omega | exact Nat.le_refl _⟩, ⟨by repeat (first | (with_reducible first | exact HB.out | apply below_alloc | apply pw_below_drewN | apply below_drew1) | exact HB.out)⟩⟩
          ·have fa2_ : decide (72057594037927936 ≤ t102) = false := decide_eq_false ca2_
           simp only [ge_iff_le, gt_iff_lt, ca0_, ca1_, ca2_, fa0_, ga0_, fa1_, fa2_, if_true, if_false, bne_self_eq_false, beq_self_eq_true, Bool.true_bne, Bool.false_bne, Bool.bne_true, Bool.bne_false, Bool.true_beq, Bool.false_beq, Bool.not_true, Bool.not_false, reduceIte, reduceCtorEq, Bool.false_eq_true] at H
           have H' := Aside0.mk H
           clear H ca0_ ca1_ ca2_
           go_wp2
           go_meet
           case rel => exact ⟨_, _, rfl, H', ⟨by have := HJ8.out; first | omega | exact Nat.le_refl _⟩, ⟨by repeat (first | (with_reducible first | exact HB.out | apply below_alloc | apply pw_below_drewN | apply below_drew1) | exact HB.out)⟩⟩
        ·have fa0_ : (t107.toList == ([] : List UInt8)) = false := beq_eq_false_iff_ne.mpr ca0_
         have ga0_ : (t107.toList != ([] : List UInt8)) = true := bne_iff_ne.mpr ca0_
         by_cases ca3_ : t109 = true
         ·subst ca3_
          by_cases ca4_ : t108 = t102
          ·have fa4_ : (t108 == t102) = true := beq_iff_eq.mpr ca4_
           have ga4_ : (t108 != t102) = false := bne_eq_false_iff_eq.mpr ca4_
           by_cases ca5_ : (t107.size : Int) = 7
           ·have fa5_ : ((t107.size : Int) == 7) = true := beq_iff_eq.mpr ca5_
            have ga5_ : ((t107.size : Int) != 7) = false := bne_eq_false_iff_eq.mpr ca5_
            by_cases ca6_ : t102 < 0
            ·have fa6_ : decide (t102 < 0) = true := decide_eq_true ca6_
             simp only [ge_iff_le, gt_iff_lt, ca0_, ca4_, ca5_, ca6_, fa0_, ga0_, fa4_, ga4_, fa5_, ga5_, fa6_, if_true, if_false, bne_self_eq_false, beq_self_eq_true, Bool.true_bne, Bool.false_bne, Bool.bne_true, Bool.bne_false, Bool.true_beq, Bool.false_beq, Bool.not_true, Bool.not_false, reduceIte, reduceCtorEq, Bool.false_eq_true] at H
             have H' := Aside0.mk H
             clear H ca0_ ca4_ ca5_ ca6_
             go_wp2
             go_meet
             case rel => exact ⟨_, _, rfl, H', ⟨by have := HJ8.out; first | omega | exact Nat.le_refl _⟩, ⟨by repeat (first | (with_reducible first | exact HB.out | apply below_alloc | apply pw_below_drewN | apply below_drew1) | exact HB.out)⟩⟩
            ·have fa6_ : decide (t102 < 0) = false := decide_eq_false ca6_
             by_cases ca7_ : 72057594037927936 ≤ t102
             ·have fa7_ : decide (72057594037927936 ≤ t102) = true := decide_eq_true ca7_
              simp only [ge_iff_le, gt_iff_lt, ca0_, ca4_, ca5_, ca6_, ca7_, fa0_, ga0_, fa4_, ga4_, fa5_, ga5_, fa6_, fa7_, if_true, if_false, bne_self_eq_false, beq_self_eq_true, Bool.true_bne, Bool.false_bne, Bool.bne_true, Bool.bne_false, Bool.true_beq, Bool.false_beq, Bool.not_true, Bool.not_false, reduceIte, reduceCtorEq, Bool.false_eq_true] at H
              have H' := Aside0.mk H
              clear H ca0_ ca4_ ca5_ ca6_ ca7_
              go_wp2
              go_meet
              case rel => exact ⟨_, _, rfl, H', ⟨by have := HJ8.out; first | omega | exact Nat.le_refl _⟩, ⟨by repeat (first | (with_reducible first | exact HB.out | apply below_alloc | apply pw_below_drewN | apply below_drew1) | exact HB.out)⟩⟩
             ·have fa7_ : decide (72057594037927936 ≤ t102) = false := decide_eq_false ca7_
              simp only [ge_iff_le, gt_iff_lt, ca0_, ca4_, ca5_, ca6_, ca7_, fa0_, ga0_, fa4_, ga4_, fa5_, ga5_, fa6_, fa7_, if_true, if_false, bne_self_eq_false, beq_self_eq_true, Bool.true_bne, Bool.false_bne, Bool.bne_true, Bool.bne_false, Bool.true_beq, Bool.false_beq, Bool.not_true, Bool.not_false, reduceIte, reduceCtorEq, Bool.false_eq_true] at H
              have H' := Aside0.mk H
              clear H ca0_ ca4_ ca5_ ca6_ ca7_
              go_wp2
              go_meet
              case rel => exact ⟨_, _, rfl, H', ⟨by have := HJ8.out; first | omega | exact Nat.le_refl _⟩, ⟨by repeat (first | (with_reducible first | exact HB.out | apply below_alloc | apply pw_below_drewN | apply below_drew1) | exact HB.out)⟩⟩
           ·have fa5_ : ((t107.size : Int) == 7) = false := beq_eq_false_iff_ne.mpr ca5_
            have ga5_ : ((t107.size : Int) != 7) = true := bne_iff_ne.mpr ca5_
            simp only [ge_iff_le, gt_iff_lt, ca0_, ca4_, ca5_, fa0_, ga0_, fa4_, ga4_, fa5_, ga5_, if_true, if_false, bne_self_eq_false, beq_self_eq_true, Bool.true_bne, Bool.false_bne, Bool.bne_true, Bool.bne_false, Bool.true_beq, Bool.false_beq, Bool.not_true, Bool.not_false, reduceIte, reduceCtorEq, Bool.false_eq_true] at H
            have H' := Aside0.mk H
            clear H ca0_ ca4_ ca5_
            go_wp2
            go_meet
            case rel => exact ⟨_, _, rfl, H', ⟨by have := HJ8.out; first | omega | exact Nat.le_refl _⟩, ⟨by repeat (first | (with_reducible first | exact HB.out | apply below_alloc | apply pw_below_drewN | apply below_drew1) | exact HB.out)⟩⟩
          ·have fa4_ : (t108 == t102) = false := beq_eq_false_iff_ne.mpr ca4_
           have ga4_ : (t108 != t102) = true := bne_iff_ne.mpr ca4_
           simp only [ge_iff_le, gt_iff_lt, ca0_, ca4_, fa0_, ga0_, fa4_, ga4_, if_true, if_false, bne_self_eq_false, beq_self_eq_true, Bool.true_bne, Bool.false_bne, Bool.bne_true, Bool.bne_false, Bool.true_beq, Bool.false_beq, Bool.not_true, Bool.not_false, reduceIte, reduceCtorEq, Bool.false_eq_true] at H
           have H' := Aside0.mk H
           clear H ca0_ ca4_
           go_wp2
           go_meet
           case rel => exact ⟨_, _, rfl, H', ⟨by have := HJ8.out; first | omega | exact Nat.le_refl _⟩, ⟨by repeat (first | (with_reducible first | exact HB.out | apply below_alloc | apply pw_below_drewN | apply below_drew1) | exact HB.out)⟩⟩
         ·replace ca3_ := Bool.eq_false_iff.mpr ca3_
          subst ca3_
          simp only [ge_iff_le, gt_iff_lt, ca0_, fa0_, ga0_, if_true, if_false, bne_self_eq_false, beq_self_eq_true, Bool.true_bne, Bool.false_bne, Bool.bne_true, Bool.bne_false, Bool.true_beq, Bool.false_beq, Bool.not_true, Bool.not_false, reduceIte, reduceCtorEq, Bool.false_eq_true] at H
          have H' := Aside0.mk H
          clear H ca0_
          go_wp2
          go_meet
          case rel => exact ⟨_, _, rfl, H', ⟨by have := HJ8.out; first | omega | exact Nat.le_refl _⟩, ⟨by repeat (first | (with_reducible first | exact HB.out | apply below_alloc | apply pw_below_drewN | apply below_drew1) | exact HB.out)⟩⟩
       case rest =>
        clear HC24
        try clear c1
        try clear c2
        try clear p2
        try clear c3
        try clear c4
        try clear c7
        try clear c7b0
        try clear c7b1
        try clear c7b2
        try clear c13
        try clear c13b0
        try clear c14
        try clear c14b0
        try clear c14b1
        try clear c14b2
        try clear c15
        try clear c15b0
        try clear c15b1
        try clear c16
        try clear c16b0
        try clear c16b1
        try clear c17
        try clear c17b0
        try clear c17b1
        try clear c17b2
        try clear c18
        try clear c18b0
        try clear c18b1
        try clear c19
        try clear c19b0
        try clear c19b1
        try clear c20
        try clear c22
        try clear c22b0
        try clear c22b1
        try clear c22b2
        try clear c26
        try clear c26b0
        try clear c26b1
        try clear c27
        try clear c27b0
        try clear c28
        try clear c29
        try clear c29b0
        try clear c29b1
        try clear c30
        try clear c30b0
        try clear c30b1
        try clear c31
        try clear c31b0
        try clear p2
        obtain ⟨kq, x91_23, rfl, HA, HJ23, HB⟩ := hcut
        cases kq with
        | zero => exact absurd HA.out (by simp [laws_FnNumbers.j1])
        | succ kj23 =>
         have H := HA.out
         clear HA
         simp only [laws_FnNumbers.j1] at H
         by_cases c32 : x91_23 = true
         ·subst c32
          rw [if_pos rfl] at H
          obtain rfl := Option.some.inj H
          go_wp2
          go_ret
          exact ⟨by first | rfl | (simp [errW_none, errW_some] <;> rfl) | (simp [*, errW_none, errW_some] <;> rfl), bq⟩
         ·replace c32 := Bool.eq_false_iff.mpr c32
          subst c32
          rw [if_neg (show ¬ (false = true) by decide)] at H
          replace H := Option.bind_eq_some_iff.mp H
          obtain ⟨t110, A330, H⟩ := H
          try dsimp only at H
          have A33 := Aside0.mk A330
          clear A330
          replace H := Option.bind_eq_some_iff.mp H
          obtain ⟨⟨t111, t112⟩, A340, H⟩ := H
          try dsimp only at H
          have A34 := Aside0.mk A340
          clear A340
          have HC35 := Aside0.mk H
          clear H
          go_upto_region 14 with (first | ((with_reducible refine gate_callee (f := 21) rfl ?_); refine goesL_ (some 94) rfl rfl Tryd.func21 (by kernel_rfl) rfl #[.int .i64 t102] rfl am ?_; (with_reducible refine (impl_Dec.calls t102 t110 _ ?side1 A33.out).mono ?_); (case side1 => refine GPow.of_below HGPow.out ?_; repeat (first | (with_reducible first | exact HB.out | apply below_alloc | apply pw_below_drewN | apply below_drew1) | exact HB.out)); rintro e w36 ⟨rfl, hb⟩; refine ⟨_, rfl, ?_⟩; have n0_ := Aside0.mk (below_step bq hb); clear HB; have HB := n0_; clear n0_; (try clear hb); (try clear hb2); (try clear hk); (try clear hi)) | ((with_reducible refine gate_callee (f := 20) rfl ?_); refine goesL_ (some 95) rfl rfl Tryd.func20 (by kernel_rfl) rfl #[.string t110] rfl am ?_; (with_reducible refine (impl_ReadDec.calls t110 t111 t112 _ ?side1 ?side2 A34.out).mono ?_); (case side1 => refine GErr.of_below HGErr.out ?_; repeat (first | (with_reducible first | exact HB.out | apply below_alloc | apply pw_below_drewN | apply below_drew1) | exact HB.out)); (case side2 => refine GPow.of_below HGPow.out ?_; repeat (first | (with_reducible first | exact HB.out | apply below_alloc | apply pw_below_drewN | apply below_drew1) | exact HB.out)); rintro e w37 ⟨rfl, hb⟩; refine ⟨_, rfl, ?_⟩; have n0_ := Aside0.mk (below_step bq hb); clear HB; have HB := n0_; clear n0_; (try clear hb); (try clear hb2); (try clear hk); (try clear hi)))
          (try simp only [Act.put, List.setIfInBounds_toArray, List.set_cons_zero, List.set_cons_succ])
          go_cut [11, 12, 113] (fun v11 v12 v113 wc => ∃ (kq : Nat) (x113_34 : Bool), v113 = .bool x113_34 ∧ Aside0 (laws_FnNumbers.j2 kq l0 t103 x113_34 = some r) ∧ Aside0 (kq ≤ kj23) ∧ Aside0 (Below w.heap.size w wc))
          case first =>
           have H := HC35.out
           clear HC35
           by_cases ca0_ : (-1000000000) < t102
           ·have fa0_ : decide ((-1000000000) < t102) = true := decide_eq_true ca0_
            by_cases ca1_ : t102 < 1000000000
            ·have fa1_ : decide (t102 < 1000000000) = true := decide_eq_true ca1_
             by_cases ca2_ : t112 = true
             ·subst ca2_
              by_cases ca3_ : t111 = t102
              ·have fa3_ : (t111 == t102) = true := beq_iff_eq.mpr ca3_
               have ga3_ : (t111 != t102) = false := bne_eq_false_iff_eq.mpr ca3_
               simp only [ge_iff_le, gt_iff_lt, ca0_, ca1_, ca3_, fa0_, fa1_, fa3_, ga3_, if_true, if_false, bne_self_eq_false, beq_self_eq_true, Bool.true_bne, Bool.false_bne, Bool.bne_true, Bool.bne_false, Bool.true_beq, Bool.false_beq, Bool.not_true, Bool.not_false, reduceIte, reduceCtorEq, Bool.false_eq_true] at H
               have H' := Aside0.mk H
               clear H ca0_ ca1_ ca3_
               go_wp2
               go_meet
               case rel => exact ⟨_, _, rfl, H', ⟨by have := HJ8.out; have := HJ23.out; first | omega | exact Nat.le_refl _⟩, ⟨by repeat (first | (with_reducible first | exact HB.out | apply below_alloc | apply pw_below_drewN | apply below_drew1) | exact HB.out)⟩⟩
              ·have fa3_ : (t111 == t102) = false := beq_eq_false_iff_ne.mpr ca3_
               have ga3_ : (t111 != t102) = true := bne_iff_ne.mpr ca3_
               simp only [ge_iff_le, gt_iff_lt, ca0_, ca1_, ca3_, fa0_, fa1_, fa3_, ga3_, if_true, if_false, bne_self_eq_false, beq_self_eq_true, Bool.true_bne, Bool.false_bne, Bool.bne_true, Bool.bne_false, Bool.true_beq, Bool.false_beq, Bool.not_true, Bool.not_false, reduceIte, reduceCtorEq, Bool.false_eq_true] at H
               have H' := Aside0.mk H
               clear H ca0_ ca1_ ca3_
               go_wp2
               go_meet
               case rel => exact ⟨_, _, rfl, H', ⟨by have := HJ8.out; have := HJ23.out; first | omega | exact Nat.le_refl _⟩, ⟨by repeat (first | (with_reducible first | exact HB.out | apply below_alloc | apply pw_below_drewN | apply below_drew1) | exact HB.out)⟩⟩
             ·replace ca2_ := Bool.eq_false_iff.mpr ca2_
              subst ca2_
              simp only [ge_iff_le, gt_iff_lt, ca0_, ca1_, fa0_, fa1_, if_true, if_false, bne_self_eq_false, beq_self_eq_true, Bool.true_bne, Bool.false_bne, Bool.bne_true, Bool.bne_false, Bool.true_beq, Bool.false_beq, Bool.not_true, Bool.not_false, reduceIte, reduceCtorEq, Bool.false_eq_true] at H
              have H' := Aside0.mk H
              clear H ca0_ ca1_
              go_wp2
              go_meet
              case rel => exact ⟨_, _, rfl, H', ⟨by have := HJ8.out; have := HJ23.out; first | omega | exact Nat.le_refl _⟩, ⟨by repeat (first | (with_reducible first | exact HB.out | apply below_alloc | apply pw_below_drewN | apply below_drew1) | exact HB.out)⟩⟩
            ·have fa1_ : decide (t102 < 1000000000) = false := decide_eq_false ca1_
             by_cases ca4_ : t112 = true
             ·subst ca4_
              by_cases ca5_ : t111 = t102
              ·have fa5_ : (t111 == t102) = true := beq_iff_eq.mpr ca5_
               have ga5_ : (t111 != t102) = false := bne_eq_false_iff_eq.mpr ca5_
               simp only [ge_iff_le, gt_iff_lt, ca0_, ca1_, ca5_, fa0_, fa1_, fa5_, ga5_, if_true, if_false, bne_self_eq_false, beq_self_eq_true, Bool.true_bne, Bool.false_bne, Bool.bne_true, Bool.bne_false, Bool.true_beq, Bool.false_beq, Bool.not_true, Bool.not_false, reduceIte, reduceCtorEq, Bool.false_eq_true] at H
               have H' := Aside0.mk H
               clear H ca0_ ca1_ ca5_
               go_wp2
               go_meet
               case rel => exact ⟨_, _, rfl, H', ⟨by have := HJ8.out; have := HJ23.out; first | omega | exact Nat.le_refl _⟩, ⟨by repeat (first | (with_reducible first | exact HB.out | apply below_alloc | apply pw_below_drewN | apply below_drew1) | exact HB.out)⟩⟩
              ·have fa5_ : (t111 == t102) = false := beq_eq_false_iff_ne.mpr ca5_
               have ga5_ : (t111 != t102) = true := bne_iff_ne.mpr ca5_
               simp only [ge_iff_le, gt_iff_lt, ca0_, ca1_, ca5_, fa0_, fa1_, fa5_, ga5_, if_true, if_false, bne_self_eq_false, beq_self_eq_true, Bool.true_bne, Bool.false_bne, Bool.bne_true, Bool.bne_false, Bool.true_beq, Bool.false_beq, Bool.not_true, Bool.not_false, reduceIte, reduceCtorEq, Bool.false_eq_true] at H
               have H' := Aside0.mk H
               clear H ca0_ ca1_ ca5_
               go_wp2
               go_meet
               case rel => exact ⟨_, _, rfl, H', ⟨by have := HJ8.out; have := HJ23.out; first | omega | exact Nat.le_refl _⟩, ⟨by repeat (first | (with_reducible first | exact HB.out | apply below_alloc | apply pw_below_drewN | apply below_drew1) | exact HB.out)⟩⟩
             ·replace ca4_ := Bool.eq_false_iff.mpr ca4_
              subst ca4_
              simp only [ge_iff_le, gt_iff_lt, ca0_, ca1_, fa0_, fa1_, if_true, if_false, bne_self_eq_false, beq_self_eq_true, Bool.true_bne, Bool.false_bne, Bool.bne_true, Bool.bne_false, Bool.true_beq, Bool.false_beq, Bool.not_true, Bool.not_false, reduceIte, reduceCtorEq, Bool.false_eq_true] at H
              have H' := Aside0.mk H
              clear H ca0_ ca1_
              go_wp2
              go_meet
              case rel => exact ⟨_, _, rfl, H', ⟨by have := HJ8.out; have := HJ23.out; first | omega | exact Nat.le_refl _⟩, ⟨by repeat (first | (with_reducible first | exact HB.out | apply below_alloc | apply pw_below_drewN | apply below_drew1) | exact HB.out)⟩⟩
           ·have fa0_ : decide ((-1000000000) < t102) = false := decide_eq_false ca0_
            by_cases ca6_ : t112 = true
            ·subst ca6_
             by_cases ca7_ : t111 = t102
             ·have fa7_ : (t111 == t102) = true := beq_iff_eq.mpr ca7_
              have ga7_ : (t111 != t102) = false := bne_eq_false_iff_eq.mpr ca7_
              simp only [ge_iff_le, gt_iff_lt, ca0_, ca7_, fa0_, fa7_, ga7_, if_true, if_false, bne_self_eq_false, beq_self_eq_true, Bool.true_bne, Bool.false_bne, Bool.bne_true, Bool.bne_false, Bool.true_beq, Bool.false_beq, Bool.not_true, Bool.not_false, reduceIte, reduceCtorEq, Bool.false_eq_true] at H
              have H' := Aside0.mk H
              clear H ca0_ ca7_
              go_wp2
              go_meet
              case rel => exact ⟨_, _, rfl, H', ⟨by have := HJ8.out; have := HJ23.out; first | omega | exact Nat.le_refl _⟩, ⟨by repeat (first | (with_reducible first | exact HB.out | apply below_alloc | apply pw_below_drewN | apply below_drew1) | exact HB.out)⟩⟩
             ·have fa7_ : (t111 == t102) = false := beq_eq_false_iff_ne.mpr ca7_
              have ga7_ : (t111 != t102) = true := bne_iff_ne.mpr ca7_
              simp only [ge_iff_le, gt_iff_lt, ca0_, ca7_, fa0_, fa7_, ga7_, if_true, if_false, bne_self_eq_false, beq_self_eq_true, Bool.true_bne, Bool.false_bne, Bool.bne_true, Bool.bne_false, Bool.true_beq, Bool.false_beq, Bool.not_true, Bool.not_false, reduceIte, reduceCtorEq, Bool.false_eq_true] at H
              have H' := Aside0.mk H
              clear H ca0_ ca7_
              go_wp2
              go_meet
              case rel => exact ⟨_, _, rfl, H', ⟨by have := HJ8.out; have := HJ23.out; first | omega | exact Nat.le_refl _⟩, ⟨by repeat (first | (with_reducible first | exact HB.out | apply below_alloc | apply pw_below_drewN | apply below_drew1) | exact HB.out)⟩⟩
            ·replace ca6_ := Bool.eq_false_iff.mpr ca6_
             subst ca6_
             simp only [ge_iff_le, gt_iff_lt, ca0_, fa0_, if_true, if_false, bne_self_eq_false, beq_self_eq_true, Bool.true_bne, Bool.false_bne, Bool.bne_true, Bool.bne_false, Bool.true_beq, Bool.false_beq, Bool.not_true, Bool.not_false, reduceIte, reduceCtorEq, Bool.false_eq_true] at H
             have H' := Aside0.mk H
             clear H ca0_
             go_wp2
             go_meet
             case rel => exact ⟨_, _, rfl, H', ⟨by have := HJ8.out; have := HJ23.out; first | omega | exact Nat.le_refl _⟩, ⟨by repeat (first | (with_reducible first | exact HB.out | apply below_alloc | apply pw_below_drewN | apply below_drew1) | exact HB.out)⟩⟩
          case rest =>
           clear HC35
           try clear c1
           try clear c2
           try clear p2
           try clear c3
           try clear c4
           try clear c7
           try clear c7b0
           try clear c7b1
           try clear c7b2
           try clear c13
           try clear c13b0
           try clear c14
           try clear c14b0
           try clear c14b1
           try clear c14b2
           try clear c15
           try clear c15b0
           try clear c15b1
           try clear c16
           try clear c16b0
           try clear c16b1
           try clear c17
           try clear c17b0
           try clear c17b1
           try clear c17b2
           try clear c18
           try clear c18b0
           try clear c18b1
           try clear c19
           try clear c19b0
           try clear c19b1
           try clear c20
           try clear c21
           try clear c22
           try clear c22b0
           try clear c22b1
           try clear c22b2
           try clear c26
           try clear c26b0
           try clear c26b1
           try clear c27
           try clear c27b0
           try clear c28
           try clear c29
           try clear c29b0
           try clear c29b1
           try clear c30
           try clear c30b0
           try clear c30b1
           try clear c31
           try clear c31b0
           try clear c32
           try clear c38
           try clear c38b0
           try clear c39
           try clear c39b0
           try clear c39b1
           try clear c39b2
           try clear c40
           try clear c41
           try clear c41b0
           try clear c41b1
           try clear c41b2
           try clear c42
           try clear p2
           obtain ⟨kq, x113_34, rfl, HA, HJ34, HB⟩ := hcut
           cases kq with
           | zero => exact absurd HA.out (by simp [laws_FnNumbers.j2])
           | succ kj34 =>
            have H := HA.out
            clear HA
            simp only [laws_FnNumbers.j2] at H
            by_cases c43 : x113_34 = true
            ·subst c43
             rw [if_pos rfl] at H
             obtain rfl := Option.some.inj H
             go_wp2
             go_ret
             exact ⟨by first | rfl | (simp [errW_none, errW_some] <;> rfl) | (simp [*, errW_none, errW_some] <;> rfl), bq⟩
            ·replace c43 := Bool.eq_false_iff.mpr c43
             subst c43
             rw [if_neg (show ¬ (false = true) by decide)] at H
             replace H := Option.bind_eq_some_iff.mp H
             obtain ⟨t113, A440, H⟩ := H
             try dsimp only at H
             have A44 := Aside0.mk A440
             clear A440
             replace H := Option.bind_eq_some_iff.mp H
             obtain ⟨⟨t114, t115⟩, A450, H⟩ := H
             try dsimp only at H
             have A45 := Aside0.mk A450
             clear A450
             replace H := Option.bind_eq_some_iff.mp H
             obtain ⟨t116, A460, H⟩ := H
             try dsimp only at H
             have A46 := Aside0.mk A460
             clear A460
             replace H := Option.bind_eq_some_iff.mp H
             obtain ⟨⟨t117, t118⟩, A470, H⟩ := H
             try dsimp only at H
             have A47 := Aside0.mk A470
             clear A470
             by_cases c48 : t115 = true
             ·subst c48
              rw [if_pos rfl] at H
              by_cases c49 : t114.toList = t103.toList
              ·rw [if_pos c49] at H
               have c49b0 : (t114.toList == t103.toList) = true := beq_iff_eq.mpr c49
               have c49b1 : (t114.toList != t103.toList) = false := bne_eq_false_iff_eq.mpr c49
               clear c49
               by_cases c50 : t118 = 0
               ·rw [if_pos c50] at H
                have c50b0 : (t118 == 0) = true := beq_iff_eq.mpr c50
                have c50b1 : (t118 != 0) = false := bne_eq_false_iff_eq.mpr c50
                clear c50
                obtain rfl := Option.some.inj H
                go_wp2_with (first | ((with_reducible refine gate_callee (f := 23) rfl ?_); refine goesL_ (some 116) rfl rfl Tryd.func23 (by kernel_rfl) rfl #[.string t103] rfl am ?_; (with_reducible refine (impl_Hex.calls kj34 t103 t113 _ A44.out).mono ?_); rintro e w51 ⟨rfl, hb⟩; refine ⟨_, rfl, ?_⟩; have n0_ := Aside0.mk (below_step bq hb); clear HB; have HB := n0_; clear n0_; (try clear hb); (try clear hb2); (try clear hk); (try clear hi)) | ((with_reducible refine gate_callee (f := 22) rfl ?_); refine goesL_ (some 117) rfl rfl Tryd.func22 (by kernel_rfl) rfl #[.string t113] rfl am ?_; (with_reducible refine (impl_Unhex.calls kj34 t113 t114 true _ A45.out).mono ?_); rintro e w52 ⟨rfl, hb⟩; refine ⟨_, rfl, ?_⟩; have n0_ := Aside0.mk (below_step bq hb); clear HB; have HB := n0_; clear n0_; (try clear hb); (try clear hb2); (try clear hk); (try clear hi)) | ((with_reducible refine gate_callee (f := 24) rfl ?_); refine goesL_ (some 122) rfl rfl Tryd.func24 (by kernel_rfl) rfl #[.slice A0 l0.length c0] rfl am ?_; (with_reducible refine (spec_DrawReadVar.calls kj34 _ _ l0 t116 _ ?side1 ?side2 A46.out).mono ?_); (case side1 => repeat (first | exact (Kd.C_below HR0.out HB.out) | (with_reducible refine Kd.C_alloc ?_ _) | (with_reducible refine Kd.C_drewN ?_ _) | (with_reducible refine Kd.C_drew ?_))); (case side2 => exact HC0.out); rintro e w53 ⟨rfl, hb⟩; refine ⟨_, rfl, ?_⟩; have n0_ := Aside0.mk (below_step bq hb); clear HB; have HB := n0_; clear n0_; (try clear hb); (try clear hb2); (try clear hk); (try clear hi)) | ((with_reducible refine gate_callee (f := 17) rfl ?_); refine goesL_ (some 123) rfl rfl Tryd.func17 (by kernel_rfl) rfl #[.string t116] rfl am ?_; (with_reducible refine (impl_ReadVar.calls kj34 t116 t117 t118 _ A47.out).mono ?_); rintro e w' ⟨rfl, ⟨nd, rfl⟩⟩; refine ⟨_, rfl, ?_⟩))
                go_ret
                exact ⟨by first | rfl | (simp [errW_none, errW_some] <;> rfl) | (simp [*, errW_none, errW_some] <;> rfl), bq⟩
               ·rw [if_neg c50] at H
                have c50b0 : (t118 == 0) = false := beq_eq_false_iff_ne.mpr c50
                have c50b1 : (t118 != 0) = true := bne_iff_ne.mpr c50
                by_cases c54 : t118 > 0
                ·rw [if_pos c54] at H
                 have c54b0 : decide (0 < t118) = true := decide_eq_true c54
                 clear c54
                 replace H := Option.bind_eq_some_iff.mp H
                 obtain ⟨t119, A550, H⟩ := H
                 try dsimp only at H
                 have A55 := Aside0.mk A550
                 clear A550
                 by_cases c56 : t118 ≤ (t119.size : Int)
                 ·rw [if_pos c56] at H
                  have c56b0 : decide (t118 ≤ (t119.size : Int)) = true := decide_eq_true c56
                  clear c56
                  replace H := Option.bind_eq_some_iff.mp H
                  obtain ⟨t120, A570, H⟩ := H
                  try dsimp only at H
                  have A57 := Aside0.mk A570
                  clear A570
                  replace H := Option.bind_eq_some_iff.mp H
                  obtain ⟨t121, A580, H⟩ := H
                  try dsimp only at H
                  have A58 := Aside0.mk A580
                  have e119 : t119 = t121 := Option.some.inj (A55.out.symm.trans A58.out)
                  clear A580
                  by_cases c59 : 0 ≤ t118
                  ·rw [if_pos c59] at H
                   have c59b0 := eq_true c59
                   have c59b1 : decide (0 ≤ t118) = true := decide_eq_true c59
                   clear c59
                   by_cases c60 : t118 ≤ (t121.size : Int)
                   ·rw [if_pos c60] at H
                    have c60b0 := eq_true c60
                    have c60b1 : decide (t118 ≤ (t121.size : Int)) = true := decide_eq_true c60
                    clear c60
                    obtain rfl := Option.some.inj H
                    go_wp2_with (first | ((with_reducible refine gate_callee (f := 23) rfl ?_); refine goesL_ (some 116) rfl rfl Tryd.func23 (by kernel_rfl) rfl #[.string t103] rfl am ?_; (with_reducible refine (impl_Hex.calls kj34 t103 t113 _ A44.out).mono ?_); rintro e w61 ⟨rfl, hb⟩; refine ⟨_, rfl, ?_⟩; have n0_ := Aside0.mk (below_step bq hb); clear HB; have HB := n0_; clear n0_; (try clear hb); (try clear hb2); (try clear hk); (try clear hi)) | ((with_reducible refine gate_callee (f := 22) rfl ?_); refine goesL_ (some 117) rfl rfl Tryd.func22 (by kernel_rfl) rfl #[.string t113] rfl am ?_; (with_reducible refine (impl_Unhex.calls kj34 t113 t114 true _ A45.out).mono ?_); rintro e w62 ⟨rfl, hb⟩; refine ⟨_, rfl, ?_⟩; have n0_ := Aside0.mk (below_step bq hb); clear HB; have HB := n0_; clear n0_; (try clear hb); (try clear hb2); (try clear hk); (try clear hi)) | ((with_reducible refine gate_callee (f := 24) rfl ?_); refine goesL_ (some 122) rfl rfl Tryd.func24 (by kernel_rfl) rfl #[.slice A0 l0.length c0] rfl am ?_; (with_reducible refine (spec_DrawReadVar.calls kj34 _ _ l0 t116 _ ?side1 ?side2 A46.out).mono ?_); (case side1 => repeat (first | exact (Kd.C_below HR0.out HB.out) | (with_reducible refine Kd.C_alloc ?_ _) | (with_reducible refine Kd.C_drewN ?_ _) | (with_reducible refine Kd.C_drew ?_))); (case side2 => exact HC0.out); rintro e w63 ⟨rfl, hb⟩; refine ⟨_, rfl, ?_⟩; have n0_ := Aside0.mk (below_step bq hb); clear HB; have HB := n0_; clear n0_; (try clear hb); (try clear hb2); (try clear hk); (try clear hi)) | ((with_reducible refine gate_callee (f := 17) rfl ?_); refine goesL_ (some 123) rfl rfl Tryd.func17 (by kernel_rfl) rfl #[.string t116] rfl am ?_; (with_reducible refine (impl_ReadVar.calls kj34 t116 t117 t118 _ A47.out).mono ?_); rintro e w' ⟨rfl, ⟨nd, rfl⟩⟩; refine ⟨_, rfl, ?_⟩) | (go_at_call 24; (with_reducible refine (spec_DrawReadVar.calls kj34 _ _ l0 t119 _ ?side1 ?side2 A55.out).mono ?_); (case side1 => repeat (first | exact (Kd.C_below HR0.out bq) | (with_reducible refine Kd.C_alloc ?_ _) | (with_reducible refine Kd.C_drewN ?_ _) | (with_reducible refine Kd.C_drew ?_))); (case side2 => exact HC0.out); rintro e w64 ⟨rfl, hb⟩; have n0_ := Aside0.mk (below_step bq hb); clear HB; have HB := n0_; clear n0_; (try clear hb); (try clear hb2); (try clear hk); (try clear hi)) | (go_at_call 16; (with_reducible refine (impl_Var.calls kj34 t117 t120 _ A57.out).mono ?_); rintro e w65 ⟨rfl, hb⟩; have n0_ := Aside0.mk (below_step bq hb); clear HB; have HB := n0_; clear n0_; (try clear hb); (try clear hb2); (try clear hk); (try clear hi)) | (go_at_call 24; (with_reducible refine (spec_DrawReadVar.calls kj34 _ _ l0 t121 _ ?side1 ?side2 A58.out).mono ?_); (case side1 => repeat (first | exact (Kd.C_below HR0.out HB.out) | (with_reducible refine Kd.C_alloc ?_ _) | (with_reducible refine Kd.C_drewN ?_ _) | (with_reducible refine Kd.C_drew ?_))); (case side2 => exact HC0.out); rintro e w66 ⟨rfl, hb⟩; have n0_ := Aside0.mk (below_step bq hb); clear HB; have HB := n0_; clear n0_; (try clear hb); (try clear hb2); (try clear hk); (try clear hi)))
                    go_ret
                    exact ⟨by cases e119; rfl, bq⟩
                   ·rw [if_neg c60] at H
                    exact absurd H (by simp)
                  ·rw [if_neg c59] at H
                   exact absurd H (by simp)
                 ·rw [if_neg c56] at H
                  have c56b0 : decide (t118 ≤ (t119.size : Int)) = false := decide_eq_false c56
                  clear c56
                  obtain rfl := Option.some.inj H
                  go_wp2_with (first | ((with_reducible refine gate_callee (f := 23) rfl ?_); refine goesL_ (some 116) rfl rfl Tryd.func23 (by kernel_rfl) rfl #[.string t103] rfl am ?_; (with_reducible refine (impl_Hex.calls kj34 t103 t113 _ A44.out).mono ?_); rintro e w67 ⟨rfl, hb⟩; refine ⟨_, rfl, ?_⟩; have n0_ := Aside0.mk (below_step bq hb); clear HB; have HB := n0_; clear n0_; (try clear hb); (try clear hb2); (try clear hk); (try clear hi)) | ((with_reducible refine gate_callee (f := 22) rfl ?_); refine goesL_ (some 117) rfl rfl Tryd.func22 (by kernel_rfl) rfl #[.string t113] rfl am ?_; (with_reducible refine (impl_Unhex.calls kj34 t113 t114 true _ A45.out).mono ?_); rintro e w68 ⟨rfl, hb⟩; refine ⟨_, rfl, ?_⟩; have n0_ := Aside0.mk (below_step bq hb); clear HB; have HB := n0_; clear n0_; (try clear hb); (try clear hb2); (try clear hk); (try clear hi)) | ((with_reducible refine gate_callee (f := 24) rfl ?_); refine goesL_ (some 122) rfl rfl Tryd.func24 (by kernel_rfl) rfl #[.slice A0 l0.length c0] rfl am ?_; (with_reducible refine (spec_DrawReadVar.calls kj34 _ _ l0 t116 _ ?side1 ?side2 A46.out).mono ?_); (case side1 => repeat (first | exact (Kd.C_below HR0.out HB.out) | (with_reducible refine Kd.C_alloc ?_ _) | (with_reducible refine Kd.C_drewN ?_ _) | (with_reducible refine Kd.C_drew ?_))); (case side2 => exact HC0.out); rintro e w69 ⟨rfl, hb⟩; refine ⟨_, rfl, ?_⟩; have n0_ := Aside0.mk (below_step bq hb); clear HB; have HB := n0_; clear n0_; (try clear hb); (try clear hb2); (try clear hk); (try clear hi)) | ((with_reducible refine gate_callee (f := 17) rfl ?_); refine goesL_ (some 123) rfl rfl Tryd.func17 (by kernel_rfl) rfl #[.string t116] rfl am ?_; (with_reducible refine (impl_ReadVar.calls kj34 t116 t117 t118 _ A47.out).mono ?_); rintro e w' ⟨rfl, ⟨nd, rfl⟩⟩; refine ⟨_, rfl, ?_⟩) | (go_at_call 24; (with_reducible refine (spec_DrawReadVar.calls kj34 _ _ l0 t119 _ ?side1 ?side2 A55.out).mono ?_); (case side1 => repeat (first | exact (Kd.C_below HR0.out bq) | (with_reducible refine Kd.C_alloc ?_ _) | (with_reducible refine Kd.C_drewN ?_ _) | (with_reducible refine Kd.C_drew ?_))); (case side2 => exact HC0.out); rintro e w70 ⟨rfl, hb⟩; have n0_ := Aside0.mk (below_step bq hb); clear HB; have HB := n0_; clear n0_; (try clear hb); (try clear hb2); (try clear hk); (try clear hi)))
                  go_ret
                  exact ⟨by first | rfl | (simp [errW_none, errW_some] <;> rfl) | (simp [*, errW_none, errW_some] <;> rfl), bq⟩
                ·rw [if_neg c54] at H
                 have c54b0 : decide (0 < t118) = false := decide_eq_false c54
                 clear c54
                 obtain rfl := Option.some.inj H
                 go_wp2_with (first | ((with_reducible refine gate_callee (f := 23) rfl ?_); refine goesL_ (some 116) rfl rfl Tryd.func23 (by kernel_rfl) rfl #[.string t103] rfl am ?_; (with_reducible refine (impl_Hex.calls kj34 t103 t113 _ A44.out).mono ?_); rintro e w71 ⟨rfl, hb⟩; refine ⟨_, rfl, ?_⟩; have n0_ := Aside0.mk (below_step bq hb); clear HB; have HB := n0_; clear n0_; (try clear hb); (try clear hb2); (try clear hk); (try clear hi)) | ((with_reducible refine gate_callee (f := 22) rfl ?_); refine goesL_ (some 117) rfl rfl Tryd.func22 (by kernel_rfl) rfl #[.string t113] rfl am ?_; (with_reducible refine (impl_Unhex.calls kj34 t113 t114 true _ A45.out).mono ?_); rintro e w72 ⟨rfl, hb⟩; refine ⟨_, rfl, ?_⟩; have n0_ := Aside0.mk (below_step bq hb); clear HB; have HB := n0_; clear n0_; (try clear hb); (try clear hb2); (try clear hk); (try clear hi)) | ((with_reducible refine gate_callee (f := 24) rfl ?_); refine goesL_ (some 122) rfl rfl Tryd.func24 (by kernel_rfl) rfl #[.slice A0 l0.length c0] rfl am ?_; (with_reducible refine (spec_DrawReadVar.calls kj34 _ _ l0 t116 _ ?side1 ?side2 A46.out).mono ?_); (case side1 => repeat (first | exact (Kd.C_below HR0.out HB.out) | (with_reducible refine Kd.C_alloc ?_ _) | (with_reducible refine Kd.C_drewN ?_ _) | (with_reducible refine Kd.C_drew ?_))); (case side2 => exact HC0.out); rintro e w73 ⟨rfl, hb⟩; refine ⟨_, rfl, ?_⟩; have n0_ := Aside0.mk (below_step bq hb); clear HB; have HB := n0_; clear n0_; (try clear hb); (try clear hb2); (try clear hk); (try clear hi)) | ((with_reducible refine gate_callee (f := 17) rfl ?_); refine goesL_ (some 123) rfl rfl Tryd.func17 (by kernel_rfl) rfl #[.string t116] rfl am ?_; (with_reducible refine (impl_ReadVar.calls kj34 t116 t117 t118 _ A47.out).mono ?_); rintro e w' ⟨rfl, ⟨nd, rfl⟩⟩; refine ⟨_, rfl, ?_⟩))
                 go_ret
                 exact ⟨by first | rfl | (simp [errW_none, errW_some] <;> rfl) | (simp [*, errW_none, errW_some] <;> rfl), bq⟩
              ·rw [if_neg c49] at H
               have c49b0 : (t114.toList == t103.toList) = false := beq_eq_false_iff_ne.mpr c49
               have c49b1 : (t114.toList != t103.toList) = true := bne_iff_ne.mpr c49
               obtain rfl := Option.some.inj H
               go_wp2_with (first | ((with_reducible refine gate_callee (f := 23) rfl ?_); refine goesL_ (some 116) rfl rfl Tryd.func23 (by kernel_rfl) rfl #[.string t103] rfl am ?_; (with_reducible refine (impl_Hex.calls kj34 t103 t113 _ A44.out).mono ?_); rintro e w74 ⟨rfl, hb⟩; refine ⟨_, rfl, ?_⟩; have n0_ := Aside0.mk (below_step bq hb); clear HB; have HB := n0_; clear n0_; (try clear hb); (try clear hb2); (try clear hk); (try clear hi)) | ((with_reducible refine gate_callee (f := 22) rfl ?_); refine goesL_ (some 117) rfl rfl Tryd.func22 (by kernel_rfl) rfl #[.string t113] rfl am ?_; (with_reducible refine (impl_Unhex.calls kj34 t113 t114 true _ A45.out).mono ?_); rintro e w75 ⟨rfl, hb⟩; refine ⟨_, rfl, ?_⟩; have n0_ := Aside0.mk (below_step bq hb); clear HB; have HB := n0_; clear n0_; (try clear hb); (try clear hb2); (try clear hk); (try clear hi)) | ((with_reducible refine gate_callee (f := 24) rfl ?_); refine goesL_ (some 122) rfl rfl Tryd.func24 (by kernel_rfl) rfl #[.slice A0 l0.length c0] rfl am ?_; (with_reducible refine (spec_DrawReadVar.calls kj34 _ _ l0 t116 _ ?side1 ?side2 A46.out).mono ?_); (case side1 => repeat (first | exact (Kd.C_below HR0.out HB.out) | (with_reducible refine Kd.C_alloc ?_ _) | (with_reducible refine Kd.C_drewN ?_ _) | (with_reducible refine Kd.C_drew ?_))); (case side2 => exact HC0.out); rintro e w76 ⟨rfl, hb⟩; refine ⟨_, rfl, ?_⟩; have n0_ := Aside0.mk (below_step bq hb); clear HB; have HB := n0_; clear n0_; (try clear hb); (try clear hb2); (try clear hk); (try clear hi)) | ((with_reducible refine gate_callee (f := 17) rfl ?_); refine goesL_ (some 123) rfl rfl Tryd.func17 (by kernel_rfl) rfl #[.string t116] rfl am ?_; (with_reducible refine (impl_ReadVar.calls kj34 t116 t117 t118 _ A47.out).mono ?_); rintro e w' ⟨rfl, ⟨nd, rfl⟩⟩; refine ⟨_, rfl, ?_⟩))
               go_ret
               exact ⟨by first | rfl | (simp [errW_none, errW_some] <;> rfl) | (simp [*, errW_none, errW_some] <;> rfl), bq⟩
             ·replace c48 := Bool.eq_false_iff.mpr c48
              subst c48
              rw [if_neg (show ¬ (false = true) by decide)] at H
              obtain rfl := Option.some.inj H
              go_wp2_with (first | ((with_reducible refine gate_callee (f := 23) rfl ?_); refine goesL_ (some 116) rfl rfl Tryd.func23 (by kernel_rfl) rfl #[.string t103] rfl am ?_; (with_reducible refine (impl_Hex.calls kj34 t103 t113 _ A44.out).mono ?_); rintro e w77 ⟨rfl, hb⟩; refine ⟨_, rfl, ?_⟩; have n0_ := Aside0.mk (below_step bq hb); clear HB; have HB := n0_; clear n0_; (try clear hb); (try clear hb2); (try clear hk); (try clear hi)) | ((with_reducible refine gate_callee (f := 22) rfl ?_); refine goesL_ (some 117) rfl rfl Tryd.func22 (by kernel_rfl) rfl #[.string t113] rfl am ?_; (with_reducible refine (impl_Unhex.calls kj34 t113 t114 false _ A45.out).mono ?_); rintro e w78 ⟨rfl, hb⟩; refine ⟨_, rfl, ?_⟩; have n0_ := Aside0.mk (below_step bq hb); clear HB; have HB := n0_; clear n0_; (try clear hb); (try clear hb2); (try clear hk); (try clear hi)) | ((with_reducible refine gate_callee (f := 24) rfl ?_); refine goesL_ (some 122) rfl rfl Tryd.func24 (by kernel_rfl) rfl #[.slice A0 l0.length c0] rfl am ?_; (with_reducible refine (spec_DrawReadVar.calls kj34 _ _ l0 t116 _ ?side1 ?side2 A46.out).mono ?_); (case side1 => repeat (first | exact (Kd.C_below HR0.out HB.out) | (with_reducible refine Kd.C_alloc ?_ _) | (with_reducible refine Kd.C_drewN ?_ _) | (with_reducible refine Kd.C_drew ?_))); (case side2 => exact HC0.out); rintro e w79 ⟨rfl, hb⟩; refine ⟨_, rfl, ?_⟩; have n0_ := Aside0.mk (below_step bq hb); clear HB; have HB := n0_; clear n0_; (try clear hb); (try clear hb2); (try clear hk); (try clear hi)) | ((with_reducible refine gate_callee (f := 17) rfl ?_); refine goesL_ (some 123) rfl rfl Tryd.func17 (by kernel_rfl) rfl #[.string t116] rfl am ?_; (with_reducible refine (impl_ReadVar.calls kj34 t116 t117 t118 _ A47.out).mono ?_); rintro e w' ⟨rfl, ⟨nd, rfl⟩⟩; refine ⟨_, rfl, ?_⟩))
              go_ret
              exact ⟨by first | rfl | (simp [errW_none, errW_some] <;> rfl) | (simp [*, errW_none, errW_some] <;> rfl), bq⟩
      ·rw [if_neg c22] at H
       exact absurd H (by simp)
  ·rw [if_neg c7] at H
   exact absurd H (by simp)

end Go.Proofs.YtjldfmkpdkhnnaaDoor.QL

namespace Go.Proofs.YtjldfmkpdkhnnaaDoor.QL
open Go.RowKit Go.Proofs.YtjldfmkpdkhnnaaDoorW.PrintWords Go.Proofs.YtjldfmkpdkhnnaaDoorW.PrintLast Go.Proofs.YtjldfmkpdkhnnaaDoorW.PrintMore Go.Proofs.YtjldfmkpdkhnnaaDoor.Aux Go.Proofs.YtjldfmkpdkhnnaaDoor.Dom Go.Proofs.YtjldfmkpdkhnnaaDoor.Ext Go.Proofs.YtjldfmkpdkhnnaaDoor.Glob
attribute [local go_sem] max2_int min2_int max_two min_two max_three min_three max_four min_four   -- for this text's walks alone
set_option linter.unusedVariables false
set_option linter.unusedSimpArgs false

/-! ### spec_l1Pick: function 69 -/
def spec_l1Pick.f (s0_0 : List Int) (s0_1 : Int) (s0_2 : Int) (l1 : List ByteArray) : Option (ByteArray × Int × Int) := (spec_l1Below.f s0_0 s0_1 s0_2 (l1.length : Int)).bind fun bt101 => (if 0 ≤ bt101.1 then (if bt101.1 < (l1.length : Int) then (some (rdOf ByteArray.empty l1 bt101.1, bt101.2.1, bt101.2.2)) else (none)) else (none))
set_option maxHeartbeats 8000000 in
set_option maxRecDepth 100000 in
theorem spec_l1Pick.calls (g : Nat) (s0_0 : List Int) (s0_1 : Int) (s0_2 : Int) (A1 : Option Addr) (c1 : Nat) (l1 : List ByteArray) (r1 : ByteArray) (r2 : Int) (r3 : Int) (w0 w : World) (hI : IsS110 w0 w g s0_0 s0_1 s0_2) (hB : Below w0.heap.size w0 w) (hr1 : Kd.C Kd.string w A1 l1.length l1) (hc1 : l1.length ≤ c1) (hf1 : ∀ ad, A1 = some ad → 0 < l1.length → ad.block ≠ g) (h : spec_l1Pick.f s0_0 s0_1 s0_2 l1 = some (r1, r2, r3)) :
  Calls Tryd.prog 69 #[.pointer (some ⟨g, 0, none⟩), .slice A1 l1.length c1] w fun e w' => e = .returned (.string r1) ∧ IsS110 w0 w' g s0_0 r2 r3 ∧ Below w0.heap.size w0 w' ∧ KeepBut w w' g none := by
 have HR1 := Aside0.mk hr1
 have HC1 := Aside0.mk hc1
 clear hr1 hc1
 have HI0 := Aside0.mk hI
 have HK := Aside0.mk (KeepBut.refl w g none)
 have HL := Aside0.mk hB.size
 clear hI
 have HW0 := Aside0.mk hB.size
 have HB := Aside0.mk hB
 clear hB
 have H : ((spec_l1Below.f s0_0 s0_1 s0_2 (l1.length : Int)).bind fun bt101 => (if 0 ≤ bt101.1 then (if bt101.1 < (l1.length : Int) then (some (rdOf ByteArray.empty l1 bt101.1, bt101.2.1, bt101.2.2)) else (none)) else (none))) = some (r1, r2, r3) := h
 clear h
 replace H := Option.bind_eq_some_iff.mp H
 obtain ⟨⟨t101, t102, t103⟩, A30, H⟩ := H
 try dsimp only at H
 have A3 := Aside0.mk A30
 clear A30
 by_cases c4 : 0 ≤ t101
 ·rw [if_pos c4] at H
  have c4b0 : decide (0 ≤ t101) = true := decide_eq_true c4
  clear c4
  by_cases c5 : t101 < (l1.length : Int)
  ·rw [if_pos c5] at H
   have c5b0 : decide (t101 < (l1.length : Int)) = true := decide_eq_true c5
   clear c5
   simp only [Option.some.injEq, Prod.mk.injEq] at H
   obtain ⟨rfl, rfl, rfl⟩ := H
   go_enter Tryd.func69, Tryd.ntmps69
   go_wp2_with (first | ((with_reducible refine gate_callee (f := 89) rfl ?_); refine goesL_ (some 9) rfl rfl Tryd.func89 (by kernel_rfl) rfl #[.pointer (some ⟨g, 0, none⟩), .int .i64 (l1.length : Int)] rfl am ?_; (with_reducible refine (spec_l1Below.calls g s0_0 s0_1 s0_2 (l1.length : Int) t101 t102 t103 w0 _ ?side1 ?side2 A3.out).mono ?_); (case side1 => repeat (first | (with_reducible first | exact HI0.out | apply IsS110.alloc | apply IsS110.drewN | apply IsS110.drew | apply IsS110.set_1 | apply IsS110.set_2) | exact HI0.out)); (case side2 => repeat (first | (with_reducible first | exact HB.out | apply below_alloc | apply pw_below_drewN | apply below_drew1 | refine below_set ?_ (IsS110.ge HI0.out)) | exact HB.out)); rintro e w6 ⟨rfl, hi, hb, hk⟩; refine ⟨_, rfl, ?_⟩; have n0_ := Aside0.mk (KeepBut.trans (by repeat (first | (with_reducible first | exact HK.out | apply KeepBut.set_ | apply keep_drewN | apply keep_drew | apply keep_alloc) | exact HK.out)) hk (.inl rfl)); have n1_ := Aside0.mk (hb); have n2_ := Aside0.mk (hi); clear HK; clear HB; clear HI0; have HK := n0_; have HB := n1_; have HI0 := n2_; clear n0_ n1_ n2_; (try clear hb); (try clear hb2); (try clear hk); (try clear hi); have p104 : 0 ≤ (t101 : Int) := of_decide_eq_true asm; have q104 : t101 < (l1.length : Int) := of_decide_eq_true asm; obtain ⟨ad104, e104, hx104_0⟩ := Kd.at_string HR1.out t101 p104 q104; cases e104; replace hx104_0 := keep_cell HK.out hx104_0 (by first | (rw [add_block]; exact hf1 _ rfl (by omega)) | exact hf1 _ rfl (by omega) | exact hf1 ad104 rfl (by omega)); replace p104 := eq_true p104; replace q104 := eq_true q104))
   go_ret
   exact ⟨by first | rfl | (simp [errW_none, errW_some] <;> rfl) | (simp [*, errW_none, errW_some] <;> rfl), by repeat (first | (with_reducible first | exact HI0.out | apply IsS110.alloc | apply IsS110.drewN | apply IsS110.drew | apply IsS110.set_1 | apply IsS110.set_2) | exact HI0.out), by repeat (first | (with_reducible first | exact HB.out | apply below_alloc | apply pw_below_drewN | apply below_drew1 | refine below_set ?_ (IsS110.ge HI0.out)) | exact HB.out), by repeat (first | (with_reducible first | exact HK.out | apply KeepBut.set_ | apply keep_drewN | apply keep_drew | apply keep_alloc) | exact HK.out)⟩
  ·rw [if_neg c5] at H
   exact absurd H (by simp)
 ·rw [if_neg c4] at H
  exact absurd H (by simp)

end Go.Proofs.YtjldfmkpdkhnnaaDoor.QL
