-- Out of Lean's own print of the program, by a program run in this session.
import Derived.Test.YtnbniafcpmlcnaaPVerboseLinesx0
namespace Go.Proofs.Ytnbniafcpmlcnaa.PVerboseLines
open Go.RowKit Go.Proofs.YtnbniafcpmlcnaaW.PrintWords Go.Proofs.YtnbniafcpmlcnaaW.PrintLast Go.Proofs.YtnbniafcpmlcnaaW.PrintMore
attribute [local go_sem] max2_int min2_int max_two min_two max_three min_three max_four min_four   -- for this text's walks alone
set_option linter.unusedVariables false
set_option linter.unusedSimpArgs false

/-! ### newelhelp_Digits: function 4 -/
def newelhelp_Digits.f : Nat → Int → Option (ByteArray)
  | 0, _ => none
  | k + 1, a0 => if a0 < 10 then (some (strOfNums (([(wrap64 (48 + a0)) % 256] : List Int)))) else ((newelhelp_Digits.f k (wrap64 (Int.tdiv a0 10))).bind fun t104 => ((some (([(wrap64 (48 + (Int.tmod a0 10))) % 256] : List Int) : List Int)).bind fun y105 => (if t104.size + (strOfNums y105).size ≤ 9223372036854775807 then (some (t104 ++ (strOfNums y105))) else (none))))
theorem newelhelp_Digits.mono_l : ∀ k, (∀ y0, LeO (newelhelp_Digits.f k y0) (newelhelp_Digits.f (k + 1) y0))
  | 0 => fun _ r h => by simp [newelhelp_Digits.f] at h
  | k + 1 => by
    have ih0 := newelhelp_Digits.mono_l k
    · intro y0
      unfold newelhelp_Digits.f
      repeat' first
      | (with_reducible exact ih0 _)
      | (with_reducible exact LeO.refl _)
      | (with_reducible exact LeO.none _)
      | (with_reducible refine LeO.ite ?_ ?_)
      | (with_reducible refine LeO.bind ?_ (fun _ => ?_))
      | exact ih0 _
      | exact LeO.none _
      | refine LeO.ite ?_ ?_
      | refine LeO.bind ?_ (fun _ => ?_)
theorem newelhelp_Digits.mono : ∀ a0 k, LeO (newelhelp_Digits.f k a0) (newelhelp_Digits.f (k + 1) a0) := by
  intro a0 k
  have ih0 := newelhelp_Digits.mono_l k
  exact ih0 a0
def newelhelp_Digits.T3 : Bool × List (List Nat × List Nat) := (true, [([], []), ([0], [0]), ([1], [1]), ([], []), ([3], [3]), ([4], [4]), ([5], [5]), ([6], [6]), ([7], [7]), ([2, 8], [2, 8]), ([9, 2, 0, 1, 2, 3, 4, 5, 6, 7, 8, 9], [9])])
def newelhelp_Digits.B3 : List Nat := [0, 1, 3, 0, 8, 24, 56, 120, 248, 511, 1023]
theorem newelhelp_Digits.tab3 : rtab .any (opsOf Try.f4 3) = newelhelp_Digits.T3 := by kernel_rfl
theorem newelhelp_Digits.bits3 : waitsOk newelhelp_Digits.T3.2 newelhelp_Digits.B3 = true := by kernel_rfl
set_option maxHeartbeats 8000000 in
set_option maxRecDepth 100000 in
theorem newelhelp_Digits.calls (k : Nat) : ∀ (a0 : Int) (r : ByteArray) (w : World) (h : newelhelp_Digits.f k a0 = some r),
    Calls Try.prog 4 #[.int .i64 a0] w fun e w' => e = .returned (.string r) ∧ Below w.heap.size w w' := by
  induction k using Nat.strongRecOn with
  | _ k ih =>
  intro a0 r w h
  cases k with
  | zero => exact absurd h (by simp [newelhelp_Digits.f])
  | succ k =>
  simp only [newelhelp_Digits.f] at h
  have HB := Aside0.mk (Below.refl w.heap.size w)
  have H : (if a0 < 10 then (some (strOfNums (([(wrap64 (48 + a0)) % 256] : List Int)))) else ((newelhelp_Digits.f k (wrap64 (Int.tdiv a0 10))).bind fun t104 => ((some (([(wrap64 (48 + (Int.tmod a0 10))) % 256] : List Int) : List Int)).bind fun y105 => (if t104.size + (strOfNums y105).size ≤ 9223372036854775807 then (some (t104 ++ (strOfNums y105))) else (none))))) = some r := h
  clear h
  by_cases c2 : a0 < 10
  · rw [if_pos c2] at H
    have c2b0 : decide (a0 < 10) = true := decide_eq_true c2
    clear c2
    obtain ⟨y101, hy101⟩ : ∃ y_ : List Int, y_ = (([(wrap64 (48 + a0)) % 256] : List Int)) := ⟨_, rfl⟩
    replace H : (some (strOfNums y101)) = some r := by first | (rw [hy101]; with_reducible exact H) | (have H2_ := (Option.bind_some _ _).symm.trans H; rw [hy101]; with_reducible exact H2_) | (have H2_ := (Option.bind_some _ _).symm.trans H; with_reducible exact H2_) | with_reducible exact H | (rw [hy101]; exact H) | exact H
    have Ny101 := Aside0.mk hy101
    clear hy101
    obtain rfl := Option.some.inj H
    go_enter Try.func4, Try.ntmps4
    go_wp2_with (first | ((with_reducible refine gate_dst (N := 8) rfl ?_); refine Kd.R_lit (Kd.int .u8) _ 5 ?hg (N := 8) ?hd (xs := ([(wrap64 (48 + a0)) % 256] : List Int)) (inner := [.int .u8 ((wrap64 (48 + a0)) % 256)]) (ok := fun _ => True) (okp := fun _ => True) ?hr ?hp (fun _ hk => hk) trivial (Below.refl _ _) (Nat.le_refl _) (by simp) ?_; (case hd => rfl); (case hg => rfl); (case hr => first | (go_simp; done) | (go_simp; rfl)); (case hp => exact (Reps.one (show Kd.M (Kd.int .u8) _ _ _ ((wrap64 (48 + a0)) % 256) [.int .u8 ((wrap64 (48 + a0)) % 256)] from rfl) (Reps.none _ _))); intro v102 w3 ho4 hb hg_ hnew_; clear hg_ hnew_; (first | rw [← Ny101.out] at ho4 | (simp only [Int.reduceToNat] at ho4; rw [← Ny101.out] at ho4)); have n0_ := Aside0.mk (Kd.R_lower ho4 (below_size (by repeat (first | (with_reducible first | exact HB.out | apply below_alloc | apply pw_below_drewN | apply below_drew1) | exact HB.out)))); have n1_ := Aside0.mk (below_step (by repeat (first | (with_reducible first | exact HB.out | apply below_alloc | apply pw_below_drewN | apply below_drew1) | exact HB.out)) hb); clear HB; have HO103 := n0_; have HB := n1_; clear n0_ n1_; clear hb ho4; have hcv5 := own_string (P := Try.prog) Try.underlying40 Try.underlying5 Try.underlying9 (Kd.own_of_R HO103.out)))
    go_ret
    exact ⟨by first | rfl | (simp [errW_none, errW_some] <;> rfl) | (simp [*, errW_none, errW_some] <;> rfl), by repeat (first | (with_reducible first | exact HB.out | apply below_alloc | apply pw_below_drewN | apply below_drew1) | exact HB.out)⟩
  · rw [if_neg c2] at H
    have c2b0 : decide (a0 < 10) = false := decide_eq_false c2
    clear c2
    replace H := Option.bind_eq_some_iff.mp H
    obtain ⟨t104, A60, H⟩ := H
    replace H : ((some (([(wrap64 (48 + (Int.tmod a0 10))) % 256] : List Int) : List Int)).bind fun y105 => (if t104.size + (strOfNums y105).size ≤ 9223372036854775807 then (some (t104 ++ (strOfNums y105))) else (none))) = some r := H
    have A6 := Aside0.mk A60
    clear A60
    obtain ⟨y105, hy105⟩ : ∃ y_ : List Int, y_ = (([(wrap64 (48 + (Int.tmod a0 10))) % 256] : List Int)) := ⟨_, rfl⟩
    replace H : (if t104.size + (strOfNums y105).size ≤ 9223372036854775807 then (some (t104 ++ (strOfNums y105))) else (none)) = some r := by first | (rw [hy105]; with_reducible exact H) | (have H2_ := (Option.bind_some _ _).symm.trans H; rw [hy105]; with_reducible exact H2_) | (have H2_ := (Option.bind_some _ _).symm.trans H; with_reducible exact H2_) | with_reducible exact H | (rw [hy105]; exact H) | exact H
    have Ny105 := Aside0.mk hy105
    clear hy105
    by_cases c7 : t104.size + (strOfNums y105).size ≤ 9223372036854775807
    · rw [if_pos c7] at H
      have c7b0 := eq_true c7
      have c7b1 : decide (t104.size + (strOfNums y105).size ≤ 9223372036854775807) = true := decide_eq_true c7
      try have c7b2 : (9223372036854775807 < t104.size + (strOfNums y105).size) = False := eq_false (Nat.not_lt.2 c7)
      try (have c7b3 := c7b2; simp only [ByteArray.size_append, ByteArray.size_mk', List.size_toArray, List.length_cons, List.length_nil, Nat.zero_add] at c7b3)
      obtain rfl := Option.some.inj H
      go_enter Try.func4, Try.ntmps4
      try go_wp2
      have n0_ := Aside0.mk (below_drew1 HB.out)
      clear HB
      have HB := n0_
      clear n0_
      refine start_ (n := 11) (S := fun w' => True) (ds := []) #[false, false, false, false, false, false, false, false, false, false, false] (by kernel_rfl) rfl rfl trivial (fun hHeld => ?_); refine with_tabW newelhelp_Digits.tab3 newelhelp_Digits.bits3 (fun HT_ HW_ => ?_)
      generalize w.drew = w8 at HB hHeld ⊢
      refine pure_ (i := 0) (N := some 10) (v := ?_) (a' := ?_) #[true, false, false, false, false, false, false, false, false, false, false] rfl rfl (any_of HT_.out (by kernel_rfl)) (fun _ _ _ h => h) (Or.inl ⟨by rfl, ?_⟩) ?_ ?_
      rotate_left
      · intro w'
        go_simp
        with_reducible rfl
      rotate_left
      · simp only [Act.put, List.setIfInBounds_toArray, List.set_cons_zero, List.set_cons_succ, i64_w, i32_w]
        rfl
      refine pure_ (i := 1) (N := some 11) (v := ?_) (a' := ?_) #[true, true, false, false, false, false, false, false, false, false, false] rfl rfl (any_of HT_.out (by kernel_rfl)) (fun _ _ _ h => h) (Or.inl ⟨by rfl, ?_⟩) ?_ ?_
      rotate_left
      · intro w'
        go_simp
        with_reducible rfl
      rotate_left
      · simp only [Act.put, List.setIfInBounds_toArray, List.set_cons_zero, List.set_cons_succ, i64_w, i32_w]
        rfl
      refine pure_ (i := 3) (N := some 13) (v := ?_) (a' := ?_) #[true, true, false, true, false, false, false, false, false, false, false] rfl rfl (any_of HT_.out (by kernel_rfl)) (fun _ _ _ h => h) (Or.inl ⟨by rfl, ?_⟩) ?_ ?_
      rotate_left
      · intro w'
        go_simp
        with_reducible rfl
      rotate_left
      · simp only [Act.put, List.setIfInBounds_toArray, List.set_cons_zero, List.set_cons_succ, i64_w, i32_w]
        rfl
      refine pure_ (i := 4) (N := some 14) (v := ?_) (a' := ?_) #[true, true, false, true, true, false, false, false, false, false, false] rfl rfl (any_of HT_.out (by kernel_rfl)) (fun _ _ _ h => h) (Or.inl ⟨by rfl, ?_⟩) ?_ ?_
      rotate_left
      · intro w'
        go_simp
        with_reducible rfl
      rotate_left
      · simp only [Act.put, List.setIfInBounds_toArray, List.set_cons_zero, List.set_cons_succ, i64_w, i32_w]
        rfl
      refine pure_ (i := 5) (N := some 15) (v := ?_) (a' := ?_) #[true, true, false, true, true, true, false, false, false, false, false] rfl rfl (any_of HT_.out (by kernel_rfl)) (fun _ _ _ h => h) (Or.inl ⟨by rfl, ?_⟩) ?_ ?_
      rotate_left
      · intro w'
        go_simp
        with_reducible rfl
      rotate_left
      · simp only [Act.put, List.setIfInBounds_toArray, List.set_cons_zero, List.set_cons_succ, i64_w, i32_w]
        rfl
      refine pure_ (i := 6) (N := some 16) (v := ?_) (a' := ?_) #[true, true, false, true, true, true, true, false, false, false, false] rfl rfl (any_of HT_.out (by kernel_rfl)) (fun _ _ _ h => h) (Or.inl ⟨by rfl, ?_⟩) ?_ ?_
      rotate_left
      · intro w'
        go_simp
        with_reducible rfl
      rotate_left
      · simp only [Act.put, List.setIfInBounds_toArray, List.set_cons_zero, List.set_cons_succ, i64_w, i32_w]
        rfl
      refine join_ (σ := Value) 2 #[true, true, true, true, true, true, true, true, true, false, false] (fun s_ => [(12, .string t104), (17, s_), (18, .string (strOfNums y105))]) (fun s_ w' => (Kd.R (Kd.int .u8) 5 w' w.heap.size (fun _ => True) s_ y105) ∧ (Below w.heap.size w w')) ?_ ?_
      rotate_left
      · intro hCont
        refine two_ (i := 2) (j := 7) (Ni := some 12) (Nj := some 17) #[true, true, true, true, true, true, true, false, false, false, false] #[true, true, false, true, true, true, true, true, false, false, false] rfl rfl rfl rfl (two_of HT_.out (by kernel_rfl)) (by decide) (by decide) (fun K hK => ?_) (fun K hK => ?_)
        · skip
          refine goes_ Try.func4 (by kernel_rfl) rfl #[.int .i64 (wrap64 (Int.tdiv a0 10))] (by rfl) rfl rfl (by (try simp only [List.map_toArray, List.map_cons, List.map_nil]); first | done | rfl | (simp only [List.length_drop, List.length_take]; rfl)) ?_
          with_reducible refine (ih k (by omega) (wrap64 (Int.tdiv a0 10)) t104 _ A6.out).mono ?_
          rintro e w9 ⟨rfl, hb⟩
          refine ⟨_, rfl, ?_⟩
          have n0_ := Aside0.mk (below_step (by repeat (first | (with_reducible first | exact HB.out | apply below_alloc | apply pw_below_drewN | apply below_drew1) | exact HB.out)) hb)
          clear HB
          have HB := n0_
          clear n0_
          (try clear hb)
          (try clear hb2)
          (try clear hk)
          (try clear hi)
          refine hK.out _ _ trivial (fun hHeld => ?_)
          clear hK K
          refine norm_ (a' := ?_) ?_ ?_
          rotate_left
          · show Act.put _ (some 12) _ = _
            simp only [Act.put, List.setIfInBounds_toArray, List.set_cons_zero, List.set_cons_succ, i64_w, i32_w]
            rfl
          refine one_ (i := 7) (N := some 17) #[true, true, true, true, true, true, true, true, false, false, false] rfl rfl (one_of HT_.out (by kernel_rfl)) (by decide) (fun K hK => ?_)
          refine Kd.R_lit_step (Kd.int .u8) _ 5 ?hg (N := 17) ?hd (xs := ([(wrap64 (48 + (Int.tmod a0 10))) % 256] : List Int)) (inner := [.int .u8 ((wrap64 (48 + (Int.tmod a0 10))) % 256)]) (ok := fun _ => True) (okp := fun _ => True) ?hr ?hp (fun _ hk => hk) trivial (Below.refl _ _) (Nat.le_refl _) (by simp) ?_; (case hd => rfl); (case hg => rfl); (case hr => first | (go_simp; done) | (go_simp; rfl)); (case hp => exact (Reps.one (show Kd.M (Kd.int .u8) _ _ _ ((wrap64 (48 + (Int.tmod a0 10))) % 256) [.int .u8 ((wrap64 (48 + (Int.tmod a0 10))) % 256)] from rfl) (Reps.none _ _)))
          intro v106 w10 ho11 hb hg_ hnew_
          clear hg_ hnew_
          (first | rw [← Ny105.out] at ho11 | (simp only [Int.reduceToNat] at ho11; rw [← Ny105.out] at ho11))
          have n0_ := Aside0.mk (Kd.R_lower ho11 (below_size (by repeat (first | (with_reducible first | exact HB.out | apply below_alloc | apply pw_below_drewN | apply below_drew1) | exact HB.out))))
          have n1_ := Aside0.mk (below_step (by repeat (first | (with_reducible first | exact HB.out | apply below_alloc | apply pw_below_drewN | apply below_drew1) | exact HB.out)) hb)
          clear HB
          have HO107 := n0_
          have HB := n1_
          clear n0_ n1_
          clear hb ho11
          refine hK.out _ _ trivial (fun hHeld => ?_)
          clear hK K
          refine norm_ (a' := ?_) ?_ ?_
          rotate_left
          · show Act.put _ (some 17) _ = _
            simp only [Act.put, List.setIfInBounds_toArray, List.set_cons_zero, List.set_cons_succ, i64_w, i32_w]
            rfl
          refine one_ (i := 8) (N := some 18) #[true, true, true, true, true, true, true, true, true, false, false] rfl rfl (one_of HT_.out (by kernel_rfl)) (by decide) (fun K hK => ?_)
          have hcv12 := own_string (P := Try.prog) Try.underlying40 Try.underlying5 Try.underlying9 (Kd.own_of_R HO107.out)
          refine value_ (w1 := ?_) (v := ?_) (by rfl) rfl ?_ ?_
          rotate_left 2
          · go_simp
            constructor
            · rfl
            · rfl
          clear hcv12
          refine hK.out _ _ trivial (fun hHeld => ?_)
          clear hK K
          refine norm_ (a' := ?_) ?_ ?_
          rotate_left
          · show Act.put _ (some 18) _ = _
            simp only [Act.put, List.setIfInBounds_toArray, List.set_cons_zero, List.set_cons_succ, i64_w, i32_w]
            rfl
          exact norm_ (by simp only [putAll, Act.put, List.setIfInBounds_toArray, List.set_cons_zero, List.set_cons_succ]) (hCont (v106) _ ⟨(by (with_reducible repeat (first | apply Kd.R_alloc | apply Kd.R_drewN | apply Kd.R_drew)); exact HO107.out), (by repeat (first | (with_reducible first | exact HB.out | apply below_alloc | apply pw_below_drewN | apply below_drew1) | exact HB.out))⟩)
        · skip
          refine Kd.R_lit_step (Kd.int .u8) _ 5 ?hg (N := 17) ?hd (xs := ([(wrap64 (48 + (Int.tmod a0 10))) % 256] : List Int)) (inner := [.int .u8 ((wrap64 (48 + (Int.tmod a0 10))) % 256)]) (ok := fun _ => True) (okp := fun _ => True) ?hr ?hp (fun _ hk => hk) trivial (Below.refl _ _) (Nat.le_refl _) (by simp) ?_; (case hd => rfl); (case hg => rfl); (case hr => first | (go_simp; done) | (go_simp; rfl)); (case hp => exact (Reps.one (show Kd.M (Kd.int .u8) _ _ _ ((wrap64 (48 + (Int.tmod a0 10))) % 256) [.int .u8 ((wrap64 (48 + (Int.tmod a0 10))) % 256)] from rfl) (Reps.none _ _)))
          intro v106 w9 ho10 hb hg_ hnew_
          clear hg_ hnew_
          (first | rw [← Ny105.out] at ho10 | (simp only [Int.reduceToNat] at ho10; rw [← Ny105.out] at ho10))
          have n0_ := Aside0.mk (Kd.R_lower ho10 (below_size (by repeat (first | (with_reducible first | exact HB.out | apply below_alloc | apply pw_below_drewN | apply below_drew1) | exact HB.out))))
          have n1_ := Aside0.mk (below_step (by repeat (first | (with_reducible first | exact HB.out | apply below_alloc | apply pw_below_drewN | apply below_drew1) | exact HB.out)) hb)
          clear HB
          have HO107 := n0_
          have HB := n1_
          clear n0_ n1_
          clear hb ho10
          refine hK.out _ _ trivial (fun hHeld => ?_)
          clear hK K
          refine norm_ (a' := ?_) ?_ ?_
          rotate_left
          · show Act.put _ (some 17) _ = _
            simp only [Act.put, List.setIfInBounds_toArray, List.set_cons_zero, List.set_cons_succ, i64_w, i32_w]
            rfl
          refine two_ (i := 2) (j := 8) (Ni := some 12) (Nj := some 18) #[true, true, true, true, true, true, true, true, false, false, false] #[true, true, false, true, true, true, true, true, true, false, false] rfl rfl rfl rfl (two_of HT_.out (by kernel_rfl)) (by decide) (by decide) (fun K hK => ?_) (fun K hK => ?_)
          · skip
            refine goes_ Try.func4 (by kernel_rfl) rfl #[.int .i64 (wrap64 (Int.tdiv a0 10))] (by rfl) rfl rfl (by (try simp only [List.map_toArray, List.map_cons, List.map_nil]); first | done | rfl | (simp only [List.length_drop, List.length_take]; rfl)) ?_
            with_reducible refine (ih k (by omega) (wrap64 (Int.tdiv a0 10)) t104 _ A6.out).mono ?_
            rintro e w11 ⟨rfl, hb⟩
            refine ⟨_, rfl, ?_⟩
            have n0_ := Aside0.mk (Kd.R_below (by (with_reducible repeat (first | apply Kd.R_alloc | apply Kd.R_drewN | apply Kd.R_drew)); exact HO107.out) hb)
            have n1_ := Aside0.mk (below_step (by repeat (first | (with_reducible first | exact HB.out | apply below_alloc | apply pw_below_drewN | apply below_drew1) | exact HB.out)) hb)
            clear HO107
            clear HB
            have HO107 := n0_
            have HB := n1_
            clear n0_ n1_
            (try clear hb)
            (try clear hb2)
            (try clear hk)
            (try clear hi)
            refine hK.out _ _ trivial (fun hHeld => ?_)
            clear hK K
            refine norm_ (a' := ?_) ?_ ?_
            rotate_left
            · show Act.put _ (some 12) _ = _
              simp only [Act.put, List.setIfInBounds_toArray, List.set_cons_zero, List.set_cons_succ, i64_w, i32_w]
              rfl
            refine one_ (i := 8) (N := some 18) #[true, true, true, true, true, true, true, true, true, false, false] rfl rfl (one_of HT_.out (by kernel_rfl)) (by decide) (fun K hK => ?_)
            have hcv12 := own_string (P := Try.prog) Try.underlying40 Try.underlying5 Try.underlying9 (Kd.own_of_R HO107.out)
            refine value_ (w1 := ?_) (v := ?_) (by rfl) rfl ?_ ?_
            rotate_left 2
            · go_simp
              constructor
              · rfl
              · rfl
            clear hcv12
            refine hK.out _ _ trivial (fun hHeld => ?_)
            clear hK K
            refine norm_ (a' := ?_) ?_ ?_
            rotate_left
            · show Act.put _ (some 18) _ = _
              simp only [Act.put, List.setIfInBounds_toArray, List.set_cons_zero, List.set_cons_succ, i64_w, i32_w]
              rfl
            exact norm_ (by simp only [putAll, Act.put, List.setIfInBounds_toArray, List.set_cons_zero, List.set_cons_succ]) (hCont (v106) _ ⟨(by (with_reducible repeat (first | apply Kd.R_alloc | apply Kd.R_drewN | apply Kd.R_drew)); exact HO107.out), (by repeat (first | (with_reducible first | exact HB.out | apply below_alloc | apply pw_below_drewN | apply below_drew1) | exact HB.out))⟩)
          · skip
            have hcv11 := own_string (P := Try.prog) Try.underlying40 Try.underlying5 Try.underlying9 (Kd.own_of_R HO107.out)
            refine value_ (w1 := ?_) (v := ?_) (by rfl) rfl ?_ ?_
            rotate_left 2
            · go_simp
              constructor
              · rfl
              · rfl
            clear hcv11
            refine hK.out _ _ trivial (fun hHeld => ?_)
            clear hK K
            refine norm_ (a' := ?_) ?_ ?_
            rotate_left
            · show Act.put _ (some 18) _ = _
              simp only [Act.put, List.setIfInBounds_toArray, List.set_cons_zero, List.set_cons_succ, i64_w, i32_w]
              rfl
            refine one_ (i := 2) (N := some 12) #[true, true, true, true, true, true, true, true, true, false, false] rfl rfl (one_of HT_.out (by kernel_rfl)) (by decide) (fun K hK => ?_)
            refine goes_ Try.func4 (by kernel_rfl) rfl #[.int .i64 (wrap64 (Int.tdiv a0 10))] (by rfl) rfl rfl (by (try simp only [List.map_toArray, List.map_cons, List.map_nil]); first | done | rfl | (simp only [List.length_drop, List.length_take]; rfl)) ?_
            with_reducible refine (ih k (by omega) (wrap64 (Int.tdiv a0 10)) t104 _ A6.out).mono ?_
            rintro e w12 ⟨rfl, hb⟩
            refine ⟨_, rfl, ?_⟩
            have n0_ := Aside0.mk (Kd.R_below (by (with_reducible repeat (first | apply Kd.R_alloc | apply Kd.R_drewN | apply Kd.R_drew)); exact HO107.out) hb)
            have n1_ := Aside0.mk (below_step (by repeat (first | (with_reducible first | exact HB.out | apply below_alloc | apply pw_below_drewN | apply below_drew1) | exact HB.out)) hb)
            clear HO107
            clear HB
            have HO107 := n0_
            have HB := n1_
            clear n0_ n1_
            (try clear hb)
            (try clear hb2)
            (try clear hk)
            (try clear hi)
            refine hK.out _ _ trivial (fun hHeld => ?_)
            clear hK K
            refine norm_ (a' := ?_) ?_ ?_
            rotate_left
            · show Act.put _ (some 12) _ = _
              simp only [Act.put, List.setIfInBounds_toArray, List.set_cons_zero, List.set_cons_succ, i64_w, i32_w]
              rfl
            exact norm_ (by simp only [putAll, Act.put, List.setIfInBounds_toArray, List.set_cons_zero, List.set_cons_succ]) (hCont (v106) _ ⟨(by (with_reducible repeat (first | apply Kd.R_alloc | apply Kd.R_drewN | apply Kd.R_drew)); exact HO107.out), (by repeat (first | (with_reducible first | exact HB.out | apply below_alloc | apply pw_below_drewN | apply below_drew1) | exact HB.out))⟩)
      rintro v106 w13 ⟨h0_, h1_⟩
      have n0_ : Aside0 (Kd.R (Kd.int .u8) 5 w13 w.heap.size (fun _ => True) v106 y105) := ⟨h0_⟩
      have n1_ : Aside0 (Below w.heap.size w w13) := ⟨h1_⟩
      clear HB
      clear h0_ h1_
      have HO107 := n0_
      have HB := n1_
      clear n0_ n1_
      have hHeld := trivial
      refine norm_ (a' := ?_) ?_ ?_
      rotate_left
      · simp only [putAll, Act.put, List.setIfInBounds_toArray, List.set_cons_zero, List.set_cons_succ]
        rfl
      refine pure_ (i := 9) (N := some 19) (v := ?_) (a' := ?_) #[true, true, true, true, true, true, true, true, true, true, false] rfl rfl (any_of HT_.out (by kernel_rfl)) (fun _ _ _ h => h) (Or.inl ⟨by rfl, ?_⟩) ?_ ?_
      rotate_left
      · intro w'
        go_simp
        with_reducible rfl
      rotate_left
      · simp only [Act.put, List.setIfInBounds_toArray, List.set_cons_zero, List.set_cons_succ, i64_w, i32_w]
        rfl
      refine pure_ (i := 10) (N := some 2) (v := ?_) (a' := ?_) #[true, true, true, true, true, true, true, true, true, true, true] rfl rfl (any_of HT_.out (by kernel_rfl)) (fun _ _ _ h => h) (Or.inl ⟨by rfl, ?_⟩) ?_ ?_
      rotate_left
      · intro w'
        go_simp
        with_reducible rfl
      rotate_left
      · simp only [Act.put, List.setIfInBounds_toArray, List.set_cons_zero, List.set_cons_succ, i64_w, i32_w]
        rfl
      refine done_ (done_of HT_.out (by kernel_rfl)) ?_
      try go_wp2
      go_ret
      exact ⟨by first | rfl | (simp [errW_none, errW_some] <;> rfl) | (simp [*, errW_none, errW_some] <;> rfl), by repeat (first | (with_reducible first | exact HB.out | apply below_alloc | apply pw_below_drewN | apply below_drew1) | exact HB.out)⟩
    · rw [if_neg c7] at H
      exact absurd H (by simp)

/-! ### coord_Text: function 9 -/
def coord_Text.f (a0_0 : ByteArray) (a0_1 : ByteArray) (a0_2 : ByteArray) : Option (ByteArray) := if a0_0.size + 1 ≤ 9223372036854775807 then (if (a0_0 ++ (⟨#[58]⟩ : ByteArray)).size + a0_1.size ≤ 9223372036854775807 then (if ((a0_0 ++ (⟨#[58]⟩ : ByteArray)) ++ a0_1).size + 1 ≤ 9223372036854775807 then (if (((a0_0 ++ (⟨#[58]⟩ : ByteArray)) ++ a0_1) ++ (⟨#[58]⟩ : ByteArray)).size + a0_2.size ≤ 9223372036854775807 then (some ((((a0_0 ++ (⟨#[58]⟩ : ByteArray)) ++ a0_1) ++ (⟨#[58]⟩ : ByteArray)) ++ a0_2)) else (none)) else (none)) else (none)) else (none)
set_option maxHeartbeats 8000000 in
set_option maxRecDepth 100000 in
theorem coord_Text.calls (a0_0 : ByteArray) (a0_1 : ByteArray) (a0_2 : ByteArray) (r : ByteArray) (w : World) (h : coord_Text.f a0_0 a0_1 a0_2 = some r) :
    Calls Try.prog 9 #[.agg #[.string a0_0, .string a0_1, .string a0_2]] w fun e w' => e = .returned (.string r) ∧ Below w.heap.size w w' := by
  have hu26 := Try.underlying26
  have HB := Aside0.mk (Below.refl w.heap.size w)
  have H : (if a0_0.size + 1 ≤ 9223372036854775807 then (if (a0_0 ++ (⟨#[58]⟩ : ByteArray)).size + a0_1.size ≤ 9223372036854775807 then (if ((a0_0 ++ (⟨#[58]⟩ : ByteArray)) ++ a0_1).size + 1 ≤ 9223372036854775807 then (if (((a0_0 ++ (⟨#[58]⟩ : ByteArray)) ++ a0_1) ++ (⟨#[58]⟩ : ByteArray)).size + a0_2.size ≤ 9223372036854775807 then (some ((((a0_0 ++ (⟨#[58]⟩ : ByteArray)) ++ a0_1) ++ (⟨#[58]⟩ : ByteArray)) ++ a0_2)) else (none)) else (none)) else (none)) else (none)) = some r := h
  clear h
  by_cases c2 : a0_0.size + 1 ≤ 9223372036854775807
  · rw [if_pos c2] at H
    have c2b0 := eq_true c2
    have c2b1 : decide (a0_0.size + 1 ≤ 9223372036854775807) = true := decide_eq_true c2
    try have c2b2 : (9223372036854775807 < a0_0.size + 1) = False := eq_false (Nat.not_lt.2 c2)
    try (have c2b3 := c2b2; simp only [ByteArray.size_append, ByteArray.size_mk', List.size_toArray, List.length_cons, List.length_nil, Nat.zero_add] at c2b3)
    by_cases c3 : (a0_0 ++ (⟨#[58]⟩ : ByteArray)).size + a0_1.size ≤ 9223372036854775807
    · rw [if_pos c3] at H
      have c3b0 := eq_true c3
      have c3b1 : decide ((a0_0 ++ (⟨#[58]⟩ : ByteArray)).size + a0_1.size ≤ 9223372036854775807) = true := decide_eq_true c3
      try have c3b2 : (9223372036854775807 < (a0_0 ++ (⟨#[58]⟩ : ByteArray)).size + a0_1.size) = False := eq_false (Nat.not_lt.2 c3)
      try (have c3b3 := c3b2; simp only [ByteArray.size_append, ByteArray.size_mk', List.size_toArray, List.length_cons, List.length_nil, Nat.zero_add] at c3b3)
      by_cases c4 : ((a0_0 ++ (⟨#[58]⟩ : ByteArray)) ++ a0_1).size + 1 ≤ 9223372036854775807
      · rw [if_pos c4] at H
        have c4b0 := eq_true c4
        have c4b1 : decide (((a0_0 ++ (⟨#[58]⟩ : ByteArray)) ++ a0_1).size + 1 ≤ 9223372036854775807) = true := decide_eq_true c4
        try have c4b2 : (9223372036854775807 < ((a0_0 ++ (⟨#[58]⟩ : ByteArray)) ++ a0_1).size + 1) = False := eq_false (Nat.not_lt.2 c4)
        try (have c4b3 := c4b2; simp only [ByteArray.size_append, ByteArray.size_mk', List.size_toArray, List.length_cons, List.length_nil, Nat.zero_add] at c4b3)
        by_cases c5 : (((a0_0 ++ (⟨#[58]⟩ : ByteArray)) ++ a0_1) ++ (⟨#[58]⟩ : ByteArray)).size + a0_2.size ≤ 9223372036854775807
        · rw [if_pos c5] at H
          have c5b0 := eq_true c5
          have c5b1 : decide ((((a0_0 ++ (⟨#[58]⟩ : ByteArray)) ++ a0_1) ++ (⟨#[58]⟩ : ByteArray)).size + a0_2.size ≤ 9223372036854775807) = true := decide_eq_true c5
          try have c5b2 : (9223372036854775807 < (((a0_0 ++ (⟨#[58]⟩ : ByteArray)) ++ a0_1) ++ (⟨#[58]⟩ : ByteArray)).size + a0_2.size) = False := eq_false (Nat.not_lt.2 c5)
          try (have c5b3 := c5b2; simp only [ByteArray.size_append, ByteArray.size_mk', List.size_toArray, List.length_cons, List.length_nil, Nat.zero_add] at c5b3)
          obtain rfl := Option.some.inj H
          go_enter Try.func9, Try.ntmps9
          go_wp2_with (first | ((with_reducible refine gate_dst (N := 1) rfl ?_); refine box_event ?hg (N := 1) ?hd (cs := #[.string a0_0, .string a0_1, .string a0_2]) (t := 26) ?hr ?_; (case hd => rfl); (case hg => rfl); (case hr => first | (go_simp; done) | (go_simp; rfl)); intro gb108 hg w6 hbox hb; have n0_ := Aside0.mk (below_step (by repeat (first | (with_reducible first | exact HB.out | apply below_alloc | apply pw_below_drewN | apply below_drew1) | exact HB.out)) hb); have n1_ := Aside0.mk (hbox); have n2_ := Aside0.mk ((by rw [hg]; exact (below_size (by repeat (first | (with_reducible first | exact HB.out | apply below_alloc | apply pw_below_drewN | apply below_drew1) | exact HB.out))) : w.heap.size ≤ gb108)); have n3_ := Aside0.mk ((by rw [hg]; exact (below_size (by repeat (first | (with_reducible first | exact HB.out | apply below_alloc | apply pw_below_drewN | apply below_drew1) | exact HB.out))) : w.heap.size ≤ gb108)); clear HB; have HB := n0_; have BK108 := n1_; have GW108 := n2_; have GE108 := n3_; clear n0_ n1_ n2_ n3_; clear hb hbox hg; have hcz7_0 : w6.cell? ⟨gb108, 0, none⟩ = some (.string a0_0) := (blk_cell BK108.out 0).trans rfl; have hcz7_1 : w6.cell? ⟨gb108, 1, none⟩ = some (.string a0_1) := (blk_cell BK108.out 1).trans rfl; have hcz7_2 : w6.cell? ⟨gb108, 2, none⟩ = some (.string a0_2) := (blk_cell BK108.out 2).trans rfl; have hfz7_0 := blk_frozen BK108.out 0; have hfz7_1 := blk_frozen BK108.out 1; have hfz7_2 := blk_frozen BK108.out 2))
          go_ret
          exact ⟨by first | rfl | (simp [errW_none, errW_some] <;> rfl) | (simp [*, errW_none, errW_some] <;> rfl), by repeat (first | (with_reducible first | exact HB.out | apply below_alloc | apply pw_below_drewN | apply below_drew1 | refine below_set ?_ GE108.out) | exact HB.out)⟩
        · rw [if_neg c5] at H
          exact absurd H (by simp)
      · rw [if_neg c4] at H
        exact absurd H (by simp)
    · rw [if_neg c3] at H
      exact absurd H (by simp)
  · rw [if_neg c2] at H
    exact absurd H (by simp)

/-! ### verbose_rows: function 10 -/
section
open Go.Maps
def isChain (l : List S35) : Prop := ∀ i : Nat, i < l.length → (l.getD i z35).f0 = (i : Int) - 1
def chainRows (n : Nat) : List S52 := (List.range n).map fun i : Nat => (⟨(i : Int), (i : Int)⟩ : S52)

/-- The children so far: of number j - 1 just j. -/
def Kids (W : World) (base k : Nat) (f : Lit → Option Value) : Prop :=
  (∀ j : Nat, j < k → ∃ v, f (.int .i64 ((j : Int) - 1)) = some v ∧ W.ownsRow base 3 1 v 1 [.int .i64 (j : Int)]) ∧ ∀ m : Int, (k : Int) - 1 ≤ m → f (.int .i64 m) = none

theorem lit_ne {a b : Int} (h : a ≠ b) : Lit.int .i64 a ≠ Lit.int .i64 b := fun e => h (by injection e)
theorem own_keep {w w1 : World} {base : Nat} {e : TypeId} {size n : Nat} {v : Value} {xs : List Value} {g : Nat} (h : w.ownsRow base e size v n xs) (hg : w.grownBy w1 (some g)) (hlt : g < base) : w1.ownsRow base e size v n xs := by
  refine h.kept hg ?_
  cases hv : v.ownBlock with
  | none => exact .inl rfl
  | some q =>
    refine .inr (fun e => ?_)
    have := own_base h q hv
    have : q = g := by injection e
    omega
theorem Kids.step {wr w1 w2 : World} {base k B1 : Nat} {f : Lit → Option Value} {v1 : Value} (h : Kids wr base k f) (hB : B1 < base) (hg1 : wr.grownBy w1 none) (hv : w1.ownsRow base 3 1 v1 1 [.int .i64 (k : Int)]) (hg2 : w1.grownBy w2 (some B1)) :
    Kids w2 base (k + 1) (Own.upd f (.int .i64 ((k : Int) - 1)) v1) := by
  refine ⟨fun j hj => ?_, fun m hm => ?_⟩
  · by_cases e : j = k
    · subst e
      exact ⟨v1, Own.upd_same _ _ _, own_keep hv hg2 hB⟩
    · obtain ⟨v, h1, h2⟩ := h.1 j (by omega)
      refine ⟨v, ?_, own_keep (h2.kept hg1 (by cases v.ownBlock <;> simp)) hg2 hB⟩
      rw [Own.upd_other _ _ (lit_ne (by omega))]
      exact h1
  · rw [Own.upd_other _ _ (lit_ne (by omega))]
    exact h.2 m (by omega)
theorem grown_drew {a b : World} {row : Option Nat} (h : a.grownBy b row) : a.grownBy b.drew row := ⟨h.os, h.tape, h.output, h.size, h.block⟩
theorem zero22 (w : World) : (zeroValue 22).run Try.prog w = .ok (.slice none 0 0) w := by kernel_rfl
theorem law3 : Keyed Try.prog 3 := int_keyed Try.underlying3
theorem key3 {a : Int} (h1 : -9223372036854775808 ≤ a) (h2 : a ≤ 9223372036854775807) : keyOf Try.prog 3 (.int .i64 a) = some (.int .i64 a) := keyOf_int_mk Try.underlying3 (WalkArith.wf_i64 ⟨h1, h2⟩)
theorem infoI : (Try.prog.info? 3).map (fun i => (i.zero, i.size, i.bytes)) = some (some (.int .i64 0), 1, 8) := by kernel_rfl


set_option maxRecDepth 100000 in
theorem reverse_one (a : Option Addr) (cap : Nat) (w : World) : Calls Try.prog 18 #[.slice a 1 cap] w fun e w' => e = .returned (.tuple #[]) ∧ w = w' := by
  go_enter Try.func18, Try.ntmps18
  go_wp2
  refine wp_loop_rounds 1 ?_
  rw [rounds_succ]
  go_wp2
  go_end0
  exact ⟨rfl, rfl⟩
theorem below_drewN' {B : Nat} {a w : World} (h : Below B a w) (n : Nat) : Below B a (w.drewN n) := ⟨h.os, h.tape, h.output, h.size, h.block⟩

set_option maxHeartbeats 1000000 in
set_option maxRecDepth 100000 in
theorem push_none (p d : Int) (b3 b7 B1 n : Nat) (f : Lit → Option Value) (W : World) (hc3 : W.cell? ⟨b3, 0, none⟩ = some (.map (some B1))) (hm : Own.MapAt Try.prog 3 W B1 n f) (hf : f (.int .i64 p) = none)
    (h1 : -9223372036854775808 ≤ p) (h2 : p ≤ 9223372036854775807) :
    Calls Try.prog 16 #[.int .i64 p, .int .i64 d, .pointer (some ⟨b3, 0, none⟩), .pointer (some ⟨b7, 0, none⟩)] W fun e w' => e = .returned (.tuple #[]) ∧ W = w' := by
  have HM := Aside0.mk hm
  have HF := Aside0.mk hf
  clear hm hf
  go_enter Try.func16, Try.ntmps16
  go_wp2_with (first
    | (at_lookup; refine Own.wpList_look rfl (.tmp 9) (.tmp 10) rfl HM.out law3 Try.underlying56 (zero22 _) rfl (.int .i64 p) (.int .i64 p) rfl (key3 h1 h2) ?_; rw [HF.out, Option.getD_none])
    | (go_at_call 17; refine (Try.slices_Clone_int_nil _ _ _).mono ?_; rintro e w' ⟨rfl, rfl⟩)
    | (go_at_call 18; refine (Try.slices_Reverse_int_empty _ _ _).mono ?_; rintro e w' ⟨rfl, rfl⟩))
  refine wp_loop_rounds 1 ?_
  rw [rounds_succ]
  go_wp2
  go_end0
  exact ⟨rfl, rfl⟩

set_option maxHeartbeats 2000000 in
set_option maxRecDepth 100000 in
theorem push_some (j : Nat) (d : Int) (b3 b7 B1 n N base0 : Nat) (f : Lit → Option Value) (v u : Value) (xs : List S52) (W W0 : World) (hj : j ≤ 2000) (hc3 : W.cell? ⟨b3, 0, none⟩ = some (.map (some B1))) (hm : Own.MapAt Try.prog 3 W B1 n f)
    (hf : f (.int .i64 ((j : Int) - 1)) = some v) (hv : W.ownsRow base0 3 1 v 1 [.int .i64 (j : Int)]) (h7 : W.heap[b7]? = some (.cells #[u] 49 (0, 0))) (hu : Kd.R k52 52 W N (fun _ => True) u xs) (hN7 : N ≤ b7) (HB0 : Below N W0 W) (hN : N ≤ W.heap.size) (hlen : xs.length ≤ 4000) :
    Calls Try.prog 16 #[.int .i64 ((j : Int) - 1), .int .i64 d, .pointer (some ⟨b3, 0, none⟩), .pointer (some ⟨b7, 0, none⟩)] W fun e w' => e = .returned (.tuple #[]) ∧ ∃ u', w'.heap[b7]? = some (.cells #[u'] 49 (0, 0)) ∧ Kd.R k52 52 w' N (fun _ => True) u' (xs ++ [⟨(j : Int), d⟩]) ∧ Below N W0 w' ∧ Kept W w' (fun i => i = b7 ∨ some i = u.ownBlock) ∧ (u'.ownBlock = u.ownBlock ∨ ∃ b, u'.ownBlock = some b ∧ W.heap.size ≤ b) := by
  obtain ⟨g, cap, rfl, hgb, hglt⟩ := hv.form (by omega)
  have HV := Aside0.mk (hv.cells (g := g) rfl 0 _ rfl)
  have HM := Aside0.mk hm
  have HF := Aside0.mk hf
  have H7 := Aside0.mk h7
  have HU := Aside0.mk hu
  have HB := Aside0.mk HB0
  have HCL := Aside0.mk (Try.slices_Clone_int g 0 1 cap [(j : Int)] W (by simp) (by omega) (by
    intro i hi
    have : i = 0 := by simpa using hi
    subst this
    exact HV.out))
  clear hm hf h7 hu HB0 hv
  go_enter Try.func16, Try.ntmps16
  go_wp2_with (first
    | (at_lookup; refine Own.wpList_look rfl (.tmp 9) (.tmp 10) rfl HM.out law3 Try.underlying56 (zero22 _) rfl (.int .i64 ((j : Int) - 1)) (.int .i64 ((j : Int) - 1)) rfl (key3 (by omega) (by omega)) ?_; rw [HF.out, Option.getD_some])
    | (go_at_call 17; refine HCL.out.mono ?_; rintro e w1 ⟨v', rfl, hv', hne', hb1⟩))
  obtain ⟨g1, cp1, rfl, hgb1, hglt1⟩ := hv'.form (by omega)
  have hv1 : w1.cell? ⟨g1, 0, none⟩ = some (.int .i64 (j : Int)) := hv'.cells (g := g1) rfl 0 _ rfl
  have H71 : Aside0 (w1.heap[b7]? = some (.cells #[u] 49 (0, 0))) := ⟨(hb1.block b7 (Array.getElem?_eq_some_iff.1 H7.out).1).trans H7.out⟩
  have hc7 : w1.cell? ⟨b7, 0, none⟩ = some u := by rw [Lib.cell_of_heap H71.out]; rfl
  have hf7 : w1.frozen? ⟨b7, 0, none⟩ = false := Lib.frozen_of_heap H71.out 0
  have HU1 := Aside0.mk (Kd.R_below HU.out hb1)
  have HB1 := Aside0.mk (below_then HB.out hN hb1)
  have HK1 := Aside0.mk (Kept.of_below hb1 (fun i => i = b7 ∨ some i = u.ownBlock))
  have hs1 : N ≤ w1.heap.size := Nat.le_trans hN hb1.size
  have HS := Aside0.mk hb1.size
  clear hv' hne' hb1 HCL HV HM HF
  go_wp2_with (first
    | (go_at_call 18; refine (reverse_one _ _ _).mono ?_; rintro e w' ⟨rfl, rfl⟩))
  have hne : u.ownBlock ≠ some b7 := fun e => ((Kd.R_types HU1.out H71.out (by decide)).1 b7 e).2 rfl
  refine wp_loop_rounds 2 ?_
  rw [rounds_succ]
  go_wp2_with (first
    | (at_builtin; refine Kd.R_append k52 (w0 := W0) N rfl (.tmp 21) (.tmp 25) 49 52 (.agg #[.int .i64 0, .int .i64 0]) 16 rfl Try.underlying49 info52 rfl (by decide) (by decide) u xs ⟨(j : Int), d⟩ [.int .i64 (j : Int), .int .i64 d] (fun _ => True) (fun _ => False) rfl rfl (k52_mkM _ _ _ _) (fun _ h => h.elim) (fun _ _ => trivial) HU1.out HB1.out hs1 (by omega) ?_; intro v2 w2 hR hb2 hg2 hat2; obtain ⟨A2, c2, rfl⟩ := Kd.R_slice hR; have H72 := Aside0.mk ((hg2.block b7 (Array.getElem?_eq_some_iff.1 H71.out).1 (fun e => hne e.symm)).trans H71.out); have hc72 : w2.cell? ⟨b7, 0, none⟩ = some u := (blk_cell H72.out 0).trans rfl; have hf72 : w2.frozen? ⟨b7, 0, none⟩ = false := blk_frozen H72.out 0; have HR2 := Aside0.mk hR; have HA2 := Aside0.mk (Or.imp_right (fun ⟨b, e, h⟩ => ⟨b, e, Nat.le_trans HS.out h⟩) hat2 : _ ∨ ∃ b, _ = some b ∧ W.heap.size ≤ b); have HB2 := Aside0.mk hb2; have HK2 := Aside0.mk (Kept.of_grown hg2 HK1.out (fun k hk => .inl (.inr hk.symm))); clear hR hb2 hg2 hat2 hc7 hf7 hv1 HK1 HB1 HU1 hne))
  rw [rounds_succ]
  go_wp2
  go_end0
  refine ⟨rfl, .slice A2 (xs.length + 1) c2, ?_, ?_, ?_, ?_, ?_⟩
  · exact blk_put H72.out 0 _ rfl
  · have h : Kd.R k52 52 _ N (fun _ => True) _ _ := Kd.R_mono (Kd.R_far (p := ⟨b7, 0, none⟩) (Kd.R_types HR2.out H72.out (by decide)) (fun _ hk => hk.2) (.slice A2 (xs.length + 1) c2)) (fun _ _ => trivial)
    simpa only [List.length_append, List.length_singleton] using h
  · exact HB2.out.setCell (p := ⟨b7, 0, none⟩) hN7 _
  · exact HK2.out.setCell (p := ⟨b7, 0, none⟩) (.inl (.inl rfl)) _
  · have h := HA2.out
    simpa only [List.length_append, List.length_singleton] using h

theorem setAll_self (A : List Value) (ds : List Nat) : Own.setAll A ds (ds.map fun d => A.getD d undef) = A := by
  induction ds with
  | nil => rfl
  | cons d ds ih =>
    have h : A.set d (A.getD d undef) = A := by
      by_cases hd : d < A.length
      · rw [show A.getD d undef = A[d] by simp [List.getD, hd]]
        exact List.set_getElem_self hd
      · exact List.set_eq_of_length_le (by omega)
    simp only [List.map_cons, Own.setAll, h]
    exact ih
theorem again' {P : Program} {Q : Exit → Act → World → Prop} {w : World} {R : Code} {l : Nat} {D : List Deferred} (A : List Value) (ds : List Nat) (REL : Nat → List Value → World → Prop) (n₀ : Nat)
    (h0 : REL n₀ (ds.map fun d => A.getD d undef) w)
    (pass : ∀ n us w, REL n us w → ∀ J : Act → World → Prop, (∀ k us' a' w', k < n → REL k us' w' → a' = ⟨(Own.setAll A ds us').toArray, D⟩ → J a' w') → R.wp P (Exit.jump l J Q) ⟨(Own.setAll A ds us).toArray, D⟩ w) :
    R.wp P (Exit.jump l (Own.JJ P l R Q) Q) ⟨A.toArray, D⟩ w := Own.again A ds REL n₀ _ h0 (setAll_self A ds) pass

theorem go_again {J : Act → World → Prop} {A : List Value} {ds : List Nat} {REL : Nat → List Value → World → Prop} {n : Nat} {D : List Deferred} {w' : World}
    (HJ : ∀ k us' a' w', k < n → REL k us' w' → a' = (⟨(Own.setAll A ds us').toArray, D⟩ : Act) → J a' w') (A' : List Value) (k : Nat) (hk : k < n) (hA : Own.setAll A ds (ds.map fun d => A'.getD d undef) = A') (hR : REL k (ds.map fun d => A'.getD d undef) w') : J ⟨A'.toArray, D⟩ w' :=
  HJ k _ _ w' hk hR (by rw [hA])

set_option maxHeartbeats 1000000 in
theorem push_any (j n : Nat) (hjn : j ≤ n) (p d : Int) (hp : p = (j : Int) - 1) (b3 B1 base0 : Nat) (f : Lit → Option Value) (u : Value) (xs : List S52) (wr W : World) (hn : n ≤ 1000) (hc3 : wr.cell? ⟨b3, 0, none⟩ = some (.map (some B1))) (hm : Own.MapAt Try.prog 3 wr B1 n f)
    (hk : Kids wr base0 n f) (HB : Below wr.heap.size wr W) (hs : wr.heap.size ≤ W.heap.size) (h7 : W.heap[wr.heap.size]? = some (.cells #[u] 49 (0, 0))) (hu : Kd.R k52 52 W wr.heap.size (fun _ => True) u xs) (hlen : xs.length ≤ 4000) :
    Calls Try.prog 16 #[.int .i64 p, .int .i64 d, .pointer (some ⟨b3, 0, none⟩), .pointer (some ⟨wr.heap.size, 0, none⟩)] W fun e w' => e = .returned (.tuple #[]) ∧ ∃ u', w'.heap[wr.heap.size]? = some (.cells #[u'] 49 (0, 0)) ∧ Kd.R k52 52 w' wr.heap.size (fun _ => True) u' (xs ++ if j < n then [⟨(j : Int), d⟩] else []) ∧ Below wr.heap.size wr w' ∧ Kept W w' (fun i => i = wr.heap.size ∨ some i = u.ownBlock) ∧ (u'.ownBlock = u.ownBlock ∨ ∃ b, u'.ownBlock = some b ∧ W.heap.size ≤ b) := by
  subst hp
  have hc3' : W.cell? ⟨b3, 0, none⟩ = some (.map (some B1)) := pw_cell_below HB hc3
  have hm' := hm.below HB hm.lt
  by_cases hlt : j < n
  · obtain ⟨v, hv1, hv2⟩ := hk.1 j hlt
    have hv3 := pw_own_below hv2 HB
    rw [if_pos hlt]
    exact push_some j d b3 wr.heap.size B1 n wr.heap.size base0 f v u xs W wr (by omega) hc3' hm' hv1 hv3 h7 hu (Nat.le_refl _) HB hs hlen
  · refine (push_none ((j : Int) - 1) d b3 wr.heap.size B1 n f W hc3' hm' (hk.2 _ (by omega)) (by omega) (by omega)).mono ?_
    rintro e w' ⟨rfl, rfl⟩
    rw [if_neg hlt, List.append_nil]
    exact ⟨rfl, u, h7, hu, HB, Kept.refl _ _, .inl rfl⟩

set_option maxHeartbeats 1000000 in
set_option maxRecDepth 100000 in
theorem rows_1 (a0_0 a0_1 a0_2 : ByteArray) (A0_3 : Option Addr) (c0_3 : Nat) (l0_3 : List S35) (w : World) (hr0_3 : Kd.C k35 w A0_3 l0_3.length l0_3) (hc0_3 : l0_3.length ≤ c0_3) (h1 : isChain l0_3) (h2 : l0_3.length ≤ 1000) :
  Calls Try.prog 10 #[.agg #[.string a0_0, .string a0_1, .string a0_2, .slice A0_3 l0_3.length c0_3]] w fun e w' => ∃ v0_ : Value, e = .returned (v0_) ∧ Kd.R k52 52 w' w.heap.size (fun _ => True) v0_ (chainRows l0_3.length) ∧ Below w.heap.size w w' := by
  have HR := Aside0.mk hr0_3
  have HC := Aside0.mk hc0_3
  have H1 := Aside0.mk h1
  clear hr0_3 hc0_3 h1
  have hmm := @run_makeMap Try.prog
  have hmf : ∀ (fn : Fn) (first cap : Array Value) (w : World), (Instr.makeFunc fn first cap).run Try.prog w = .ok (.func fn first cap) w := fun _ _ _ _ => rfl
  go_enter Try.func10, Try.ntmps10
  go_wp2
  refine Own.wp_scope_again 0 rfl ?_
  go_wp2
  go_loopw [14] (fun i wr => ∃ k : Nat, k ≤ l0_3.length ∧ i = .int .i64 k ∧ (∃ f, Own.MapAt Try.prog 3 wr (w.heap.size + 1) k f ∧ Aside0 (Kids wr (w.heap.size + 3) k f)) ∧ wr.cell? ⟨w.heap.size + 1 + 1, 0, none⟩ = some (.map (some (w.heap.size + 1))) ∧ Aside0 (Below w.heap.size w wr) ∧ w.heap.size + 3 ≤ wr.heap.size) (fun i _ => l0_3.length - (intOf i).toNat)
  case atStart => exact ⟨0, Nat.zero_le _, rfl, ⟨fun _ => none, (by simpa using (Own.MapAt.made Try.prog 3 (w.alloc (Obj.cells #[Value.string a0_0, Value.string a0_1, Value.string a0_2, Value.slice A0_3 l0_3.length c0_3] 29))).alloc _), ⟨fun j hj => absurd hj (by omega), fun _ _ => rfl⟩⟩, by go_simp, ⟨below_alloc (below_alloc (below_alloc (Below.refl _ _) _) _) _⟩, by go_simp⟩
  case round =>
    obtain ⟨k, hk, rfl, ⟨f, hmap, HK⟩, hc3, HB, hsz⟩ := hrel
    have HM := Aside0.mk hmap
    clear hmap
    by_cases hlt : k < l0_3.length
    · obtain ⟨ad, A9, c9, rfl, hq0, hq1, hq2, hq3, hq4, hq5, hq6, hq7, hq8, hq9, hq10, -⟩ := at_T35 (Kd.C_below HR.out ⟨HB.out.os, HB.out.tape, HB.out.output, HB.out.size, HB.out.block⟩) (k : Int) (by omega) (by omega)
      have hf0 : (rd_T35 l0_3 (k : Int)).f0 = (k : Int) - 1 := H1.out k hlt
      rw [hf0] at hq0
      clear hf0
      simp only [Int.toNat_natCast] at hq0 hq1 hq2 hq3 hq4 hq5 hq6 hq7 hq8 hq9 hq10
      have hkk : (k : Int) - 1 < (k : Int) := by omega
      go_wp2
      refine start_ (n := 11) (S := fun w' => w'.cell? ⟨w.heap.size + 1 + 1, 0, none⟩ = some (.map (some (w.heap.size + 1))) ∧ w'.cell? ⟨wr.heap.size, 0, none⟩ = some (.int .i64 ((k : Int) - 1)) ∧ Own.MapAt Try.prog 3 w' (w.heap.size + 1) k f) (ds := [10])
        #[false, false, false, false, false, false, false, false, false, false, false]
        (by kernel_rfl) rfl rfl ?hS (fun hHeld => ?_)
      case hS => exact ⟨(World.cell?_alloc_lt wr _ _ (by show w.heap.size + 1 + 1 < _; omega)).trans hc3, by go_simp, (HM.out.alloc _).drew⟩
      refine take_ (i := 0) (N := some 23) (v := ?_) (a' := ?_) #[true, false, false, false, false, false, false, false, false, false, false] rfl rfl (by kernel_rfl) (fun _ _ _ h => h) (Or.inl ⟨by rfl, ?_⟩) hHeld ?_ ?_
      rotate_left
      · rintro w' ⟨s0, s1, s2⟩
        go_simp
        with_reducible rfl
      rotate_left
      · simp only [Act.put, List.setIfInBounds_toArray, List.set_cons_zero, List.set_cons_succ, i64_w, i32_w]
        rfl
      refine pure_ (i := 1) (N := some 24) (v := ?_) (a' := ?_) #[true, true, false, false, false, false, false, false, false, false, false] rfl rfl (by kernel_rfl) (fun _ _ _ h => h) (Or.inl ⟨by rfl, ?_⟩) ?_ ?_
      rotate_left
      · intro w'
        go_simp
        with_reducible rfl
      rotate_left
      · simp only [Act.put, List.setIfInBounds_toArray, List.set_cons_zero, List.set_cons_succ, i64_w, i32_w]
        rfl
      refine take_ (i := 2) (N := some 25) (v := ?_) (a' := ?_) #[true, true, true, false, false, false, false, false, false, false, false] rfl rfl (by kernel_rfl) (fun _ _ _ h => h) (Or.inl ⟨by rfl, ?_⟩) hHeld ?_ ?_
      rotate_left
      · rintro w' ⟨s0, s1, s2⟩
        go_simp
        with_reducible rfl
      rotate_left
      · simp only [Act.put, List.setIfInBounds_toArray, List.set_cons_zero, List.set_cons_succ, i64_w, i32_w]
        rfl
      refine take_ (i := 3) (N := some 26) (v := ?_) (a' := ?_) #[true, true, true, true, false, false, false, false, false, false, false] rfl rfl (by kernel_rfl) (fun _ _ _ h => h) (Or.inl ⟨by rfl, ?_⟩) hHeld ?_ ?_
      rotate_left
      · rintro w' ⟨s0, s1, s2⟩
        go_simp
        with_reducible rfl
      rotate_left
      · simp only [Act.put, List.setIfInBounds_toArray, List.set_cons_zero, List.set_cons_succ, i64_w, i32_w]
        rfl
      refine pure_ (i := 4) (N := some 27) (v := ?_) (a' := ?_) #[true, true, true, true, true, false, false, false, false, false, false] rfl rfl (by kernel_rfl) (fun _ _ _ h => h) (Or.inl ⟨by rfl, ?_⟩) ?_ ?_
      rotate_left
      · intro w'
        go_simp
        with_reducible rfl
      rotate_left
      · simp only [Act.put, List.setIfInBounds_toArray, List.set_cons_zero, List.set_cons_succ, i64_w, i32_w]
        rfl
      refine take_ (i := 5) (N := some 28) (v := ?_) (a' := ?_) #[true, true, true, true, true, true, false, false, false, false, false] rfl rfl (by kernel_rfl) (fun _ _ _ h => h) (Or.inl ⟨by rfl, ?_⟩) hHeld ?_ ?_
      rotate_left
      · rintro w' ⟨s0, s1, s2⟩
        go_simp
        with_reducible rfl
      rotate_left
      · simp only [Act.put, List.setIfInBounds_toArray, List.set_cons_zero, List.set_cons_succ, i64_w, i32_w]
        rfl
      refine take_ (i := 6) (N := some 29) (v := ?_) (a' := ?_) #[true, true, true, true, true, true, true, false, false, false, false] rfl rfl (by kernel_rfl) (fun _ _ _ h => h) (Or.inl ⟨by rfl, ?_⟩) hHeld ?_ ?_
      rotate_left
      · rintro w' ⟨s0, s1, s2⟩
        have hl := s2.look law3 Try.underlying56 (zero22 w') (key3 (a := (k : Int) - 1) (by omega) (by omega)); rw [HK.out.2 ((k : Int) - 1) (Int.le_refl _)] at hl; simp only [Option.getD_none] at hl; go_simp
        rfl
      rotate_left
      · simp only [Act.put, List.setIfInBounds_toArray, List.set_cons_zero, List.set_cons_succ, i64_w, i32_w]
        rfl
      refine pure_ (i := 7) (N := some 30) (v := ?_) (a' := ?_) #[true, true, true, true, true, true, true, true, false, false, false] rfl rfl (by kernel_rfl) (fun _ _ _ h => h) (Or.inl ⟨by rfl, ?_⟩) ?_ ?_
      rotate_left
      · intro w'
        go_simp
        with_reducible rfl
      rotate_left
      · simp only [Act.put, List.setIfInBounds_toArray, List.set_cons_zero, List.set_cons_succ, i64_w, i32_w]
        rfl
      have hb1 : ∀ o, Below w.heap.size w (World.drew (World.alloc wr o)) ∧ wr.grownBy (World.drew (World.alloc wr o)) none := fun o => ⟨below_drew (HB.out.alloc (by omega) o), grown_drew (World.grownBy_alloc wr o none)⟩
      generalize hWW : (World.drew (World.alloc wr _)) = W1 at hHeld ⊢
      have HB1 : Aside0 (Below w.heap.size w W1 ∧ wr.grownBy W1 none) := ⟨hWW ▸ hb1 _⟩
      have hs1 : w.heap.size + 3 ≤ W1.heap.size := Nat.le_trans hsz HB1.out.2.size
      clear hb1 hWW
      have hH1 := Aside0.mk hHeld
      refine one_ (i := 8) (N := some 31) #[true, true, true, true, true, true, true, true, true, false, false] rfl rfl (by kernel_rfl) (by decide) (fun K hK => ?_)
      refine value_ (w1 := ?_) (v := ?_) (by rfl) rfl ?_ ?_
      rotate_left 2
      · go_simp
        constructor
        · rfl
        · rfl
      refine hK.out _ _ ⟨(World.cell?_alloc_lt W1 _ _ (World.block_lt_of_cell? _ _ hHeld.1)).trans hHeld.1, (World.cell?_alloc_lt W1 _ _ (World.block_lt_of_cell? _ _ hHeld.2.1)).trans hHeld.2.1, hHeld.2.2.alloc _⟩ (fun hHeld => ?_)
      clear hK K
      refine one_ (i := 9) (N := some 32) #[true, true, true, true, true, true, true, true, true, true, false] rfl rfl (by kernel_rfl) (by decide) (fun K hK => ?_)
      refine step_append_cells (w0 := W1) (W := W1) (w.heap.size + 3) (by rfl) (.tmp 29) (.tmp 31) 22 3 (.int .i64 0) 1 8 rfl Try.underlying22 infoI rfl (by decide) (by decide) (.slice none 0 0) 0 [] [.int .i64 (k : Int)] rfl rfl rfl (by simp; rfl) (own_nil _ _ _ _) (Below.refl _ _) hs1 (by omega) ?_
      intro v1 w2 hown1 _ hg1 _
      refine hK.out _ _ ⟨hg1.cell hH1.out.1 (by simp [Value.ownBlock]), hg1.cell hH1.out.2.1 (by simp [Value.ownBlock]), hH1.out.2.2.kept hg1 (by simp [Value.ownBlock])⟩ (fun hHeld => ?_)
      clear hK K
      refine last_ (i := 10) (N := none) #[true, true, true, true, true, true, true, true, true, true, true] rfl rfl (by kernel_rfl) (by decide) (fun K hK => ?_)
      refine Own.step_put (b := w.heap.size + 1) (by rfl) rfl (.tmp 23) (.tmp 25) (.tmp 32) rfl hHeld.2.2 law3 Try.underlying56 (by simp only [maxLen]; omega) rfl (.int .i64 ((k : Int) - 1)) v1 (.int .i64 ((k : Int) - 1)) rfl rfl (key3 (by omega) (by omega)) ?_
      intro w3 hm3 hg3
      have hc3' : w3.cell? ⟨w.heap.size + 1 + 1, 0, none⟩ = some (.map (some (w.heap.size + 1))) := hg3.cell hHeld.1 (by simp)
      have HX := Aside0.mk hm3
      have HKN := Aside0.mk (Kids.step HK.out (B1 := w.heap.size + 1) (by omega) (HB1.out.2.trans hg1) (by simpa using hown1) hg3)
      have HBN := Aside0.mk ((HB1.out.1.grown hg1 (by omega) (by simp [Value.ownBlock])).grown hg3 (Nat.le_trans (by omega) hg1.size) (fun j hj => by cases hj; omega))
      have hsN : w.heap.size + 3 ≤ w3.heap.size := Nat.le_trans hs1 (Nat.le_trans hg1.size hg3.size)
      refine hK.out _ _ ?_
      clear hK K hm3 hg3 hown1 hg1 hHeld
      refine done_ (by kernel_rfl) ?_
      go_wp2
      refine ⟨⟨k + 1, hlt, rfl, ⟨_, HX.out, HKN⟩, hc3', HBN, hsN⟩, ?_⟩
      simp only [intOf]
      omega
    · have hkn : k = l0_3.length := by omega
      subst hkn
      have hmap := HM.out
      have hc3N := World.block_lt_of_cell? _ _ hc3
      have HW := Aside0.mk (show Below wr.heap.size wr (wr.alloc (Obj.cells #[Value.slice none 0 0] 49)) from below_alloc (Below.refl _ _) _)
      go_wp2_with (first
        | (go_at_call 16; go_must (refine (push_any 0 l0_3.length (Nat.zero_le _) (-1) 0 rfl (w.heap.size + 1 + 1) (w.heap.size + 1) (w.heap.size + 3) f (.slice none 0 0) [] wr _ h2 hc3 hmap HK.out HW.out (by simp) (blk_new _ _) (Kd.R_nil _ _ _ _ _) (by simp)).mono ?_); rintro e w1 ⟨rfl, u, h7, hu, hb1, hk1, hat1⟩; have H7 := Aside0.mk h7; have HU := Aside0.mk hu; have HB1 := Aside0.mk hb1; clear h7 hu hb1 hk1 hat1 hmap))
      have h0c : (chainRows 0) = [] := rfl
      go_step3
      go_step
      go_step
      refine again' _ [6, 9, 37, 38, 39, 40, 41, 42, 43, 44, 45, 46, 47, 48, 49, 50, 51, 52, 53, 54, 55, 56, 57, 58, 59, 60, 61, 62] (fun q us_ W => ∃ b6_ b9_ b37_ b38_ b39_ b40_ b41_ b42_ b43_ b44_ b45_ b46_ b47_ b48_ b49_ b50_ b51_ b52_ b53_ b54_ b55_ b56_ b57_ b58_ b59_ b60_ b61_ b62_ : Value, us_ = [b6_, b9_, b37_, b38_, b39_, b40_, b41_, b42_, b43_, b44_, b45_, b46_, b47_, b48_, b49_, b50_, b51_, b52_, b53_, b54_, b55_, b56_, b57_, b58_, b59_, b60_, b61_, b62_] ∧ ∃ (j : Nat) (u : Value), q + j = l0_3.length ∧ Aside0 (W.heap[wr.heap.size]? = some (.cells #[u] 49 (0, 0))) ∧ Aside0 (Kd.R k52 52 W wr.heap.size (fun _ => True) u (if j < l0_3.length then [⟨(j : Int), (j : Int)⟩] else [])) ∧ Aside0 (Kd.R k52 52 W wr.heap.size (fun k => k ≠ wr.heap.size ∧ some k ≠ u.ownBlock) b6_ (chainRows j)) ∧ Aside0 (Below wr.heap.size wr W) ∧ wr.heap.size < W.heap.size) l0_3.length ?atStart ?round
      case atStart => exact ⟨_, _, _, _, _, _, _, _, _, _, _, _, _, _, _, _, _, _, _, _, _, _, _, _, _, _, _, _, rfl, 0, u, by omega, H7, HU, ⟨Kd.R_nil _ _ _ _ _⟩, HB1, (Array.getElem?_eq_some_iff.1 H7.out).1⟩
      case round =>
        clear H7 HU HB1 u
        rintro q us_ W ⟨b6_, b9_, b37_, b38_, b39_, b40_, b41_, b42_, b43_, b44_, b45_, b46_, b47_, b48_, b49_, b50_, b51_, b52_, b53_, b54_, b55_, b56_, b57_, b58_, b59_, b60_, b61_, b62_, rfl, j, u, hqj, H7, HU, HO, HB1, hsW⟩ J_ HJ
        simp only [Own.setAll, List.set_cons_zero, List.set_cons_succ]
        have hc7 : W.cell? ⟨wr.heap.size, 0, none⟩ = some u := (blk_cell H7.out 0).trans rfl
        obtain ⟨A1, c1, rfl⟩ := Kd.R_slice HU.out
        by_cases hj : j < l0_3.length
        · rw [if_pos hj] at hc7
          have HU1 := HU.out
          have H71 := H7.out
          have HO1 := HO.out
          rw [if_pos hj] at HU1 H71 HO1
          simp only [List.length_singleton] at HU1 H71 hc7 HO1
          obtain ⟨A1', c1', he, _, hC⟩ := Kd.R_reads HU1
          injection he with he1 he2 he3
          subst he1 he3
          clear he2
          obtain ⟨ad, rfl, hq0, hq1⟩ := at_T52 hC 0 (Int.le_refl _) (by simp)
          have hrd : rd_T52 [(⟨(j : Int), (j : Int)⟩ : S52)] 0 = ⟨(j : Int), (j : Int)⟩ := rfl
          rw [hrd] at hq0 hq1
          obtain ⟨g, rfl⟩ := Kd.R_head HU1
          replace hq0 : W.cell? ⟨g, 0, none⟩ = some (.int .i64 j) := hq0
          replace hq1 : W.cell? ⟨g, 1, none⟩ = some (.int .i64 j) := hq1
          have hgl := World.block_lt_of_cell? _ _ hq0
          have hab := (Kd.R_types (Kd.R_bound HU1) H71 (by decide)).1 g rfl
          have hf7 : W.frozen? ⟨wr.heap.size, 0, none⟩ = false := blk_frozen H71 0
          have HUU := Aside0.mk HU1
          have HOO := Aside0.mk HO1
          have H77 := Aside0.mk H71
          have HAB := Aside0.mk hab
          have HJ1 := Aside0.mk hj
          have HQ1 := Aside0.mk hqj
          -- the world behind the two stores
          have hgN : g ≠ wr.heap.size := hab.2
          have hO2 : Kd.R k52 52 ((W.setCell ⟨wr.heap.size, 0, none⟩ (.slice (some ⟨g, 0, none⟩) 0 c1)).alloc (.cells #[.int .i64 j, .int .i64 j] 52)) wr.heap.size (fun k => k ≠ wr.heap.size ∧ some k ≠ some g) b6_ (chainRows j) :=
            Kd.R_below (Kd.R_far (p := ⟨wr.heap.size, 0, none⟩) HO1 (fun _ hk => hk.1) _) (below_alloc (Below.refl _ _) _)
          have hU2 : Kd.R k52 52 ((W.setCell ⟨wr.heap.size, 0, none⟩ (.slice (some ⟨g, 0, none⟩) 0 c1)).alloc (.cells #[.int .i64 j, .int .i64 j] 52)) wr.heap.size (fun k => k = g) (.slice (some ⟨g, 0, none⟩) 0 c1) [] :=
            Kd.R_below (Kd.R_far (p := ⟨wr.heap.size, 0, none⟩) (Kd.R_reok rfl (Kd.R_take (m := 0) HU1 (by simp)) (fun k hk => by injection hk with hk; exact hk.symm)) (fun k hk => by rw [hk]; exact hgN) _) (below_alloc (Below.refl _ _) _)
          have hB2 : Below wr.heap.size wr ((W.setCell ⟨wr.heap.size, 0, none⟩ (.slice (some ⟨g, 0, none⟩) 0 c1)).alloc (.cells #[.int .i64 j, .int .i64 j] 52)) := below_then (HB1.out.setCell (p := ⟨wr.heap.size, 0, none⟩) (Nat.le_refl _) _) (by simp; omega) (below_alloc (Below.refl _ _) _)
          have h72 : ((W.setCell ⟨wr.heap.size, 0, none⟩ (.slice (some ⟨g, 0, none⟩) 0 c1)).alloc (.cells #[.int .i64 j, .int .i64 j] 52)).heap[wr.heap.size]? = some (.cells #[.slice (some ⟨g, 0, none⟩) 0 c1] 49 (0, 0)) := blk_alloc (blk_put H71 0 _ rfl) _
          have h92 : ((W.setCell ⟨wr.heap.size, 0, none⟩ (.slice (some ⟨g, 0, none⟩) 0 c1)).alloc (.cells #[.int .i64 j, .int .i64 j] 52)).heap[W.heap.size]? = some (.cells #[.int .i64 j, .int .i64 j] 52 (0, 0)) := by simpa using blk_new (W.setCell ⟨wr.heap.size, 0, none⟩ (.slice (some ⟨g, 0, none⟩) 0 c1)) (.cells #[.int .i64 j, .int .i64 j] 52)
          have hs2 : ((W.setCell ⟨wr.heap.size, 0, none⟩ (.slice (some ⟨g, 0, none⟩) 0 c1)).alloc (.cells #[.int .i64 j, .int .i64 j] 52)).heap.size = W.heap.size + 1 := by simp
          have hlr : (chainRows j).length = j := by simp [chainRows]
          have hfr : ∀ k, ((W.setCell ⟨wr.heap.size, 0, none⟩ (.slice (some ⟨g, 0, none⟩) 0 c1)).alloc (.cells #[.int .i64 j, .int .i64 j] 52)).heap.size ≤ k → k ≠ wr.heap.size ∧ some k ≠ some g := by
            intro k hk
            rw [hs2] at hk
            exact ⟨by omega, fun e => by injection e with e; omega⟩
          have HFR := Aside0.mk hfr
          have HBO := Aside0.mk (show ∀ k, b6_.ownBlock = some k → k < W.heap.size from fun k hk => ((Kd.R_bound HO1).1 k hk).2.2.1)
          clear hfr
          have HF := Aside0.mk (And.intro hO2 (And.intro hU2 (And.intro hB2 (And.intro h72 (And.intro h92 (And.intro hs2 (And.intro hlr hgN)))))))
          clear hO2 hU2 hB2 h72 h92 hs2 hlr hgN
          clear HU H7 HO HU1 HO1 H71 hC hab hrd hj hqj h0c hlt hk hc3N
          go_wp2_with (first
            | (at_builtin; go_must (refine Kd.R_append k52 (w0 := wr) wr.heap.size rfl (.tmp 52) (.tmp 54) 49 52 (.agg #[.int .i64 0, .int .i64 0]) 16 rfl Try.underlying49 info52 rfl (by decide) (by decide) b6_ (chainRows j) ⟨(j : Int), (j : Int)⟩ [.int .i64 (j : Int), .int .i64 (j : Int)] (fun k => k ≠ wr.heap.size ∧ some k ≠ some g) (fun _ => False) rfl (by go_simp) (k52_mkM _ _ _ _) (fun _ h => h.elim) HFR.out HF.out.1 HF.out.2.2.1 (by simp; omega) (by rw [HF.out.2.2.2.2.2.2.1]; have := HJ1.out; omega) ?_);  intro v2 w2 hR hb2 hg2 hat2; have hN2 : w2.heap[wr.heap.size]? = some (.cells #[.slice (some ⟨g, 0, none⟩) 0 c1] 49 (0, 0)) := (hg2.block _ (blk_lt HF.out.2.2.2.1) (fun e => (HF.out.1.1 _ e.symm).1 rfl)).trans HF.out.2.2.2.1; have h9w : w2.heap[W.heap.size]? = some (.cells #[.int .i64 j, .int .i64 j] 52 (0, 0)) := (hg2.block _ (blk_lt HF.out.2.2.2.2.1) (fun e => Nat.lt_irrefl _ (HBO.out _ e.symm))).trans HF.out.2.2.2.2.1; have hc90 : w2.cell? ⟨W.heap.size, 0, none⟩ = some (.int .i64 j) := (blk_cell h9w 0).trans rfl; have hc91 : w2.cell? ⟨W.heap.size, 1, none⟩ = some (.int .i64 j) := (blk_cell h9w 1).trans rfl; have HU2 := Aside0.mk (Kd.R_grown HF.out.2.1 hg2 (fun k hk e => (HF.out.1.1 k e.symm).2 (by rw [hk]))); have hsw2 : wr.heap.size < w2.heap.size := blk_lt hN2; have HN2 := Aside0.mk hN2; have HR2 := Aside0.mk hR; have HB2 := Aside0.mk hb2; have hj1 := HJ1.out; clear hN2 hR hb2 hg2 hat2 h9w hq0 hq1 hc7 hf7)
            | (go_at_call 16; go_must (refine (push_any (j + 1) l0_3.length HJ1.out (j : Int) ((j : Int) + 1) (by omega) (w.heap.size + 1 + 1) (w.heap.size + 1) (w.heap.size + 3) f (.slice (some ⟨g, 0, none⟩) 0 c1) [] wr _ h2 hc3 HM.out HK.out HB2.out (Nat.le_of_lt hsw2) HN2.out (Kd.R_mono HU2.out (fun _ _ => trivial)) (by simp)).mono ?_); rintro e w3 ⟨rfl, u3, h73, hu3, hb3, hk3, hat3⟩; have H3 := Aside0.mk (And.intro h73 (And.intro hu3 (And.intro hb3 (And.intro hk3 hat3)))); clear h73 hu3 hb3 hk3 hat3))
          go_step3
          obtain ⟨h73, hu3, hb3, hk3, hat3⟩ := H3.out
          have hq1 := HQ1.out
          have hown3 : ∀ k, v2.ownBlock = some k → k ≠ wr.heap.size ∧ some k ≠ u3.ownBlock := by
            intro k hk
            have hb := (Kd.R_bound HR2.out).1 k hk
            refine ⟨hb.1.1, fun e => ?_⟩
            rcases hat3 with hat3 | ⟨b, hb1, hb2⟩
            · rw [hat3] at e
              exact hb.1.2 e
            · rw [hb1] at e
              injection e with e
              have := hb.2.2.1
              omega
          have hR3 : Kd.R k52 52 w3 wr.heap.size (fun k => k ≠ wr.heap.size ∧ some k ≠ u3.ownBlock) v2 (chainRows (j + 1)) := by
            have h := Kd.R_kept (Kd.R_tight2 rfl HR2.out) hk3 (fun k hk hS => hS.elim (fun e => hk.2.1 e) (fun e => hk.2.2 e))
            have h' := Kd.R_reok (ok := fun k => k ≠ wr.heap.size ∧ some k ≠ u3.ownBlock) rfl h hown3
            simpa [chainRows, List.range_succ] using h'
          refine Own.jump_goto (go_again HJ _ (l0_3.length - (j + 1)) ?measure ?hA ?hR)
          case hA => kernel_rfl
          case measure => omega
          case hR =>
            refine ⟨_, _, _, _, _, _, _, _, _, _, _, _, _, _, _, _, _, _, _, _, _, _, _, _, _, _, _, _, rfl, j + 1, u3, by omega, ⟨h73⟩, ⟨?hu⟩, ⟨hR3⟩, ⟨hb3⟩, blk_lt h73⟩
            simpa using hu3
        · go_wp2
          (try simp only [Exit.jump])
          go_ret
          refine ⟨b6_, rfl, ?_, ?_⟩
          · have : j = l0_3.length := by omega
            subst this
            exact Kd.R_lower (Kd.R_mono HO.out (fun _ _ => trivial)) (by omega)
          · exact below_then HB.out (by omega) HB1.out

instance (l : List S35) : Decidable (isChain l) := by unfold isChain; infer_instance
def verbose_rows.f (a0_0 a0_1 a0_2 : ByteArray) (l0_3 : List S35) : Option (List S52) := if isChain l0_3 ∧ l0_3.length ≤ 1000 then some (chainRows l0_3.length) else none
theorem verbose_rows.calls (a0_0 a0_1 a0_2 : ByteArray) (A0_3 : Option Addr) (c0_3 : Nat) (l0_3 : List S35) (r : List S52) (w : World) (hr0_3 : Kd.C k35 w A0_3 l0_3.length l0_3) (hc0_3 : l0_3.length ≤ c0_3) (h : verbose_rows.f a0_0 a0_1 a0_2 l0_3 = some r) :
    Calls Try.prog 10 #[.agg #[.string a0_0, .string a0_1, .string a0_2, .slice A0_3 l0_3.length c0_3]] w fun e w' => ∃ v0_ : Value, e = .returned (v0_) ∧ Kd.R k52 52 w' w.heap.size (fun _ => True) v0_ r ∧ Below w.heap.size w w' := by
  unfold verbose_rows.f at h
  split at h
  case isFalse => cases h
  case isTrue hh =>
    obtain rfl := Option.some.inj h
    exact rows_1 a0_0 a0_1 a0_2 A0_3 c0_3 l0_3 w hr0_3 hc0_3 hh.1 hh.2
end


/-! ### cmp_Or_string: function 23 -/
def cmp_Or_string.l0 : Nat → ByteArray → List ByteArray → Int → Int → Option (ByteArray)
  | 0, _, _, _, _ => none
  | k + 1, x3, x6, x7, x8 => if x8 < x7 then (if 0 ≤ x8 then (if x8 < (x6.length : Int) then (if (rdOf ByteArray.empty x6 x8).toList = x3.toList then (cmp_Or_string.l0 k x3 x6 x7 (wrap64 (x8 + 1))) else (some (rdOf ByteArray.empty x6 x8))) else (none)) else (none)) else (some x3)
def cmp_Or_string.f (k : Nat) (l0 : List ByteArray) : Option (ByteArray) := cmp_Or_string.l0 k (⟨#[]⟩ : ByteArray) l0 (l0.length : Int) 0
theorem cmp_Or_string.mono_l : ∀ k, (∀ y0 y1 y2 y3, LeO (cmp_Or_string.l0 k y0 y1 y2 y3) (cmp_Or_string.l0 (k + 1) y0 y1 y2 y3))
  | 0 => fun _ _ _ _ r h => by simp [cmp_Or_string.l0] at h
  | k + 1 => by
    have ih0 := cmp_Or_string.mono_l k
    · intro y0 y1 y2 y3
      unfold cmp_Or_string.l0
      repeat' first
      | (with_reducible exact ih0 _ _ _ _)
      | (with_reducible exact LeO.refl _)
      | (with_reducible exact LeO.none _)
      | (with_reducible refine LeO.ite ?_ ?_)
      | (with_reducible refine LeO.bind ?_ (fun _ => ?_))
      | exact ih0 _ _ _ _
      | exact LeO.none _
      | refine LeO.ite ?_ ?_
      | refine LeO.bind ?_ (fun _ => ?_)
theorem cmp_Or_string.mono : ∀ a0 k, LeO (cmp_Or_string.f k a0) (cmp_Or_string.f (k + 1) a0) := by
  intro a0 k
  have ih0 := cmp_Or_string.mono_l k
  unfold cmp_Or_string.f
  repeat' first
      | (with_reducible exact ih0 _ _ _ _)
      | (with_reducible exact LeO.refl _)
      | (with_reducible exact LeO.none _)
      | (with_reducible refine LeO.ite ?_ ?_)
      | (with_reducible refine LeO.bind ?_ (fun _ => ?_))
      | exact ih0 _ _ _ _
      | exact LeO.none _
      | refine LeO.ite ?_ ?_
      | refine LeO.bind ?_ (fun _ => ?_)
set_option maxHeartbeats 8000000 in
set_option maxRecDepth 100000 in
theorem cmp_Or_string.calls (k : Nat) (A0 : Option Addr) (c0 : Nat) (l0 : List ByteArray) (r : ByteArray) (w : World) (hr0 : Kd.C Kd.string w A0 l0.length l0) (hc0 : l0.length ≤ c0) (h : cmp_Or_string.f k l0 = some r) :
    Calls Try.prog 23 #[.slice A0 l0.length c0] w fun e w' => e = .returned (.string r) ∧ Drawn0 w w' := by
  have HR0 := Aside0.mk hr0
  have HC0 := Aside0.mk hc0
  clear hr0 hc0
  have H : (cmp_Or_string.l0 k (⟨#[]⟩ : ByteArray) l0 (l0.length : Int) 0) = some r := h
  clear h
  have H' := Aside0.mk H
  clear H
  go_enter Try.func23, Try.ntmps23
  go_wp2
  go_loopg [8] k (fun kq v8 w' => ∃ (x8_1 : Int), v8 = .int .i64 x8_1 ∧ Aside0 (cmp_Or_string.l0 kq (⟨#[]⟩ : ByteArray) l0 (l0.length : Int) x8_1 = some r) ∧ Aside0 (kq ≤ k) ∧ Drawn0 w w')
  case atStart => exact ⟨(0), (by first | rfl | (simp; done) | (simp [*]; done)), H', ⟨Nat.le_refl _⟩, by repeat (first | exact Drawn0.refl _ | apply Drawn0.step)⟩
  case round =>
    clear H'
    obtain ⟨x8_1, rfl, HA, HK1, ⟨m1, rfl⟩⟩ := hrel
    cases gk with
    | zero => exact absurd HA.out (by simp [cmp_Or_string.l0])
    | succ k1 =>
      have H := HA.out
      clear HA
      simp only [cmp_Or_string.l0] at H
      by_cases c2 : x8_1 < (l0.length : Int)
      · rw [if_pos c2] at H
        have c2b0 : decide (x8_1 < (l0.length : Int)) = true := decide_eq_true c2
        clear c2
        by_cases c3 : 0 ≤ x8_1
        · rw [if_pos c3] at H
          have c3b0 : decide (0 ≤ x8_1) = true := decide_eq_true c3
          clear c3
          by_cases c4 : x8_1 < (l0.length : Int)
          · rw [if_pos c4] at H
            have c4b0 : decide (x8_1 < (l0.length : Int)) = true := decide_eq_true c4
            clear c4
            by_cases c5 : (rdOf ByteArray.empty l0 x8_1).toList = (⟨#[]⟩ : ByteArray).toList
            · rw [if_pos c5] at H
              have c5b0 : ((rdOf ByteArray.empty l0 x8_1).toList == (⟨#[]⟩ : ByteArray).toList) = true := beq_iff_eq.mpr c5
              have c5b1 : ((rdOf ByteArray.empty l0 x8_1).toList != (⟨#[]⟩ : ByteArray).toList) = false := bne_eq_false_iff_eq.mpr c5
              try (have c5e : ((rdOf ByteArray.empty l0 x8_1).toList).isEmpty = true := by simpa using c5)
              clear c5
              have H' := Aside0.mk H
              clear H
              have p109 : 0 ≤ (x8_1 : Int) := of_decide_eq_true (by first | (with_reducible assumption) | assumption)
              have q109 : x8_1 < (l0.length : Int) := of_decide_eq_true (by first | (with_reducible assumption) | assumption)
              obtain ⟨ad109, e109, hx109_0⟩ := Kd.at_string HR0.out x8_1 p109 q109
              cases e109
              replace p109 := eq_true p109
              replace q109 := eq_true q109
              go_wp2
              go_roundg k1
              case measure => have := HK1.out; omega
              case rel => exact ⟨(wrap64 (x8_1 + 1)), (by first | rfl | (simp; done) | (simp [*]; done)), H', ⟨by have := HK1.out; omega⟩, by repeat (first | exact Drawn0.refl _ | apply Drawn0.step)⟩
            · rw [if_neg c5] at H
              have c5b0 : ((rdOf ByteArray.empty l0 x8_1).toList == (⟨#[]⟩ : ByteArray).toList) = false := beq_eq_false_iff_ne.mpr c5
              have c5b1 : ((rdOf ByteArray.empty l0 x8_1).toList != (⟨#[]⟩ : ByteArray).toList) = true := bne_iff_ne.mpr c5
              try (have c5e : ((rdOf ByteArray.empty l0 x8_1).toList).isEmpty = false := by simpa using c5)
              obtain rfl := Option.some.inj H
              have p109 : 0 ≤ (x8_1 : Int) := of_decide_eq_true (by first | (with_reducible assumption) | assumption)
              have q109 : x8_1 < (l0.length : Int) := of_decide_eq_true (by first | (with_reducible assumption) | assumption)
              obtain ⟨ad109, e109, hx109_0⟩ := Kd.at_string HR0.out x8_1 p109 q109
              cases e109
              replace p109 := eq_true p109
              replace q109 := eq_true q109
              go_wp2
              go_ret
              exact ⟨by first | rfl | (simp; done) | (simp [*]; done), by repeat (first | exact Drawn0.refl _ | apply Drawn0.step)⟩
          · rw [if_neg c4] at H
            exact absurd H (by simp)
        · rw [if_neg c3] at H
          exact absurd H (by simp)
      · rw [if_neg c2] at H
        have c2b0 : decide (x8_1 < (l0.length : Int)) = false := decide_eq_false c2
        clear c2
        obtain rfl := Option.some.inj H
        go_wp2
        go_ret
        exact ⟨by first | rfl | (simp; done) | (simp [*]; done), by repeat (first | exact Drawn0.refl _ | apply Drawn0.step)⟩

end Go.Proofs.Ytnbniafcpmlcnaa.PVerboseLines
