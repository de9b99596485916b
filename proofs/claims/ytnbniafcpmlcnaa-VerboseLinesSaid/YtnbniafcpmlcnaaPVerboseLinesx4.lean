-- Out of Lean's own print of the program, by a program run in this session.
import Derived.Test.YtnbniafcpmlcnaaPVerboseLinesx0
import Derived.Test.YtnbniafcpmlcnaaPVerboseLinesx1
import Derived.Test.YtnbniafcpmlcnaaPVerboseLinesx2
import Derived.Test.YtnbniafcpmlcnaaPVerboseLinesx3
namespace Go.Proofs.Ytnbniafcpmlcnaa.PVerboseLines
open Go.RowKit Go.Proofs.YtnbniafcpmlcnaaW.PrintWords Go.Proofs.YtnbniafcpmlcnaaW.PrintLast Go.Proofs.YtnbniafcpmlcnaaW.PrintMore
attribute [local go_sem] max2_int min2_int max_two min_two max_three min_three max_four min_four   -- for this text's walks alone
set_option linter.unusedVariables false
set_option linter.unusedSimpArgs false

/-! ### newellaw25_VerboseLines: function 3 -/
def newellaw25_VerboseLines.l0 : Nat → Int → List Int → List ByteArray → ByteArray → ByteArray → Int → ByteArray → ByteArray → ByteArray → List (S35) → Option (Bool)
  | 0, _, _, _, _, _, _, _, _, _, _ => none
  | k + 1, x0, x1, x5, x7, x8, x9, x153000, x153001, x153002, x153003 => if x9 < x0 then (if x9 < (x1.length : Int) then (if 0 ≤ x9 then ((newelhelp_Digits.f k x9).bind fun t159 => (if x153003.length < 925904528653 then (if x8.size + 2 ≤ 9223372036854775807 then (if x7.size + (x8 ++ (⟨#[32, 32]⟩ : ByteArray)).size ≤ 9223372036854775807 then (if (x7 ++ (x8 ++ (⟨#[32, 32]⟩ : ByteArray))).size + 10 ≤ 9223372036854775807 then ((newelhelp_Digits.f k x9).bind fun t163 => (if ((x7 ++ (x8 ++ (⟨#[32, 32]⟩ : ByteArray))) ++ (⟨#[103, 58, 110, 58, 112, 111, 109, 58, 99, 58]⟩ : ByteArray)).size + t163.size ≤ 9223372036854775807 then (if (((x7 ++ (x8 ++ (⟨#[32, 32]⟩ : ByteArray))) ++ (⟨#[103, 58, 110, 58, 112, 111, 109, 58, 99, 58]⟩ : ByteArray)) ++ t163).size + 5 ≤ 9223372036854775807 then (if 0 ≤ (wrap64 ((wrap64 (1 + (wrap64 (Int.tmod (IntKind.u64.wrap (rd x1 x9)) 4)))) - 1)) then (if (wrap64 ((wrap64 (1 + (wrap64 (Int.tmod (IntKind.u64.wrap (rd x1 x9)) 4)))) - 1)) < (x5.length : Int) then (if ((((x7 ++ (x8 ++ (⟨#[32, 32]⟩ : ByteArray))) ++ (⟨#[103, 58, 110, 58, 112, 111, 109, 58, 99, 58]⟩ : ByteArray)) ++ t163) ++ (⟨#[58, 116, 101, 115, 116]⟩ : ByteArray)).size + (rdOf ByteArray.empty x5 (wrap64 ((wrap64 (1 + (wrap64 (Int.tmod (IntKind.u64.wrap (rd x1 x9)) 4)))) - 1))).size ≤ 9223372036854775807 then (if (((((x7 ++ (x8 ++ (⟨#[32, 32]⟩ : ByteArray))) ++ (⟨#[103, 58, 110, 58, 112, 111, 109, 58, 99, 58]⟩ : ByteArray)) ++ t163) ++ (⟨#[58, 116, 101, 115, 116]⟩ : ByteArray)) ++ (rdOf ByteArray.empty x5 (wrap64 ((wrap64 (1 + (wrap64 (Int.tmod (IntKind.u64.wrap (rd x1 x9)) 4)))) - 1)))).size + 1 ≤ 9223372036854775807 then (newellaw25_VerboseLines.l0 k x0 x1 x5 ((((((x7 ++ (x8 ++ (⟨#[32, 32]⟩ : ByteArray))) ++ (⟨#[103, 58, 110, 58, 112, 111, 109, 58, 99, 58]⟩ : ByteArray)) ++ t163) ++ (⟨#[58, 116, 101, 115, 116]⟩ : ByteArray)) ++ (rdOf ByteArray.empty x5 (wrap64 ((wrap64 (1 + (wrap64 (Int.tmod (IntKind.u64.wrap (rd x1 x9)) 4)))) - 1)))) ++ (⟨#[10]⟩ : ByteArray)) (x8 ++ (⟨#[32, 32]⟩ : ByteArray)) (wrap64 (x9 + 1)) x153000 x153001 x153002 (x153003 ++ [(⟨wrap64 (x9 - 1), 0, (⟨(⟨#[103]⟩ : ByteArray), (⟨#[110]⟩ : ByteArray), t159, (⟨#[112, 111, 109]⟩ : ByteArray), (⟨#[99]⟩ : ByteArray), (⟨#[116, 101, 115, 116]⟩ : ByteArray), false, ([] : List (S90))⟩ : S33), wrap64 (1 + (wrap64 (Int.tmod (IntKind.u64.wrap (rd x1 x9)) 4)))⟩ : S35)])) else (none)) else (none)) else (none)) else (none)) else (none)) else (none))) else (none)) else (none)) else (none)) else (none))) else (none)) else ((newelhelp_Digits.f k x9).bind fun t165 => (if x153003.length < 925904528653 then (if x8.size + 2 ≤ 9223372036854775807 then (if x7.size + (x8 ++ (⟨#[32, 32]⟩ : ByteArray)).size ≤ 9223372036854775807 then (if (x7 ++ (x8 ++ (⟨#[32, 32]⟩ : ByteArray))).size + 10 ≤ 9223372036854775807 then ((newelhelp_Digits.f k x9).bind fun t169 => (if ((x7 ++ (x8 ++ (⟨#[32, 32]⟩ : ByteArray))) ++ (⟨#[103, 58, 110, 58, 112, 111, 109, 58, 99, 58]⟩ : ByteArray)).size + t169.size ≤ 9223372036854775807 then (if (((x7 ++ (x8 ++ (⟨#[32, 32]⟩ : ByteArray))) ++ (⟨#[103, 58, 110, 58, 112, 111, 109, 58, 99, 58]⟩ : ByteArray)) ++ t169).size + 5 ≤ 9223372036854775807 then (if (0 : Int) ≤ (1 - 1) then (if (1 - 1) < (x5.length : Int) then (if ((((x7 ++ (x8 ++ (⟨#[32, 32]⟩ : ByteArray))) ++ (⟨#[103, 58, 110, 58, 112, 111, 109, 58, 99, 58]⟩ : ByteArray)) ++ t169) ++ (⟨#[58, 116, 101, 115, 116]⟩ : ByteArray)).size + (rdOf ByteArray.empty x5 (1 - 1)).size ≤ 9223372036854775807 then (if (((((x7 ++ (x8 ++ (⟨#[32, 32]⟩ : ByteArray))) ++ (⟨#[103, 58, 110, 58, 112, 111, 109, 58, 99, 58]⟩ : ByteArray)) ++ t169) ++ (⟨#[58, 116, 101, 115, 116]⟩ : ByteArray)) ++ (rdOf ByteArray.empty x5 (1 - 1))).size + 1 ≤ 9223372036854775807 then (newellaw25_VerboseLines.l0 k x0 x1 x5 ((((((x7 ++ (x8 ++ (⟨#[32, 32]⟩ : ByteArray))) ++ (⟨#[103, 58, 110, 58, 112, 111, 109, 58, 99, 58]⟩ : ByteArray)) ++ t169) ++ (⟨#[58, 116, 101, 115, 116]⟩ : ByteArray)) ++ (rdOf ByteArray.empty x5 (1 - 1))) ++ (⟨#[10]⟩ : ByteArray)) (x8 ++ (⟨#[32, 32]⟩ : ByteArray)) (wrap64 (x9 + 1)) x153000 x153001 x153002 (x153003 ++ [(⟨wrap64 (x9 - 1), 0, (⟨(⟨#[103]⟩ : ByteArray), (⟨#[110]⟩ : ByteArray), t165, (⟨#[112, 111, 109]⟩ : ByteArray), (⟨#[99]⟩ : ByteArray), (⟨#[116, 101, 115, 116]⟩ : ByteArray), false, ([] : List (S90))⟩ : S33), 1⟩ : S35)])) else (none)) else (none)) else (none)) else (none)) else (none)) else (none))) else (none)) else (none)) else (none)) else (none)))) else ((newellaw25_awake.f).bind fun t153 => (if t153 = true then ((verbose_Text.f x153000 x153001 x153002 x153003).bind fun t154 => (if t154.toList = x7.toList then ((verbose_Order.f k x153000 x153001 x153002 x153003).bind fun t155 => (some ((t155.length : Int) == x0))) else (some false))) else (some false)))
def newellaw25_VerboseLines.f (k : Nat) (a0 : Int) (l1 : List Int) : Option (Bool) := newellaw25_VerboseLines.l0 k (wrap64 (1 + (wrap64 (Int.tmod (IntKind.u64.wrap (a0)) 12)))) l1 (([(⟨#[]⟩ : ByteArray), (⟨#[32, 40, 99, 111, 110, 102, 108, 105, 99, 116, 41]⟩ : ByteArray), (⟨#[32, 40, 100, 117, 112, 108, 105, 99, 97, 116, 101, 41]⟩ : ByteArray), (⟨#[32, 40, 99, 121, 99, 108, 101, 41]⟩ : ByteArray)] : List ByteArray)) (⟨#[103, 58, 114, 58, 49, 10]⟩ : ByteArray) (⟨#[]⟩ : ByteArray) 0 (⟨#[103]⟩ : ByteArray) (⟨#[114]⟩ : ByteArray) (⟨#[49]⟩ : ByteArray) ([] : List (S35))
theorem newellaw25_VerboseLines.mono_l : ∀ k, (∀ y0 y1 y2 y3 y4 y5 y6 y7 y8 y9, LeO (newellaw25_VerboseLines.l0 k y0 y1 y2 y3 y4 y5 y6 y7 y8 y9) (newellaw25_VerboseLines.l0 (k + 1) y0 y1 y2 y3 y4 y5 y6 y7 y8 y9))
  | 0 => fun _ _ _ _ _ _ _ _ _ _ r h => by simp [newellaw25_VerboseLines.l0] at h
  | k + 1 => by
    have ih0 := newellaw25_VerboseLines.mono_l k
    · intro y0 y1 y2 y3 y4 y5 y6 y7 y8 y9
      unfold newellaw25_VerboseLines.l0
      repeat' first
      | (with_reducible exact ih0 _ _ _ _ _ _ _ _ _ _)
      | (with_reducible exact newelhelp_Digits.mono _ _)
      | (with_reducible exact verbose_Order.mono _ _ _ _ _)
      | (with_reducible exact LeO.refl _)
      | (with_reducible exact LeO.none _)
      | (with_reducible refine LeO.ite ?_ ?_)
      | (with_reducible refine LeO.bind ?_ (fun _ => ?_))
      | exact ih0 _ _ _ _ _ _ _ _ _ _
      | exact newelhelp_Digits.mono _ _
      | exact verbose_Order.mono _ _ _ _ _
      | exact LeO.none _
      | refine LeO.ite ?_ ?_
      | refine LeO.bind ?_ (fun _ => ?_)
theorem newellaw25_VerboseLines.mono : ∀ a0 a1 k, LeO (newellaw25_VerboseLines.f k a0 a1) (newellaw25_VerboseLines.f (k + 1) a0 a1) := by
  intro a0 a1 k
  have ih0 := newellaw25_VerboseLines.mono_l k
  unfold newellaw25_VerboseLines.f
  repeat' first
      | (with_reducible exact ih0 _ _ _ _ _ _ _ _ _ _)
      | (with_reducible exact newelhelp_Digits.mono _ _)
      | (with_reducible exact verbose_Order.mono _ _ _ _ _)
      | (with_reducible exact LeO.refl _)
      | (with_reducible exact LeO.none _)
      | (with_reducible refine LeO.ite ?_ ?_)
      | (with_reducible refine LeO.bind ?_ (fun _ => ?_))
      | exact ih0 _ _ _ _ _ _ _ _ _ _
      | exact newelhelp_Digits.mono _ _
      | exact verbose_Order.mono _ _ _ _ _
      | exact LeO.none _
      | refine LeO.ite ?_ ?_
      | refine LeO.bind ?_ (fun _ => ?_)
def newellaw25_VerboseLines.T11 : Bool × List (List Nat × List Nat) := (true, [([], []), ([0], [0]), ([], []), ([2], [2]), ([], []), ([], []), ([5], [5]), ([6], [6]), ([3, 4, 7], [3, 4, 7]), ([8], [8]), ([1, 9, 6], [1, 9]), ([0, 1, 2, 3, 4, 5, 6, 7, 8, 9, 10], []), ([11, 10, 10, 0, 1, 2, 3, 4, 5, 6, 7, 8, 9, 10], [10, 11])])
def newellaw25_VerboseLines.B11 : List Nat := [0, 1, 0, 4, 0, 0, 32, 96, 252, 508, 1023, 2047, 4095]
theorem newellaw25_VerboseLines.tab11 : rtab .any (opsOf Try.f3 11) = newellaw25_VerboseLines.T11 := by kernel_rfl
theorem newellaw25_VerboseLines.bits11 : waitsOk newellaw25_VerboseLines.T11.2 newellaw25_VerboseLines.B11 = true := by kernel_rfl
def newellaw25_VerboseLines.T13 : Bool × List (List Nat × List Nat) := (true, [([], []), ([], []), ([0, 1], [0, 1]), ([2], [2]), ([], []), ([4], [4]), ([3, 5], [3, 5]), ([6], [6]), ([], []), ([], []), ([9], [9]), ([8, 10], [8, 10]), ([11], [11]), ([7, 12], [7, 12]), ([13], [13]), ([14, 5, 0, 1, 2, 3, 4, 5, 6, 7, 8, 9, 10, 11, 12, 13, 14], [0, 14])])
def newellaw25_VerboseLines.B13 : List Nat := [0, 0, 3, 7, 0, 16, 63, 127, 0, 0, 512, 1792, 3840, 8191, 16383, 32767]
theorem newellaw25_VerboseLines.tab13 : rtab .any (opsOf Try.f3 13) = newellaw25_VerboseLines.T13 := by kernel_rfl
theorem newellaw25_VerboseLines.bits13 : waitsOk newellaw25_VerboseLines.T13.2 newellaw25_VerboseLines.B13 = true := by kernel_rfl
set_option maxHeartbeats 8000000 in
set_option maxRecDepth 100000 in
theorem newellaw25_VerboseLines.calls (k : Nat) (a0 : Int) (A1 : Option Addr) (c1 : Nat) (l1 : List Int) (r : Bool) (w : World) (hr1 : Kd.C (Kd.int .i64) w A1 l1.length l1) (hc1 : l1.length ≤ c1) (h : newellaw25_VerboseLines.f k a0 l1 = some r) :
    Calls Try.prog 3 #[.int .i64 a0, .slice A1 l1.length c1] w fun e w' => e = .returned (.bool r) ∧ Below w.heap.size w w' := by
  have hu26 := Try.underlying26
  have hu29 := Try.underlying29
  have hu33 := Try.underlying33
  have hu35 := Try.underlying35
  have HR1 := Aside0.mk hr1
  have HC1 := Aside0.mk hc1
  clear hr1 hc1
  have HB := Aside0.mk (Below.refl w.heap.size w)
  have H : (newellaw25_VerboseLines.l0 k (wrap64 (1 + (wrap64 (Int.tmod (IntKind.u64.wrap (a0)) 12)))) l1 (([(⟨#[]⟩ : ByteArray), (⟨#[32, 40, 99, 111, 110, 102, 108, 105, 99, 116, 41]⟩ : ByteArray), (⟨#[32, 40, 100, 117, 112, 108, 105, 99, 97, 116, 101, 41]⟩ : ByteArray), (⟨#[32, 40, 99, 121, 99, 108, 101, 41]⟩ : ByteArray)] : List ByteArray)) (⟨#[103, 58, 114, 58, 49, 10]⟩ : ByteArray) (⟨#[]⟩ : ByteArray) 0 (⟨#[103]⟩ : ByteArray) (⟨#[114]⟩ : ByteArray) (⟨#[49]⟩ : ByteArray) ([] : List (S35))) = some r := h
  clear h
  obtain ⟨y149, hy149⟩ : ∃ y_ : List ByteArray, y_ = (([(⟨#[]⟩ : ByteArray), (⟨#[32, 40, 99, 111, 110, 102, 108, 105, 99, 116, 41]⟩ : ByteArray), (⟨#[32, 40, 100, 117, 112, 108, 105, 99, 97, 116, 101, 41]⟩ : ByteArray), (⟨#[32, 40, 99, 121, 99, 108, 101, 41]⟩ : ByteArray)] : List ByteArray)) := ⟨_, rfl⟩
  replace H : (newellaw25_VerboseLines.l0 k (wrap64 (1 + (wrap64 (Int.tmod (IntKind.u64.wrap (a0)) 12)))) l1 y149 (⟨#[103, 58, 114, 58, 49, 10]⟩ : ByteArray) (⟨#[]⟩ : ByteArray) 0 (⟨#[103]⟩ : ByteArray) (⟨#[114]⟩ : ByteArray) (⟨#[49]⟩ : ByteArray) ([] : List (S35))) = some r := by first | (rw [hy149]; with_reducible exact H) | (have H2_ := (Option.bind_some _ _).symm.trans H; rw [hy149]; with_reducible exact H2_) | (have H2_ := (Option.bind_some _ _).symm.trans H; with_reducible exact H2_) | with_reducible exact H | (rw [hy149]; exact H) | exact H
  have Ny149 := Aside0.mk hy149
  clear hy149
  have H' := Aside0.mk H
  clear H
  go_enter Try.func3, Try.ntmps3
  go_wp2_with (first | ((with_reducible refine gate_dst (N := 16) rfl ?_); (try (refine gate_guard (by rfl) ?_; dsimp only)); refine Kd.R_lit Kd.string _ 9 ?hg (N := 16) ?hd (xs := ([(⟨#[]⟩ : ByteArray), (⟨#[32, 40, 99, 111, 110, 102, 108, 105, 99, 116, 41]⟩ : ByteArray), (⟨#[32, 40, 100, 117, 112, 108, 105, 99, 97, 116, 101, 41]⟩ : ByteArray), (⟨#[32, 40, 99, 121, 99, 108, 101, 41]⟩ : ByteArray)] : List ByteArray)) (inner := [.string (⟨#[]⟩ : ByteArray), .string (⟨#[32, 40, 99, 111, 110, 102, 108, 105, 99, 116, 41]⟩ : ByteArray), .string (⟨#[32, 40, 100, 117, 112, 108, 105, 99, 97, 116, 101, 41]⟩ : ByteArray), .string (⟨#[32, 40, 99, 121, 99, 108, 101, 41]⟩ : ByteArray)]) (ok := fun _ => True) (okp := fun _ => True) ?hr ?hp (fun _ hk => hk) trivial (Below.refl _ _) (Nat.le_refl _) (by simp) ?_; (case hd => rfl); (case hg => rfl); (case hr => first | (go_simp; done) | (go_simp; rfl)); (case hp => exact (Reps.one (show Kd.M Kd.string _ _ _ (⟨#[]⟩ : ByteArray) [.string (⟨#[]⟩ : ByteArray)] from rfl) (Reps.one (show Kd.M Kd.string _ _ _ (⟨#[32, 40, 99, 111, 110, 102, 108, 105, 99, 116, 41]⟩ : ByteArray) [.string (⟨#[32, 40, 99, 111, 110, 102, 108, 105, 99, 116, 41]⟩ : ByteArray)] from rfl) (Reps.one (show Kd.M Kd.string _ _ _ (⟨#[32, 40, 100, 117, 112, 108, 105, 99, 97, 116, 101, 41]⟩ : ByteArray) [.string (⟨#[32, 40, 100, 117, 112, 108, 105, 99, 97, 116, 101, 41]⟩ : ByteArray)] from rfl) (Reps.one (show Kd.M Kd.string _ _ _ (⟨#[32, 40, 99, 121, 99, 108, 101, 41]⟩ : ByteArray) [.string (⟨#[32, 40, 99, 121, 99, 108, 101, 41]⟩ : ByteArray)] from rfl) (Reps.none _ _)))))); intro v150 w3 ho4 hb hg_ hnew_; clear hg_ hnew_; (first | rw [← Ny149.out] at ho4 | (simp only [Int.reduceToNat] at ho4; rw [← Ny149.out] at ho4)); have n0_ := Aside0.mk (Kd.R_lower ho4 (below_size (by repeat (first | (with_reducible first | exact HB.out | apply below_alloc | apply pw_below_drewN | apply below_drew1) | exact HB.out)))); have n1_ := Aside0.mk (below_step (by repeat (first | (with_reducible first | exact HB.out | apply below_alloc | apply pw_below_drewN | apply below_drew1) | exact HB.out)) hb); clear HB; have HO151 := n0_; have HB := n1_; clear n0_ n1_; clear hb ho4) | ((with_reducible refine gate_dst (N := 6) rfl ?_); (try (refine gate_guard (by rfl) ?_; dsimp only)); refine box_event ?hg (N := 6) ?hd (cs := #[.string (⟨#[]⟩ : ByteArray), .string (⟨#[]⟩ : ByteArray), .string (⟨#[]⟩ : ByteArray), .slice none 0 0]) (t := 29) ?hr ?_; (case hd => rfl); (case hg => rfl); (case hr => first | (go_simp; done) | (go_simp; rfl)); intro gb152 hg w5 hbox hb; have n0_ := Aside0.mk (Kd.R_below (by (with_reducible repeat (first | apply Kd.R_alloc | apply Kd.R_drewN | apply Kd.R_drew)); exact HO151.out) hb); have n1_ := Aside0.mk (below_step (by repeat (first | (with_reducible first | exact HB.out | apply below_alloc | apply pw_below_drewN | apply below_drew1) | exact HB.out)) hb); have n2_ := Aside0.mk (hbox); have n3_ := Aside0.mk ((by rw [hg]; exact (below_size (by repeat (first | (with_reducible first | exact HB.out | apply below_alloc | apply pw_below_drewN | apply below_drew1) | exact HB.out))) : w.heap.size ≤ gb152)); have n4_ := Aside0.mk ((by rw [hg]; exact (below_size (by repeat (first | (with_reducible first | exact HB.out | apply below_alloc | apply pw_below_drewN | apply below_drew1) | exact HB.out))) : w.heap.size ≤ gb152)); clear HO151; clear HB; have HO151 := n0_; have HB := n1_; have BK152 := n2_; have GW152 := n3_; have GE152 := n4_; clear n0_ n1_ n2_ n3_ n4_; clear hb hbox hg; have hcz6_0 : w5.cell? ⟨gb152, 0, none⟩ = some (.string (⟨#[]⟩ : ByteArray)) := (blk_cell BK152.out 0).trans rfl; have hcz6_1 : w5.cell? ⟨gb152, 1, none⟩ = some (.string (⟨#[]⟩ : ByteArray)) := (blk_cell BK152.out 1).trans rfl; have hcz6_2 : w5.cell? ⟨gb152, 2, none⟩ = some (.string (⟨#[]⟩ : ByteArray)) := (blk_cell BK152.out 2).trans rfl; have hcz6_3 : w5.cell? ⟨gb152, 3, none⟩ = some (.slice none 0 0) := (blk_cell BK152.out 3).trans rfl; have hfz6_0 := blk_frozen BK152.out 0; have hfz6_1 := blk_frozen BK152.out 1; have hfz6_2 := blk_frozen BK152.out 2; have hfz6_3 := blk_frozen BK152.out 3))
  go_loopg [7, 8, 9] k (fun kq v7 v8 v9 w' => ∃ (x7_1 : ByteArray) (x8_1 : ByteArray) (x9_1 : Int) (x153003_1 : List (S35)) (u153003 : Value), v7 = .string x7_1 ∧ v8 = .string x8_1 ∧ v9 = .int .i64 x9_1 ∧ Aside0 (newellaw25_VerboseLines.l0 kq (wrap64 (1 + (wrap64 (Int.tmod (IntKind.u64.wrap (a0)) 12)))) l1 y149 x7_1 x8_1 x9_1 (⟨#[103]⟩ : ByteArray) (⟨#[114]⟩ : ByteArray) (⟨#[49]⟩ : ByteArray) x153003_1 = some r) ∧ Aside0 (kq ≤ k) ∧ Aside0 (Kd.R Kd.string 9 w' w.heap.size (fun _ => True) v150 y149) ∧ Aside0 (Kd.S k35 35 w' w.heap.size (fun _ => True) u153003 x153003_1) ∧ Aside0 (w'.heap[gb152]? = some (.cells #[.string (⟨#[103]⟩ : ByteArray), .string (⟨#[114]⟩ : ByteArray), .string (⟨#[49]⟩ : ByteArray), u153003] 29 (0, 0))) ∧ Aside0 (Below w.heap.size w w'))
  case atStart => exact ⟨((⟨#[103, 58, 114, 58, 49, 10]⟩ : ByteArray)), ((⟨#[]⟩ : ByteArray)), (0), (([] : List (S35))), (.slice none 0 0), (by first | rfl | (simp; done) | (simp [*]; done)), (by first | rfl | (simp; done) | (simp [*]; done)), (by first | rfl | (simp; done) | (simp [*]; done)), H', ⟨Nat.le_refl _⟩, ⟨by (with_reducible repeat (first | apply Kd.R_alloc | apply Kd.R_drewN | apply Kd.R_drew)); exact Kd.R_mono (Kd.R_far (p := ⟨gb152, 3, none⟩) (Kd.R_far (p := ⟨gb152, 2, none⟩) (Kd.R_far (p := ⟨gb152, 1, none⟩) (Kd.R_far (p := ⟨gb152, 0, none⟩) (Kd.R_types HO151.out BK152.out (by decide)) (fun _ hk => hk.2) (.string (⟨#[103]⟩ : ByteArray))) (fun _ hk => hk.2) (.string (⟨#[114]⟩ : ByteArray))) (fun _ hk => hk.2) (.string (⟨#[49]⟩ : ByteArray))) (fun _ hk => hk.2) (.slice none 0 0)) (fun _ hk => trivial)⟩, ⟨by first | exact Kd.S_nil _ _ _ _ _ | exact Kd.N_nil _ _ _ _ _ | exact Kd.V_nil _ _ _ _ _ | exact Kd.Q_nil _ _ _ _ _ | exact Kd.R_nil _ _ _ _ _⟩, ⟨by (with_reducible repeat (first | refine blk_drewN ?_ _ | refine blk_drew ?_ | refine blk_alloc ?_ _)); refine blk_put (cs := #[.string (⟨#[103]⟩ : ByteArray), .string (⟨#[114]⟩ : ByteArray), .string (⟨#[49]⟩ : ByteArray), .slice none 0 0]) ?_ 3 _ rfl; (with_reducible repeat (first | refine blk_drewN ?_ _ | refine blk_drew ?_ | refine blk_alloc ?_ _)); refine blk_put (cs := #[.string (⟨#[103]⟩ : ByteArray), .string (⟨#[114]⟩ : ByteArray), .string (⟨#[]⟩ : ByteArray), .slice none 0 0]) ?_ 2 _ rfl; (with_reducible repeat (first | refine blk_drewN ?_ _ | refine blk_drew ?_ | refine blk_alloc ?_ _)); refine blk_put (cs := #[.string (⟨#[103]⟩ : ByteArray), .string (⟨#[]⟩ : ByteArray), .string (⟨#[]⟩ : ByteArray), .slice none 0 0]) ?_ 1 _ rfl; (with_reducible repeat (first | refine blk_drewN ?_ _ | refine blk_drew ?_ | refine blk_alloc ?_ _)); refine blk_put (cs := #[.string (⟨#[]⟩ : ByteArray), .string (⟨#[]⟩ : ByteArray), .string (⟨#[]⟩ : ByteArray), .slice none 0 0]) ?_ 0 _ rfl; (with_reducible repeat (first | refine blk_drewN ?_ _ | refine blk_drew ?_ | refine blk_alloc ?_ _)); exact BK152.out⟩, ⟨by repeat (first | (with_reducible first | exact HB.out | apply below_alloc | apply pw_below_drewN | apply below_drew1 | refine below_set ?_ GE152.out) | exact HB.out)⟩⟩
  case round =>
    clear H'
    try clear c1
    try clear p2
    try clear c3
    try clear p6
    try clear hcz6_0
    try clear hcz6_1
    try clear hcz6_2
    try clear hcz6_3
    try clear hfz6_0
    try clear hfz6_1
    try clear hfz6_2
    try clear hfz6_3
    obtain ⟨x7_1, x8_1, x9_1, x153003_1, u153003, rfl, rfl, rfl, HA, HK1, HO_5, HO_153003, BK152, HB⟩ := hrel
    cases gk with
    | zero => exact absurd HA.out (by simp [newellaw25_VerboseLines.l0])
    | succ k1 =>
      have H := HA.out
      clear HA
      simp only [newellaw25_VerboseLines.l0] at H
      by_cases c7 : x9_1 < (wrap64 (1 + (wrap64 (Int.tmod (IntKind.u64.wrap (a0)) 12))))
      · rw [if_pos c7] at H
        have c7b0 : decide (x9_1 < (wrap64 (1 + (wrap64 (Int.tmod (IntKind.u64.wrap (a0)) 12))))) = true := decide_eq_true c7
        clear c7
        by_cases c8 : x9_1 < (l1.length : Int)
        · rw [if_pos c8] at H
          have c8b0 : decide (x9_1 < (l1.length : Int)) = true := decide_eq_true c8
          clear c8
          by_cases c9 : 0 ≤ x9_1
          · rw [if_pos c9] at H
            have c9b0 : decide (0 ≤ x9_1) = true := decide_eq_true c9
            clear c9
            replace H := Option.bind_eq_some_iff.mp H
            obtain ⟨t159, A100, H⟩ := H
            replace H : (if x153003_1.length < 925904528653 then (if x8_1.size + 2 ≤ 9223372036854775807 then (if x7_1.size + (x8_1 ++ (⟨#[32, 32]⟩ : ByteArray)).size ≤ 9223372036854775807 then (if (x7_1 ++ (x8_1 ++ (⟨#[32, 32]⟩ : ByteArray))).size + 10 ≤ 9223372036854775807 then ((newelhelp_Digits.f k1 x9_1).bind fun t163 => (if ((x7_1 ++ (x8_1 ++ (⟨#[32, 32]⟩ : ByteArray))) ++ (⟨#[103, 58, 110, 58, 112, 111, 109, 58, 99, 58]⟩ : ByteArray)).size + t163.size ≤ 9223372036854775807 then (if (((x7_1 ++ (x8_1 ++ (⟨#[32, 32]⟩ : ByteArray))) ++ (⟨#[103, 58, 110, 58, 112, 111, 109, 58, 99, 58]⟩ : ByteArray)) ++ t163).size + 5 ≤ 9223372036854775807 then (if 0 ≤ (wrap64 ((wrap64 (1 + (wrap64 (Int.tmod (IntKind.u64.wrap (rd l1 x9_1)) 4)))) - 1)) then (if (wrap64 ((wrap64 (1 + (wrap64 (Int.tmod (IntKind.u64.wrap (rd l1 x9_1)) 4)))) - 1)) < (y149.length : Int) then (if ((((x7_1 ++ (x8_1 ++ (⟨#[32, 32]⟩ : ByteArray))) ++ (⟨#[103, 58, 110, 58, 112, 111, 109, 58, 99, 58]⟩ : ByteArray)) ++ t163) ++ (⟨#[58, 116, 101, 115, 116]⟩ : ByteArray)).size + (rdOf ByteArray.empty y149 (wrap64 ((wrap64 (1 + (wrap64 (Int.tmod (IntKind.u64.wrap (rd l1 x9_1)) 4)))) - 1))).size ≤ 9223372036854775807 then (if (((((x7_1 ++ (x8_1 ++ (⟨#[32, 32]⟩ : ByteArray))) ++ (⟨#[103, 58, 110, 58, 112, 111, 109, 58, 99, 58]⟩ : ByteArray)) ++ t163) ++ (⟨#[58, 116, 101, 115, 116]⟩ : ByteArray)) ++ (rdOf ByteArray.empty y149 (wrap64 ((wrap64 (1 + (wrap64 (Int.tmod (IntKind.u64.wrap (rd l1 x9_1)) 4)))) - 1)))).size + 1 ≤ 9223372036854775807 then (newellaw25_VerboseLines.l0 k1 (wrap64 (1 + (wrap64 (Int.tmod (IntKind.u64.wrap (a0)) 12)))) l1 y149 ((((((x7_1 ++ (x8_1 ++ (⟨#[32, 32]⟩ : ByteArray))) ++ (⟨#[103, 58, 110, 58, 112, 111, 109, 58, 99, 58]⟩ : ByteArray)) ++ t163) ++ (⟨#[58, 116, 101, 115, 116]⟩ : ByteArray)) ++ (rdOf ByteArray.empty y149 (wrap64 ((wrap64 (1 + (wrap64 (Int.tmod (IntKind.u64.wrap (rd l1 x9_1)) 4)))) - 1)))) ++ (⟨#[10]⟩ : ByteArray)) (x8_1 ++ (⟨#[32, 32]⟩ : ByteArray)) (wrap64 (x9_1 + 1)) (⟨#[103]⟩ : ByteArray) (⟨#[114]⟩ : ByteArray) (⟨#[49]⟩ : ByteArray) (x153003_1 ++ [(⟨wrap64 (x9_1 - 1), 0, (⟨(⟨#[103]⟩ : ByteArray), (⟨#[110]⟩ : ByteArray), t159, (⟨#[112, 111, 109]⟩ : ByteArray), (⟨#[99]⟩ : ByteArray), (⟨#[116, 101, 115, 116]⟩ : ByteArray), false, ([] : List (S90))⟩ : S33), wrap64 (1 + (wrap64 (Int.tmod (IntKind.u64.wrap (rd l1 x9_1)) 4)))⟩ : S35)])) else (none)) else (none)) else (none)) else (none)) else (none)) else (none))) else (none)) else (none)) else (none)) else (none)) = some r := H
            have A10 := Aside0.mk A100
            clear A100
            by_cases c11 : x153003_1.length < 925904528653
            · rw [if_pos c11] at H
              have LMc11 := Aside0.mk c11
              clear c11
              obtain ⟨y160, hy160⟩ : ∃ y_ : List (S35), y_ = (x153003_1 ++ [(⟨wrap64 (x9_1 - 1), 0, (⟨(⟨#[103]⟩ : ByteArray), (⟨#[110]⟩ : ByteArray), t159, (⟨#[112, 111, 109]⟩ : ByteArray), (⟨#[99]⟩ : ByteArray), (⟨#[116, 101, 115, 116]⟩ : ByteArray), false, ([] : List (S90))⟩ : S33), wrap64 (1 + (wrap64 (Int.tmod (IntKind.u64.wrap (rd l1 x9_1)) 4)))⟩ : S35)]) := ⟨_, rfl⟩
              replace H : (if x8_1.size + 2 ≤ 9223372036854775807 then (if x7_1.size + (x8_1 ++ (⟨#[32, 32]⟩ : ByteArray)).size ≤ 9223372036854775807 then (if (x7_1 ++ (x8_1 ++ (⟨#[32, 32]⟩ : ByteArray))).size + 10 ≤ 9223372036854775807 then ((newelhelp_Digits.f k1 x9_1).bind fun t163 => (if ((x7_1 ++ (x8_1 ++ (⟨#[32, 32]⟩ : ByteArray))) ++ (⟨#[103, 58, 110, 58, 112, 111, 109, 58, 99, 58]⟩ : ByteArray)).size + t163.size ≤ 9223372036854775807 then (if (((x7_1 ++ (x8_1 ++ (⟨#[32, 32]⟩ : ByteArray))) ++ (⟨#[103, 58, 110, 58, 112, 111, 109, 58, 99, 58]⟩ : ByteArray)) ++ t163).size + 5 ≤ 9223372036854775807 then (if 0 ≤ (wrap64 ((wrap64 (1 + (wrap64 (Int.tmod (IntKind.u64.wrap (rd l1 x9_1)) 4)))) - 1)) then (if (wrap64 ((wrap64 (1 + (wrap64 (Int.tmod (IntKind.u64.wrap (rd l1 x9_1)) 4)))) - 1)) < (y149.length : Int) then (if ((((x7_1 ++ (x8_1 ++ (⟨#[32, 32]⟩ : ByteArray))) ++ (⟨#[103, 58, 110, 58, 112, 111, 109, 58, 99, 58]⟩ : ByteArray)) ++ t163) ++ (⟨#[58, 116, 101, 115, 116]⟩ : ByteArray)).size + (rdOf ByteArray.empty y149 (wrap64 ((wrap64 (1 + (wrap64 (Int.tmod (IntKind.u64.wrap (rd l1 x9_1)) 4)))) - 1))).size ≤ 9223372036854775807 then (if (((((x7_1 ++ (x8_1 ++ (⟨#[32, 32]⟩ : ByteArray))) ++ (⟨#[103, 58, 110, 58, 112, 111, 109, 58, 99, 58]⟩ : ByteArray)) ++ t163) ++ (⟨#[58, 116, 101, 115, 116]⟩ : ByteArray)) ++ (rdOf ByteArray.empty y149 (wrap64 ((wrap64 (1 + (wrap64 (Int.tmod (IntKind.u64.wrap (rd l1 x9_1)) 4)))) - 1)))).size + 1 ≤ 9223372036854775807 then (newellaw25_VerboseLines.l0 k1 (wrap64 (1 + (wrap64 (Int.tmod (IntKind.u64.wrap (a0)) 12)))) l1 y149 ((((((x7_1 ++ (x8_1 ++ (⟨#[32, 32]⟩ : ByteArray))) ++ (⟨#[103, 58, 110, 58, 112, 111, 109, 58, 99, 58]⟩ : ByteArray)) ++ t163) ++ (⟨#[58, 116, 101, 115, 116]⟩ : ByteArray)) ++ (rdOf ByteArray.empty y149 (wrap64 ((wrap64 (1 + (wrap64 (Int.tmod (IntKind.u64.wrap (rd l1 x9_1)) 4)))) - 1)))) ++ (⟨#[10]⟩ : ByteArray)) (x8_1 ++ (⟨#[32, 32]⟩ : ByteArray)) (wrap64 (x9_1 + 1)) (⟨#[103]⟩ : ByteArray) (⟨#[114]⟩ : ByteArray) (⟨#[49]⟩ : ByteArray) y160) else (none)) else (none)) else (none)) else (none)) else (none)) else (none))) else (none)) else (none)) else (none)) = some r := by first | (rw [hy160]; with_reducible exact H) | (have H2_ := (Option.bind_some _ _).symm.trans H; rw [hy160]; with_reducible exact H2_) | (have H2_ := (Option.bind_some _ _).symm.trans H; with_reducible exact H2_) | with_reducible exact H | (rw [hy160]; exact H) | exact H
              have Ny160 := Aside0.mk hy160
              clear hy160
              by_cases c12 : x8_1.size + 2 ≤ 9223372036854775807
              · rw [if_pos c12] at H
                have c12b0 := eq_true c12
                have c12b1 : decide (x8_1.size + 2 ≤ 9223372036854775807) = true := decide_eq_true c12
                try have c12b2 : (9223372036854775807 < x8_1.size + 2) = False := eq_false (Nat.not_lt.2 c12)
                try (have c12b3 := c12b2; simp only [ByteArray.size_append, ByteArray.size_mk', List.size_toArray, List.length_cons, List.length_nil, Nat.zero_add] at c12b3)
                by_cases c13 : x7_1.size + (x8_1 ++ (⟨#[32, 32]⟩ : ByteArray)).size ≤ 9223372036854775807
                · rw [if_pos c13] at H
                  have c13b0 := eq_true c13
                  have c13b1 : decide (x7_1.size + (x8_1 ++ (⟨#[32, 32]⟩ : ByteArray)).size ≤ 9223372036854775807) = true := decide_eq_true c13
                  try have c13b2 : (9223372036854775807 < x7_1.size + (x8_1 ++ (⟨#[32, 32]⟩ : ByteArray)).size) = False := eq_false (Nat.not_lt.2 c13)
                  try (have c13b3 := c13b2; simp only [ByteArray.size_append, ByteArray.size_mk', List.size_toArray, List.length_cons, List.length_nil, Nat.zero_add] at c13b3)
                  by_cases c14 : (x7_1 ++ (x8_1 ++ (⟨#[32, 32]⟩ : ByteArray))).size + 10 ≤ 9223372036854775807
                  · rw [if_pos c14] at H
                    have c14b0 := eq_true c14
                    have c14b1 : decide ((x7_1 ++ (x8_1 ++ (⟨#[32, 32]⟩ : ByteArray))).size + 10 ≤ 9223372036854775807) = true := decide_eq_true c14
                    try have c14b2 : (9223372036854775807 < (x7_1 ++ (x8_1 ++ (⟨#[32, 32]⟩ : ByteArray))).size + 10) = False := eq_false (Nat.not_lt.2 c14)
                    try (have c14b3 := c14b2; simp only [ByteArray.size_append, ByteArray.size_mk', List.size_toArray, List.length_cons, List.length_nil, Nat.zero_add] at c14b3)
                    replace H := Option.bind_eq_some_iff.mp H
                    obtain ⟨t163, A150, H⟩ := H
                    replace H : (if ((x7_1 ++ (x8_1 ++ (⟨#[32, 32]⟩ : ByteArray))) ++ (⟨#[103, 58, 110, 58, 112, 111, 109, 58, 99, 58]⟩ : ByteArray)).size + t163.size ≤ 9223372036854775807 then (if (((x7_1 ++ (x8_1 ++ (⟨#[32, 32]⟩ : ByteArray))) ++ (⟨#[103, 58, 110, 58, 112, 111, 109, 58, 99, 58]⟩ : ByteArray)) ++ t163).size + 5 ≤ 9223372036854775807 then (if 0 ≤ (wrap64 ((wrap64 (1 + (wrap64 (Int.tmod (IntKind.u64.wrap (rd l1 x9_1)) 4)))) - 1)) then (if (wrap64 ((wrap64 (1 + (wrap64 (Int.tmod (IntKind.u64.wrap (rd l1 x9_1)) 4)))) - 1)) < (y149.length : Int) then (if ((((x7_1 ++ (x8_1 ++ (⟨#[32, 32]⟩ : ByteArray))) ++ (⟨#[103, 58, 110, 58, 112, 111, 109, 58, 99, 58]⟩ : ByteArray)) ++ t163) ++ (⟨#[58, 116, 101, 115, 116]⟩ : ByteArray)).size + (rdOf ByteArray.empty y149 (wrap64 ((wrap64 (1 + (wrap64 (Int.tmod (IntKind.u64.wrap (rd l1 x9_1)) 4)))) - 1))).size ≤ 9223372036854775807 then (if (((((x7_1 ++ (x8_1 ++ (⟨#[32, 32]⟩ : ByteArray))) ++ (⟨#[103, 58, 110, 58, 112, 111, 109, 58, 99, 58]⟩ : ByteArray)) ++ t163) ++ (⟨#[58, 116, 101, 115, 116]⟩ : ByteArray)) ++ (rdOf ByteArray.empty y149 (wrap64 ((wrap64 (1 + (wrap64 (Int.tmod (IntKind.u64.wrap (rd l1 x9_1)) 4)))) - 1)))).size + 1 ≤ 9223372036854775807 then (newellaw25_VerboseLines.l0 k1 (wrap64 (1 + (wrap64 (Int.tmod (IntKind.u64.wrap (a0)) 12)))) l1 y149 ((((((x7_1 ++ (x8_1 ++ (⟨#[32, 32]⟩ : ByteArray))) ++ (⟨#[103, 58, 110, 58, 112, 111, 109, 58, 99, 58]⟩ : ByteArray)) ++ t163) ++ (⟨#[58, 116, 101, 115, 116]⟩ : ByteArray)) ++ (rdOf ByteArray.empty y149 (wrap64 ((wrap64 (1 + (wrap64 (Int.tmod (IntKind.u64.wrap (rd l1 x9_1)) 4)))) - 1)))) ++ (⟨#[10]⟩ : ByteArray)) (x8_1 ++ (⟨#[32, 32]⟩ : ByteArray)) (wrap64 (x9_1 + 1)) (⟨#[103]⟩ : ByteArray) (⟨#[114]⟩ : ByteArray) (⟨#[49]⟩ : ByteArray) y160) else (none)) else (none)) else (none)) else (none)) else (none)) else (none)) = some r := H
                    have A15 := Aside0.mk A150
                    clear A150
                    by_cases c16 : ((x7_1 ++ (x8_1 ++ (⟨#[32, 32]⟩ : ByteArray))) ++ (⟨#[103, 58, 110, 58, 112, 111, 109, 58, 99, 58]⟩ : ByteArray)).size + t163.size ≤ 9223372036854775807
                    · rw [if_pos c16] at H
                      have c16b0 := eq_true c16
                      have c16b1 : decide (((x7_1 ++ (x8_1 ++ (⟨#[32, 32]⟩ : ByteArray))) ++ (⟨#[103, 58, 110, 58, 112, 111, 109, 58, 99, 58]⟩ : ByteArray)).size + t163.size ≤ 9223372036854775807) = true := decide_eq_true c16
                      try have c16b2 : (9223372036854775807 < ((x7_1 ++ (x8_1 ++ (⟨#[32, 32]⟩ : ByteArray))) ++ (⟨#[103, 58, 110, 58, 112, 111, 109, 58, 99, 58]⟩ : ByteArray)).size + t163.size) = False := eq_false (Nat.not_lt.2 c16)
                      try (have c16b3 := c16b2; simp only [ByteArray.size_append, ByteArray.size_mk', List.size_toArray, List.length_cons, List.length_nil, Nat.zero_add] at c16b3)
                      by_cases c17 : (((x7_1 ++ (x8_1 ++ (⟨#[32, 32]⟩ : ByteArray))) ++ (⟨#[103, 58, 110, 58, 112, 111, 109, 58, 99, 58]⟩ : ByteArray)) ++ t163).size + 5 ≤ 9223372036854775807
                      · rw [if_pos c17] at H
                        have c17b0 := eq_true c17
                        have c17b1 : decide ((((x7_1 ++ (x8_1 ++ (⟨#[32, 32]⟩ : ByteArray))) ++ (⟨#[103, 58, 110, 58, 112, 111, 109, 58, 99, 58]⟩ : ByteArray)) ++ t163).size + 5 ≤ 9223372036854775807) = true := decide_eq_true c17
                        try have c17b2 : (9223372036854775807 < (((x7_1 ++ (x8_1 ++ (⟨#[32, 32]⟩ : ByteArray))) ++ (⟨#[103, 58, 110, 58, 112, 111, 109, 58, 99, 58]⟩ : ByteArray)) ++ t163).size + 5) = False := eq_false (Nat.not_lt.2 c17)
                        try (have c17b3 := c17b2; simp only [ByteArray.size_append, ByteArray.size_mk', List.size_toArray, List.length_cons, List.length_nil, Nat.zero_add] at c17b3)
                        obtain ⟨ji18, hji18⟩ : ∃ j_ : Int, (wrap64 ((wrap64 (1 + (wrap64 (Int.tmod (IntKind.u64.wrap (rd l1 x9_1)) 4)))) - 1)) = j_ := ⟨_, rfl⟩
                        replace H : (if 0 ≤ (ji18) then (if (ji18) < (y149.length : Int) then (if ((((x7_1 ++ (x8_1 ++ (⟨#[32, 32]⟩ : ByteArray))) ++ (⟨#[103, 58, 110, 58, 112, 111, 109, 58, 99, 58]⟩ : ByteArray)) ++ t163) ++ (⟨#[58, 116, 101, 115, 116]⟩ : ByteArray)).size + (rdOf ByteArray.empty y149 (ji18)).size ≤ 9223372036854775807 then (if (((((x7_1 ++ (x8_1 ++ (⟨#[32, 32]⟩ : ByteArray))) ++ (⟨#[103, 58, 110, 58, 112, 111, 109, 58, 99, 58]⟩ : ByteArray)) ++ t163) ++ (⟨#[58, 116, 101, 115, 116]⟩ : ByteArray)) ++ (rdOf ByteArray.empty y149 (ji18))).size + 1 ≤ 9223372036854775807 then (newellaw25_VerboseLines.l0 k1 (wrap64 (1 + (wrap64 (Int.tmod (IntKind.u64.wrap (a0)) 12)))) l1 y149 ((((((x7_1 ++ (x8_1 ++ (⟨#[32, 32]⟩ : ByteArray))) ++ (⟨#[103, 58, 110, 58, 112, 111, 109, 58, 99, 58]⟩ : ByteArray)) ++ t163) ++ (⟨#[58, 116, 101, 115, 116]⟩ : ByteArray)) ++ (rdOf ByteArray.empty y149 (ji18))) ++ (⟨#[10]⟩ : ByteArray)) (x8_1 ++ (⟨#[32, 32]⟩ : ByteArray)) (wrap64 (x9_1 + 1)) (⟨#[103]⟩ : ByteArray) (⟨#[114]⟩ : ByteArray) (⟨#[49]⟩ : ByteArray) y160) else (none)) else (none)) else (none)) else (none)) = some r := by first | (rw [hji18] at H; exact H) | (simp only [hji18] at H ⊢; exact H)
                        (try rw [hji18] at A10)
                        (try rw [hji18] at A15)
                        have hji18w : (IntKind.i64.wrap ((wrap64 (1 + (wrap64 (Int.tmod (IntKind.u64.wrap (rd l1 x9_1)) 4)))) - 1)) = ji18 := (i64_w _).trans hji18
                        by_cases c19 : 0 ≤ (ji18)
                        · rw [if_pos c19] at H
                          have c19b0 : decide (0 ≤ (ji18)) = true := decide_eq_true c19
                          clear c19
                          by_cases c20 : (ji18) < (y149.length : Int)
                          · rw [if_pos c20] at H
                            have c20b0 : decide ((ji18) < (y149.length : Int)) = true := decide_eq_true c20
                            clear c20
                            by_cases c21 : ((((x7_1 ++ (x8_1 ++ (⟨#[32, 32]⟩ : ByteArray))) ++ (⟨#[103, 58, 110, 58, 112, 111, 109, 58, 99, 58]⟩ : ByteArray)) ++ t163) ++ (⟨#[58, 116, 101, 115, 116]⟩ : ByteArray)).size + (rdOf ByteArray.empty y149 (ji18)).size ≤ 9223372036854775807
                            · rw [if_pos c21] at H
                              have c21b0 := eq_true c21
                              have c21b1 : decide (((((x7_1 ++ (x8_1 ++ (⟨#[32, 32]⟩ : ByteArray))) ++ (⟨#[103, 58, 110, 58, 112, 111, 109, 58, 99, 58]⟩ : ByteArray)) ++ t163) ++ (⟨#[58, 116, 101, 115, 116]⟩ : ByteArray)).size + (rdOf ByteArray.empty y149 (ji18)).size ≤ 9223372036854775807) = true := decide_eq_true c21
                              try have c21b2 : (9223372036854775807 < ((((x7_1 ++ (x8_1 ++ (⟨#[32, 32]⟩ : ByteArray))) ++ (⟨#[103, 58, 110, 58, 112, 111, 109, 58, 99, 58]⟩ : ByteArray)) ++ t163) ++ (⟨#[58, 116, 101, 115, 116]⟩ : ByteArray)).size + (rdOf ByteArray.empty y149 (ji18)).size) = False := eq_false (Nat.not_lt.2 c21)
                              try (have c21b3 := c21b2; simp only [ByteArray.size_append, ByteArray.size_mk', List.size_toArray, List.length_cons, List.length_nil, Nat.zero_add] at c21b3)
                              by_cases c22 : (((((x7_1 ++ (x8_1 ++ (⟨#[32, 32]⟩ : ByteArray))) ++ (⟨#[103, 58, 110, 58, 112, 111, 109, 58, 99, 58]⟩ : ByteArray)) ++ t163) ++ (⟨#[58, 116, 101, 115, 116]⟩ : ByteArray)) ++ (rdOf ByteArray.empty y149 (ji18))).size + 1 ≤ 9223372036854775807
                              · rw [if_pos c22] at H
                                have c22b0 := eq_true c22
                                have c22b1 : decide ((((((x7_1 ++ (x8_1 ++ (⟨#[32, 32]⟩ : ByteArray))) ++ (⟨#[103, 58, 110, 58, 112, 111, 109, 58, 99, 58]⟩ : ByteArray)) ++ t163) ++ (⟨#[58, 116, 101, 115, 116]⟩ : ByteArray)) ++ (rdOf ByteArray.empty y149 (ji18))).size + 1 ≤ 9223372036854775807) = true := decide_eq_true c22
                                try have c22b2 : (9223372036854775807 < (((((x7_1 ++ (x8_1 ++ (⟨#[32, 32]⟩ : ByteArray))) ++ (⟨#[103, 58, 110, 58, 112, 111, 109, 58, 99, 58]⟩ : ByteArray)) ++ t163) ++ (⟨#[58, 116, 101, 115, 116]⟩ : ByteArray)) ++ (rdOf ByteArray.empty y149 (ji18))).size + 1) = False := eq_false (Nat.not_lt.2 c22)
                                try (have c22b3 := c22b2; simp only [ByteArray.size_append, ByteArray.size_mk', List.size_toArray, List.length_cons, List.length_nil, Nat.zero_add] at c22b3)
                                have H' := Aside0.mk H
                                clear H
                                have p158 : 0 ≤ (x9_1 : Int) := of_decide_eq_true (by first | (with_reducible assumption) | assumption)
                                have q158 : x9_1 < (l1.length : Int) := of_decide_eq_true (by first | (with_reducible assumption) | assumption)
                                obtain ⟨ad158, e158, hx158_0⟩ := Kd.at_int HR1.out x9_1 p158 q158
                                cases e158
                                replace hx158_0 := (HB.out.cell (World.block_lt_of_cell? w _ hx158_0)).trans hx158_0
                                replace p158 := eq_true p158
                                replace q158 := eq_true q158
                                try go_wp2
                                have n0_ := Aside0.mk (Kd.R_drew HO_5.out)
                                have n1_ := Aside0.mk (Kd.S_drew HO_153003.out)
                                have n2_ := Aside0.mk (blk_drew BK152.out)
                                have n3_ := Aside0.mk (below_drew1 HB.out)
                                clear HO_5
                                clear HO_153003
                                clear BK152
                                clear HB
                                have HO_5 := n0_
                                have HO_153003 := n1_
                                have BK152 := n2_
                                have HB := n3_
                                clear n0_ n1_ n2_ n3_
                                refine start_ (n := 13) (S := fun w' => w'.cell? ⟨gb152, 0, none⟩ = some (.string (⟨#[103]⟩ : ByteArray)) ∧ w'.cell? ⟨gb152, 1, none⟩ = some (.string (⟨#[114]⟩ : ByteArray)) ∧ w'.cell? ⟨gb152, 2, none⟩ = some (.string (⟨#[49]⟩ : ByteArray)) ∧ w'.cell? ⟨gb152, 3, none⟩ = some (u153003)) (ds := [12]) #[false, false, false, false, false, false, false, false, false, false, false, false, false] (by kernel_rfl) rfl rfl ⟨(blk_cell BK152.out 0).trans rfl, (blk_cell BK152.out 1).trans rfl, (blk_cell BK152.out 2).trans rfl, (blk_cell BK152.out 3).trans rfl⟩ (fun hHeld => ?_); refine with_tabW newellaw25_VerboseLines.tab11 newellaw25_VerboseLines.bits11 (fun HT_ HW_ => ?_)
                                generalize wr.drew = w23 at HO_5 HO_153003 BK152 HB hHeld ⊢
                                refine pure_ (i := 0) (N := some 36) (v := ?_) (a' := ?_) #[true, false, false, false, false, false, false, false, false, false, false, false, false] rfl rfl (any_of HT_.out (by kernel_rfl)) (fun _ _ _ h => h) (Or.inl ⟨by rfl, ?_⟩) ?_ ?_
                                rotate_left
                                · intro w'
                                  go_simp
                                  with_reducible rfl
                                rotate_left
                                · simp only [Act.put, List.setIfInBounds_toArray, List.set_cons_zero, List.set_cons_succ, i64_w, i32_w]
                                  rfl
                                refine pure_ (i := 2) (N := some 38) (v := ?_) (a' := ?_) #[true, false, true, false, false, false, false, false, false, false, false, false, false] rfl rfl (any_of HT_.out (by kernel_rfl)) (fun _ _ _ h => h) (Or.inl ⟨by rfl, ?_⟩) ?_ ?_
                                rotate_left
                                · intro w'
                                  go_simp
                                  with_reducible rfl
                                rotate_left
                                · simp only [Act.put, List.setIfInBounds_toArray, List.set_cons_zero, List.set_cons_succ, i64_w, i32_w]
                                  rfl
                                refine pure_ (i := 3) (N := some 39) (v := ?_) (a' := ?_) #[true, false, true, true, false, false, false, false, false, false, false, false, false] rfl rfl (any_of HT_.out (by kernel_rfl)) (fun _ _ _ h => h) (Or.inl ⟨by rfl, ?_⟩) ?_ ?_
                                rotate_left
                                · intro w'
                                  go_simp
                                  with_reducible rfl
                                rotate_left
                                · simp only [Act.put, List.setIfInBounds_toArray, List.set_cons_zero, List.set_cons_succ, i64_w, i32_w]
                                  rfl
                                refine pure_ (i := 4) (N := some 40) (v := ?_) (a' := ?_) #[true, false, true, true, true, false, false, false, false, false, false, false, false] rfl rfl (any_of HT_.out (by kernel_rfl)) (fun _ _ _ h => h) (Or.inl ⟨by rfl, ?_⟩) ?_ ?_
                                rotate_left
                                · intro w'
                                  go_simp
                                  with_reducible rfl
                                rotate_left
                                · simp only [Act.put, List.setIfInBounds_toArray, List.set_cons_zero, List.set_cons_succ, i64_w, i32_w]
                                  rfl
                                refine pure_ (i := 5) (N := some 41) (v := ?_) (a' := ?_) #[true, false, true, true, true, true, false, false, false, false, false, false, false] rfl rfl (any_of HT_.out (by kernel_rfl)) (fun _ _ _ h => h) (Or.inl ⟨by rfl, ?_⟩) ?_ ?_
                                rotate_left
                                · intro w'
                                  go_simp
                                  with_reducible rfl
                                rotate_left
                                · simp only [Act.put, List.setIfInBounds_toArray, List.set_cons_zero, List.set_cons_succ, i64_w, i32_w]
                                  rfl
                                refine take_ (i := 1) (N := some 37) (v := ?_) (a' := ?_) #[true, true, true, true, true, true, false, false, false, false, false, false, false] rfl rfl (take_ofW HT_.out HW_.out (by kernel_rfl)) (fun _ _ _ h => h) (Or.inl ⟨by rfl, ?_⟩) hHeld ?_ ?_
                                rotate_left
                                · rintro w' ⟨s0, s1, s2, s3⟩
                                  go_simp
                                  with_reducible rfl
                                rotate_left
                                · simp only [Act.put, List.setIfInBounds_toArray, List.set_cons_zero, List.set_cons_succ, i64_w, i32_w]
                                  rfl
                                refine one_ (i := 6) (N := some 42) #[true, true, true, true, true, true, true, false, false, false, false, false, false] rfl rfl (one_of HT_.out (by kernel_rfl)) (by decide) (fun K hK => ?_)
                                refine goes_ Try.func4 (by kernel_rfl) rfl #[.int .i64 x9_1] (by rfl) rfl rfl (by (try simp only [List.map_toArray, List.map_cons, List.map_nil]); first | done | rfl | (simp only [List.length_drop, List.length_take]; rfl)) ?_
                                with_reducible refine (newelhelp_Digits.calls k1 x9_1 t159 _ A10.out).mono ?_
                                rintro e w24 ⟨rfl, hb⟩
                                refine ⟨_, rfl, ?_⟩
                                have n0_ := Aside0.mk (Kd.R_below (by (with_reducible repeat (first | apply Kd.R_alloc | apply Kd.R_drewN | apply Kd.R_drew)); exact HO_5.out) hb)
                                have n1_ := Aside0.mk (Kd.S_below (by (with_reducible repeat (first | apply Kd.S_alloc | apply Kd.S_drewN | apply Kd.S_drew)); exact HO_153003.out) hb)
                                have n2_ := Aside0.mk (blk_below (g := gb152) (o := .cells #[.string (⟨#[103]⟩ : ByteArray), .string (⟨#[114]⟩ : ByteArray), .string (⟨#[49]⟩ : ByteArray), u153003] 29 (0, 0)) (by (with_reducible repeat (first | refine blk_drewN ?_ _ | refine blk_drew ?_ | refine blk_alloc ?_ _)); exact BK152.out) hb)
                                have n3_ := Aside0.mk (below_step (by repeat (first | (with_reducible first | exact HB.out | apply below_alloc | apply pw_below_drewN | apply below_drew1 | refine below_set ?_ GE152.out) | exact HB.out)) hb)
                                clear HO_5
                                clear HO_153003
                                clear BK152
                                clear HB
                                have HO_5 := n0_
                                have HO_153003 := n1_
                                have BK152 := n2_
                                have HB := n3_
                                clear n0_ n1_ n2_ n3_
                                (try clear hb)
                                (try clear hb2)
                                (try clear hk)
                                (try clear hi)
                                refine hK.out _ _ ⟨(blk_cell BK152.out 0).trans rfl, (blk_cell BK152.out 1).trans rfl, (blk_cell BK152.out 2).trans rfl, (blk_cell BK152.out 3).trans rfl⟩ (fun hHeld => ?_)
                                clear hK K
                                refine norm_ (a' := ?_) ?_ ?_
                                rotate_left
                                · show Act.put _ (some 42) _ = _
                                  simp only [Act.put, List.setIfInBounds_toArray, List.set_cons_zero, List.set_cons_succ, i64_w, i32_w]
                                  rfl
                                refine pure_ (i := 7) (N := some 43) (v := ?_) (a' := ?_) #[true, true, true, true, true, true, true, true, false, false, false, false, false] rfl rfl (any_of HT_.out (by kernel_rfl)) (fun _ _ _ h => h) (Or.inl ⟨by rfl, ?_⟩) ?_ ?_
                                rotate_left
                                · intro w'
                                  go_simp
                                  with_reducible rfl
                                rotate_left
                                · simp only [Act.put, List.setIfInBounds_toArray, List.set_cons_zero, List.set_cons_succ, i64_w, i32_w]
                                  rfl
                                refine pure_ (i := 8) (N := some 44) (v := ?_) (a' := ?_) #[true, true, true, true, true, true, true, true, true, false, false, false, false] rfl rfl (any_of HT_.out (by kernel_rfl)) (fun _ _ _ h => h) (Or.inl ⟨by rfl, ?_⟩) ?_ ?_
                                rotate_left
                                · intro w'
                                  go_simp
                                  with_reducible rfl
                                rotate_left
                                · simp only [Act.put, List.setIfInBounds_toArray, List.set_cons_zero, List.set_cons_succ, i64_w, i32_w]
                                  rfl
                                refine one_ (i := 9) (N := some 45) #[true, true, true, true, true, true, true, true, true, true, false, false, false] rfl rfl (one_of HT_.out (by kernel_rfl)) (by decide) (fun K hK => ?_)
                                refine value_ (w1 := ?_) (v := ?_) (by rfl) rfl ?_ ?_
                                rotate_left 2
                                · go_simp
                                  constructor
                                  · rfl
                                  · rfl
                                refine hK.out _ _ ⟨(blk_cell (blk_alloc BK152.out _) 0).trans rfl, (blk_cell (blk_alloc BK152.out _) 1).trans rfl, (blk_cell (blk_alloc BK152.out _) 2).trans rfl, (blk_cell (blk_alloc BK152.out _) 3).trans rfl⟩ (fun hHeld => ?_)
                                clear hK K
                                refine norm_ (a' := ?_) ?_ ?_
                                rotate_left
                                · show Act.put _ (some 45) _ = _
                                  simp only [Act.put, List.setIfInBounds_toArray, List.set_cons_zero, List.set_cons_succ, i64_w, i32_w]
                                  rfl
                                refine one_ (i := 10) (N := some 46) #[true, true, true, true, true, true, true, true, true, true, true, false, false] rfl rfl (one_of HT_.out (by kernel_rfl)) (by decide) (fun K hK => ?_)
                                refine Kd.S_append_step k35 (w0 := w) w.heap.size (by rfl) (.tmp 37) (.tmp 45) 27 35 (.agg #[(.int .i64 0), (.int .i64 0), (.string ⟨#[]⟩), (.string ⟨#[]⟩), (.string ⟨#[]⟩), (.string ⟨#[]⟩), (.string ⟨#[]⟩), (.string ⟨#[]⟩), (.bool false), (.slice none 0 0), (.int .i64 0)]) 152 rfl Try.underlying27 info35 rfl (by decide) (by omega) u153003 x153003_1 (⟨wrap64 (x9_1 - 1), 0, (⟨(⟨#[103]⟩ : ByteArray), (⟨#[110]⟩ : ByteArray), t159, (⟨#[112, 111, 109]⟩ : ByteArray), (⟨#[99]⟩ : ByteArray), (⟨#[116, 101, 115, 116]⟩ : ByteArray), false, ([] : List (S90))⟩ : S33), wrap64 (1 + (wrap64 (Int.tmod (IntKind.u64.wrap (rd l1 x9_1)) 4)))⟩ : S35) [.int .i64 (wrap64 (x9_1 - 1)), .int .i64 0, .string (⟨#[103]⟩ : ByteArray), .string (⟨#[110]⟩ : ByteArray), .string t159, .string (⟨#[112, 111, 109]⟩ : ByteArray), .string (⟨#[99]⟩ : ByteArray), .string (⟨#[116, 101, 115, 116]⟩ : ByteArray), .bool false, .slice none 0 0, .int .i64 (wrap64 (1 + (wrap64 (Int.tmod (IntKind.u64.wrap (rd l1 x9_1)) 4))))] (fun _ => True) (fun _ => False) rfl rfl ?aP (fun k_ hk_ => hk_.elim) ?aF ?aO ?aB ?aS ?aL ?_
                                (case aP => exact k35_mkM _ _ _ (⟨wrap64 (x9_1 - 1), 0, (⟨(⟨#[103]⟩ : ByteArray), (⟨#[110]⟩ : ByteArray), t159, (⟨#[112, 111, 109]⟩ : ByteArray), (⟨#[99]⟩ : ByteArray), (⟨#[116, 101, 115, 116]⟩ : ByteArray), false, ([] : List (S90))⟩ : S33), wrap64 (1 + (wrap64 (Int.tmod (IntKind.u64.wrap (rd l1 x9_1)) 4)))⟩ : S35) (Kd.R_nil _ _ _ _ _))
                                (case aB => exact (by repeat (first | (with_reducible first | exact HB.out | apply below_alloc | apply pw_below_drewN | apply below_drew1 | refine below_set ?_ GE152.out) | exact HB.out)))
                                (case aF => exact (fun _ _ => trivial))
                                (case aO => exact (by (with_reducible repeat (first | apply Kd.S_alloc | apply Kd.S_drewN | apply Kd.S_drew)); exact Kd.S_mono HO_153003.out (fun k_ hk => ⟨trivial, fun e_ => e_⟩)))
                                (case aS => exact (below_size (by repeat (first | (with_reducible first | exact HB.out | apply below_alloc | apply pw_below_drewN | apply below_drew1 | refine below_set ?_ GE152.out) | exact HB.out))))
                                (case aL => have := LMc11.out; omega)
                                intro v161 w25 ho hb hg hat
                                rw [← Ny160.out] at ho
                                have n0_ := Aside0.mk (Kd.R_over' (by (with_reducible repeat (first | apply Kd.R_alloc | apply Kd.R_drewN | apply Kd.R_drew)); exact HO_5.out) (Kd.S_typed (by (with_reducible repeat (first | apply Kd.S_alloc | apply Kd.S_drewN | apply Kd.S_drew)); exact HO_153003.out)) (by decide) hg)
                                have n1_ := Aside0.mk (blk_grown (g := gb152) (o := .cells #[.string (⟨#[103]⟩ : ByteArray), .string (⟨#[114]⟩ : ByteArray), .string (⟨#[49]⟩ : ByteArray), u153003] 29 (0, 0)) (by (with_reducible repeat (first | refine blk_drewN ?_ _ | refine blk_drew ?_ | refine blk_alloc ?_ _)); exact BK152.out) hg (Kd.S_ne HO_153003.out BK152.out (by decide)))
                                have n2_ := Aside0.mk (hb)
                                have n3_ := Aside0.mk (ho)
                                clear HO_5
                                clear BK152
                                clear HB
                                clear HO_153003
                                have HO_5 := n0_
                                have BK152 := n1_
                                have HB := n2_
                                have HO162 := n3_
                                clear n0_ n1_ n2_ n3_
                                clear ho hb hg hat
                                obtain ⟨Ao26, co26, eo26⟩ := Kd.S_slice HO162.out
                                (first | subst eo26 | (injection eo26 with f1_ f2_ f3_; have f4_ := f1_.symm; have f5_ := f3_.symm; clear f1_ f2_ f3_; subst f4_; subst f5_))
                                refine hK.out _ _ ⟨(blk_cell BK152.out 0).trans rfl, (blk_cell BK152.out 1).trans rfl, (blk_cell BK152.out 2).trans rfl, (blk_cell BK152.out 3).trans rfl⟩ (fun hHeld => ?_)
                                clear hK K
                                refine norm_ (a' := ?_) ?_ ?_
                                rotate_left
                                · show Act.put _ (some 46) _ = _
                                  simp only [Act.put, List.setIfInBounds_toArray, List.set_cons_zero, List.set_cons_succ, i64_w, i32_w]
                                  rfl
                                refine pure_ (i := 11) (N := some 47) (v := ?_) (a' := ?_) #[true, true, true, true, true, true, true, true, true, true, true, true, false] rfl rfl (any_of HT_.out (by kernel_rfl)) (fun _ _ _ h => h) (Or.inl ⟨by rfl, ?_⟩) ?_ ?_
                                rotate_left
                                · intro w'
                                  go_simp
                                  with_reducible rfl
                                rotate_left
                                · simp only [Act.put, List.setIfInBounds_toArray, List.set_cons_zero, List.set_cons_succ, i64_w, i32_w]
                                  rfl
                                refine last_ (i := 12) (N := none) #[true, true, true, true, true, true, true, true, true, true, true, true, true] rfl rfl (one_of HT_.out (by kernel_rfl)) (by decide) (fun K hK => ?_)
                                have hs27 : w25.cell? ⟨gb152, 3, none⟩ = some (u153003) := (blk_cell BK152.out 3).trans rfl
                                have hfs27 := blk_frozen BK152.out 3
                                refine skip_ (w1 := ?_) (by rfl) rfl ?_ ?_
                                rotate_left
                                · go_simp
                                  rfl
                                refine hK.out _ _ ?_
                                clear hK K
                                refine done_ (done_of HT_.out (by kernel_rfl)) ?_
                                try go_wp2
                                have n0_ : Aside0 (Kd.R Kd.string 9 (w25.setCell ⟨gb152, 3, none⟩ (.slice Ao26 y160.length co26)) w.heap.size (fun _ => True) v150 y149) := ⟨by (with_reducible repeat (first | apply Kd.R_alloc | apply Kd.R_drewN | apply Kd.R_drew)); exact Kd.R_mono (Kd.R_far (p := ⟨gb152, 3, none⟩) (Kd.R_types HO_5.out BK152.out (by decide)) (fun _ hk => hk.2) (.slice Ao26 y160.length co26)) (fun _ hk => trivial)⟩
                                have n1_ : Aside0 (Kd.S k35 35 (w25.setCell ⟨gb152, 3, none⟩ (.slice Ao26 y160.length co26)) w.heap.size (fun _ => True) (.slice Ao26 y160.length co26) y160) := ⟨by (with_reducible repeat (first | apply Kd.S_alloc | apply Kd.S_drewN | apply Kd.S_drew)); exact Kd.S_mono (Kd.S_far (p := ⟨gb152, 3, none⟩) (Kd.S_types HO162.out BK152.out (by decide)) (fun _ hk => hk.2) (.slice Ao26 y160.length co26)) (fun _ hk => trivial)⟩
                                have n2_ : Aside0 ((w25.setCell ⟨gb152, 3, none⟩ (.slice Ao26 y160.length co26)).heap[gb152]? = some (.cells #[.string (⟨#[103]⟩ : ByteArray), .string (⟨#[114]⟩ : ByteArray), .string (⟨#[49]⟩ : ByteArray), .slice Ao26 y160.length co26] 29 (0, 0))) := ⟨by (with_reducible repeat (first | refine blk_drewN ?_ _ | refine blk_drew ?_ | refine blk_alloc ?_ _)); refine blk_put (cs := #[.string (⟨#[103]⟩ : ByteArray), .string (⟨#[114]⟩ : ByteArray), .string (⟨#[49]⟩ : ByteArray), u153003]) ?_ 3 _ rfl; (with_reducible repeat (first | refine blk_drewN ?_ _ | refine blk_drew ?_ | refine blk_alloc ?_ _)); exact BK152.out⟩
                                have n3_ : Aside0 (Below w.heap.size w (w25.setCell ⟨gb152, 3, none⟩ (.slice Ao26 y160.length co26))) := ⟨by repeat (first | (with_reducible first | exact HB.out | apply below_alloc | apply pw_below_drewN | apply below_drew1 | refine below_set ?_ GE152.out) | exact HB.out)⟩
                                (try clear HO_5)
                                (try clear HO162)
                                (try clear BK152)
                                (try clear HB)
                                generalize (w25.setCell ⟨gb152, 3, none⟩ (.slice Ao26 y160.length co26)) = w28 at n0_ n1_ n2_ n3_ ⊢
                                have HO_5 := n0_
                                have HO162 := n1_
                                have BK152 := n2_
                                have HB := n3_
                                clear n0_ n1_ n2_ n3_
                                have n0_ := Aside0.mk (Kd.R_drew HO_5.out)
                                have n1_ := Aside0.mk (Kd.S_drew HO162.out)
                                have n2_ := Aside0.mk (blk_drew BK152.out)
                                have n3_ := Aside0.mk (below_drew1 HB.out)
                                clear HO_5
                                clear HO162
                                clear BK152
                                clear HB
                                have HO_5 := n0_
                                have HO162 := n1_
                                have BK152 := n2_
                                have HB := n3_
                                clear n0_ n1_ n2_ n3_
                                obtain ⟨Ao30, co30, eo30⟩ := Kd.R_slice HO_5.out
                                (first | subst eo30 | (injection eo30 with f1_ f2_ f3_; have f4_ := f1_.symm; have f5_ := f3_.symm; clear f1_ f2_ f3_; subst f4_; subst f5_))
                                have p164 : 0 ≤ ((ji18) : Int) := of_decide_eq_true (by first | (with_reducible assumption) | assumption)
                                have q164 : (ji18) < (y149.length : Int) := of_decide_eq_true (by first | (with_reducible assumption) | assumption)
                                obtain ⟨ad164, e164, hx164_0⟩ := Kd.at_string (Kd.R_reads' HO_5.out).2.2 (ji18) p164 q164
                                cases e164
                                replace p164 := eq_true p164
                                replace q164 := eq_true q164
                                refine start_ (n := 16) (S := fun w' => w'.cell? (ad164.add ((ji18)).toNat) = some (.string (rdOf ByteArray.empty y149 (ji18)))) (ds := []) #[false, false, false, false, false, false, false, false, false, false, false, false, false, false, false, false] (by kernel_rfl) rfl rfl (hx164_0) (fun hHeld => ?_); refine with_tabW newellaw25_VerboseLines.tab13 newellaw25_VerboseLines.bits13 (fun HT_ HW_ => ?_)
                                generalize w28.drew = w29 at HO_5 HO162 BK152 HB hx164_0 hHeld ⊢
                                refine pure_ (i := 0) (N := some 50) (v := ?_) (a' := ?_) #[true, false, false, false, false, false, false, false, false, false, false, false, false, false, false, false] rfl rfl (any_of HT_.out (by kernel_rfl)) (fun _ _ _ h => h) (Or.inl ⟨by rfl, ?_⟩) ?_ ?_
                                rotate_left
                                · intro w'
                                  go_simp
                                  with_reducible rfl
                                rotate_left
                                · simp only [Act.put, List.setIfInBounds_toArray, List.set_cons_zero, List.set_cons_succ, i64_w, i32_w]
                                  rfl
                                refine pure_ (i := 1) (N := some 51) (v := ?_) (a' := ?_) #[true, true, false, false, false, false, false, false, false, false, false, false, false, false, false, false] rfl rfl (any_of HT_.out (by kernel_rfl)) (fun _ _ _ h => h) (Or.inl ⟨by rfl, ?_⟩) ?_ ?_
                                rotate_left
                                · intro w'
                                  go_simp
                                  with_reducible rfl
                                rotate_left
                                · simp only [Act.put, List.setIfInBounds_toArray, List.set_cons_zero, List.set_cons_succ, i64_w, i32_w]
                                  rfl
                                refine pure_ (i := 2) (N := some 52) (v := ?_) (a' := ?_) #[true, true, true, false, false, false, false, false, false, false, false, false, false, false, false, false] rfl rfl (any_of HT_.out (by kernel_rfl)) (fun _ _ _ h => h) (Or.inl ⟨by rfl, ?_⟩) ?_ ?_
                                rotate_left
                                · intro w'
                                  go_simp
                                  with_reducible rfl
                                rotate_left
                                · simp only [Act.put, List.setIfInBounds_toArray, List.set_cons_zero, List.set_cons_succ, i64_w, i32_w]
                                  rfl
                                refine pure_ (i := 3) (N := some 53) (v := ?_) (a' := ?_) #[true, true, true, true, false, false, false, false, false, false, false, false, false, false, false, false] rfl rfl (any_of HT_.out (by kernel_rfl)) (fun _ _ _ h => h) (Or.inl ⟨by rfl, ?_⟩) ?_ ?_
                                rotate_left
                                · intro w'
                                  go_simp
                                  with_reducible rfl
                                rotate_left
                                · simp only [Act.put, List.setIfInBounds_toArray, List.set_cons_zero, List.set_cons_succ, i64_w, i32_w]
                                  rfl
                                refine pure_ (i := 4) (N := some 54) (v := ?_) (a' := ?_) #[true, true, true, true, true, false, false, false, false, false, false, false, false, false, false, false] rfl rfl (any_of HT_.out (by kernel_rfl)) (fun _ _ _ h => h) (Or.inl ⟨by rfl, ?_⟩) ?_ ?_
                                rotate_left
                                · intro w'
                                  go_simp
                                  with_reducible rfl
                                rotate_left
                                · simp only [Act.put, List.setIfInBounds_toArray, List.set_cons_zero, List.set_cons_succ, i64_w, i32_w]
                                  rfl
                                refine pure_ (i := 8) (N := some 58) (v := ?_) (a' := ?_) #[true, true, true, true, true, false, false, false, true, false, false, false, false, false, false, false] rfl rfl (any_of HT_.out (by kernel_rfl)) (fun _ _ _ h => h) (Or.inl ⟨by rfl, ?_⟩) ?_ ?_
                                rotate_left
                                · intro w'
                                  go_simp
                                  with_reducible rfl
                                rotate_left
                                · simp only [Act.put, List.setIfInBounds_toArray, List.set_cons_zero, List.set_cons_succ, i64_w, i32_w]
                                  rfl
                                refine pure_ (i := 9) (N := some 59) (v := ?_) (a' := ?_) #[true, true, true, true, true, false, false, false, true, true, false, false, false, false, false, false] rfl rfl (any_of HT_.out (by kernel_rfl)) (fun _ _ _ h => h) (Or.inl ⟨by rfl, ?_⟩) ?_ ?_
                                rotate_left
                                · intro w'
                                  go_simp
                                  with_reducible rfl
                                rotate_left
                                · simp only [Act.put, List.setIfInBounds_toArray, List.set_cons_zero, List.set_cons_succ, i64_w, i32_w]
                                  rfl
                                refine pure_ (i := 10) (N := some 60) (v := ?_) (a' := ?_) #[true, true, true, true, true, false, false, false, true, true, true, false, false, false, false, false] rfl rfl (any_of HT_.out (by kernel_rfl)) (fun _ _ _ h => h) (Or.inl ⟨by rfl, ?_⟩) ?_ ?_
                                rotate_left
                                · intro w'
                                  go_simp
                                  with_reducible rfl
                                rotate_left
                                · simp only [Act.put, List.setIfInBounds_toArray, List.set_cons_zero, List.set_cons_succ, i64_w, i32_w]
                                  rfl
                                refine pure_ (i := 11) (N := some 61) (v := ?_) (a' := ?_) #[true, true, true, true, true, false, false, false, true, true, true, true, false, false, false, false] rfl rfl (any_of HT_.out (by kernel_rfl)) (fun _ _ _ h => h) (Or.inl ⟨by rfl, ?_⟩) ?_ ?_
                                rotate_left
                                · intro w'
                                  go_simp
                                  with_reducible rfl
                                rotate_left
                                · simp only [Act.put, List.setIfInBounds_toArray, List.set_cons_zero, List.set_cons_succ, i64_w, i32_w]
                                  rfl
                                refine take_ (i := 12) (N := some 62) (v := ?_) (a' := ?_) #[true, true, true, true, true, false, false, false, true, true, true, true, true, false, false, false] rfl rfl (take_ofW HT_.out HW_.out (by kernel_rfl)) (fun _ _ _ h => h) (Or.inl ⟨by rfl, ?_⟩) hHeld ?_ ?_
                                rotate_left
                                · intro w' s0
                                  go_simp
                                  with_reducible rfl
                                rotate_left
                                · simp only [Act.put, List.setIfInBounds_toArray, List.set_cons_zero, List.set_cons_succ, i64_w, i32_w]
                                  rfl
                                refine one_ (i := 5) (N := some 55) #[true, true, true, true, true, true, false, false, true, true, true, true, true, false, false, false] rfl rfl (one_of HT_.out (by kernel_rfl)) (by decide) (fun K hK => ?_)
                                refine goes_ Try.func4 (by kernel_rfl) rfl #[.int .i64 x9_1] (by rfl) rfl rfl (by (try simp only [List.map_toArray, List.map_cons, List.map_nil]); first | done | rfl | (simp only [List.length_drop, List.length_take]; rfl)) ?_
                                with_reducible refine (newelhelp_Digits.calls k1 x9_1 t163 _ A15.out).mono ?_
                                rintro e w31 ⟨rfl, hb⟩
                                have HS0_ := (hb.cell (World.block_lt_of_cell? _ _ (hHeld))).trans (hHeld)
                                refine ⟨_, rfl, ?_⟩
                                have n0_ := Aside0.mk (Kd.R_below (by (with_reducible repeat (first | apply Kd.R_alloc | apply Kd.R_drewN | apply Kd.R_drew)); exact HO_5.out) hb)
                                have n1_ := Aside0.mk (Kd.S_below (by (with_reducible repeat (first | apply Kd.S_alloc | apply Kd.S_drewN | apply Kd.S_drew)); exact HO162.out) hb)
                                have n2_ := Aside0.mk (blk_below (g := gb152) (o := .cells #[.string (⟨#[103]⟩ : ByteArray), .string (⟨#[114]⟩ : ByteArray), .string (⟨#[49]⟩ : ByteArray), .slice Ao26 y160.length co26] 29 (0, 0)) (by (with_reducible repeat (first | refine blk_drewN ?_ _ | refine blk_drew ?_ | refine blk_alloc ?_ _)); exact BK152.out) hb)
                                have n3_ := Aside0.mk (below_step (by repeat (first | (with_reducible first | exact HB.out | apply below_alloc | apply pw_below_drewN | apply below_drew1 | refine below_set ?_ GE152.out) | exact HB.out)) hb)
                                clear HO_5
                                clear HO162
                                clear BK152
                                clear HB
                                have HO_5 := n0_
                                have HO162 := n1_
                                have BK152 := n2_
                                have HB := n3_
                                clear n0_ n1_ n2_ n3_
                                (try clear hb)
                                (try clear hb2)
                                (try clear hk)
                                (try clear hi)
                                refine hK.out _ _ (HS0_) (fun hHeld => ?_)
                                clear hK K
                                refine norm_ (a' := ?_) ?_ ?_
                                rotate_left
                                · show Act.put _ (some 55) _ = _
                                  simp only [Act.put, List.setIfInBounds_toArray, List.set_cons_zero, List.set_cons_succ, i64_w, i32_w]
                                  rfl
                                refine pure_ (i := 6) (N := some 56) (v := ?_) (a' := ?_) #[true, true, true, true, true, true, true, false, true, true, true, true, true, false, false, false] rfl rfl (any_of HT_.out (by kernel_rfl)) (fun _ _ _ h => h) (Or.inl ⟨by rfl, ?_⟩) ?_ ?_
                                rotate_left
                                · intro w'
                                  go_simp
                                  with_reducible rfl
                                rotate_left
                                · simp only [Act.put, List.setIfInBounds_toArray, List.set_cons_zero, List.set_cons_succ, i64_w, i32_w]
                                  rfl
                                refine pure_ (i := 7) (N := some 57) (v := ?_) (a' := ?_) #[true, true, true, true, true, true, true, true, true, true, true, true, true, false, false, false] rfl rfl (any_of HT_.out (by kernel_rfl)) (fun _ _ _ h => h) (Or.inl ⟨by rfl, ?_⟩) ?_ ?_
                                rotate_left
                                · intro w'
                                  go_simp
                                  with_reducible rfl
                                rotate_left
                                · simp only [Act.put, List.setIfInBounds_toArray, List.set_cons_zero, List.set_cons_succ, i64_w, i32_w]
                                  rfl
                                refine pure_ (i := 13) (N := some 63) (v := ?_) (a' := ?_) #[true, true, true, true, true, true, true, true, true, true, true, true, true, true, false, false] rfl rfl (any_of HT_.out (by kernel_rfl)) (fun _ _ _ h => h) (Or.inl ⟨by rfl, ?_⟩) ?_ ?_
                                rotate_left
                                · intro w'
                                  go_simp
                                  with_reducible rfl
                                rotate_left
                                · simp only [Act.put, List.setIfInBounds_toArray, List.set_cons_zero, List.set_cons_succ, i64_w, i32_w]
                                  rfl
                                refine pure_ (i := 14) (N := some 64) (v := ?_) (a' := ?_) #[true, true, true, true, true, true, true, true, true, true, true, true, true, true, true, false] rfl rfl (any_of HT_.out (by kernel_rfl)) (fun _ _ _ h => h) (Or.inl ⟨by rfl, ?_⟩) ?_ ?_
                                rotate_left
                                · intro w'
                                  go_simp
                                  with_reducible rfl
                                rotate_left
                                · simp only [Act.put, List.setIfInBounds_toArray, List.set_cons_zero, List.set_cons_succ, i64_w, i32_w]
                                  rfl
                                refine pure_ (i := 15) (N := some 7) (v := ?_) (a' := ?_) #[true, true, true, true, true, true, true, true, true, true, true, true, true, true, true, true] rfl rfl (any_of HT_.out (by kernel_rfl)) (fun _ _ _ h => h) (Or.inl ⟨by rfl, ?_⟩) ?_ ?_
                                rotate_left
                                · intro w'
                                  go_simp
                                  with_reducible rfl
                                rotate_left
                                · simp only [Act.put, List.setIfInBounds_toArray, List.set_cons_zero, List.set_cons_succ, i64_w, i32_w]
                                  rfl
                                refine done_ (done_of HT_.out (by kernel_rfl)) ?_
                                try go_wp2
                                go_roundg k1
                                case measure => have := HK1.out; omega
                                case rel => exact ⟨((((((x7_1 ++ (x8_1 ++ (⟨#[32, 32]⟩ : ByteArray))) ++ (⟨#[103, 58, 110, 58, 112, 111, 109, 58, 99, 58]⟩ : ByteArray)) ++ t163) ++ (⟨#[58, 116, 101, 115, 116]⟩ : ByteArray)) ++ (rdOf ByteArray.empty y149 (ji18))) ++ (⟨#[10]⟩ : ByteArray)), (x8_1 ++ (⟨#[32, 32]⟩ : ByteArray)), (wrap64 (x9_1 + 1)), (y160), (.slice Ao26 y160.length co26), (by first | rfl | (simp; done) | (simp only [← hji18] <;> (first | rfl | simp)) | (simp [*]; done)), (by first | rfl | (simp; done) | (simp [*]; done)), (by first | rfl | (simp; done) | (simp [*]; done)), H', ⟨by have := HK1.out; omega⟩, ⟨by (with_reducible repeat (first | apply Kd.R_alloc | apply Kd.R_drewN | apply Kd.R_drew)); exact HO_5.out⟩, ⟨by (with_reducible repeat (first | apply Kd.S_alloc | apply Kd.S_drewN | apply Kd.S_drew)); exact HO162.out⟩, ⟨by (with_reducible repeat (first | refine blk_drewN ?_ _ | refine blk_drew ?_ | refine blk_alloc ?_ _)); exact BK152.out⟩, ⟨by repeat (first | (with_reducible first | exact HB.out | apply below_alloc | apply pw_below_drewN | apply below_drew1 | refine below_set ?_ GE152.out) | exact HB.out)⟩⟩
                              · rw [if_neg c22] at H
                                exact absurd H (by simp)
                            · rw [if_neg c21] at H
                              exact absurd H (by simp)
                          · rw [if_neg c20] at H
                            exact absurd H (by simp)
                        · rw [if_neg c19] at H
                          exact absurd H (by simp)
                      · rw [if_neg c17] at H
                        exact absurd H (by simp)
                    · rw [if_neg c16] at H
                      exact absurd H (by simp)
                  · rw [if_neg c14] at H
                    exact absurd H (by simp)
                · rw [if_neg c13] at H
                  exact absurd H (by simp)
              · rw [if_neg c12] at H
                exact absurd H (by simp)
            · rw [if_neg c11] at H
              exact absurd H (by simp)
          · rw [if_neg c9] at H
            exact absurd H (by simp)
        · rw [if_neg c8] at H
          have c8b0 : decide (x9_1 < (l1.length : Int)) = false := decide_eq_false c8
          clear c8
          replace H := Option.bind_eq_some_iff.mp H
          obtain ⟨t165, A320, H⟩ := H
          replace H : (if x153003_1.length < 925904528653 then (if x8_1.size + 2 ≤ 9223372036854775807 then (if x7_1.size + (x8_1 ++ (⟨#[32, 32]⟩ : ByteArray)).size ≤ 9223372036854775807 then (if (x7_1 ++ (x8_1 ++ (⟨#[32, 32]⟩ : ByteArray))).size + 10 ≤ 9223372036854775807 then ((newelhelp_Digits.f k1 x9_1).bind fun t169 => (if ((x7_1 ++ (x8_1 ++ (⟨#[32, 32]⟩ : ByteArray))) ++ (⟨#[103, 58, 110, 58, 112, 111, 109, 58, 99, 58]⟩ : ByteArray)).size + t169.size ≤ 9223372036854775807 then (if (((x7_1 ++ (x8_1 ++ (⟨#[32, 32]⟩ : ByteArray))) ++ (⟨#[103, 58, 110, 58, 112, 111, 109, 58, 99, 58]⟩ : ByteArray)) ++ t169).size + 5 ≤ 9223372036854775807 then (if (0 : Int) ≤ (1 - 1) then (if (1 - 1) < (y149.length : Int) then (if ((((x7_1 ++ (x8_1 ++ (⟨#[32, 32]⟩ : ByteArray))) ++ (⟨#[103, 58, 110, 58, 112, 111, 109, 58, 99, 58]⟩ : ByteArray)) ++ t169) ++ (⟨#[58, 116, 101, 115, 116]⟩ : ByteArray)).size + (rdOf ByteArray.empty y149 (1 - 1)).size ≤ 9223372036854775807 then (if (((((x7_1 ++ (x8_1 ++ (⟨#[32, 32]⟩ : ByteArray))) ++ (⟨#[103, 58, 110, 58, 112, 111, 109, 58, 99, 58]⟩ : ByteArray)) ++ t169) ++ (⟨#[58, 116, 101, 115, 116]⟩ : ByteArray)) ++ (rdOf ByteArray.empty y149 (1 - 1))).size + 1 ≤ 9223372036854775807 then (newellaw25_VerboseLines.l0 k1 (wrap64 (1 + (wrap64 (Int.tmod (IntKind.u64.wrap (a0)) 12)))) l1 y149 ((((((x7_1 ++ (x8_1 ++ (⟨#[32, 32]⟩ : ByteArray))) ++ (⟨#[103, 58, 110, 58, 112, 111, 109, 58, 99, 58]⟩ : ByteArray)) ++ t169) ++ (⟨#[58, 116, 101, 115, 116]⟩ : ByteArray)) ++ (rdOf ByteArray.empty y149 (1 - 1))) ++ (⟨#[10]⟩ : ByteArray)) (x8_1 ++ (⟨#[32, 32]⟩ : ByteArray)) (wrap64 (x9_1 + 1)) (⟨#[103]⟩ : ByteArray) (⟨#[114]⟩ : ByteArray) (⟨#[49]⟩ : ByteArray) (x153003_1 ++ [(⟨wrap64 (x9_1 - 1), 0, (⟨(⟨#[103]⟩ : ByteArray), (⟨#[110]⟩ : ByteArray), t165, (⟨#[112, 111, 109]⟩ : ByteArray), (⟨#[99]⟩ : ByteArray), (⟨#[116, 101, 115, 116]⟩ : ByteArray), false, ([] : List (S90))⟩ : S33), 1⟩ : S35)])) else (none)) else (none)) else (none)) else (none)) else (none)) else (none))) else (none)) else (none)) else (none)) else (none)) = some r := H
          have A32 := Aside0.mk A320
          clear A320
          by_cases c33 : x153003_1.length < 925904528653
          · rw [if_pos c33] at H
            have LMc33 := Aside0.mk c33
            clear c33
            obtain ⟨y166, hy166⟩ : ∃ y_ : List (S35), y_ = (x153003_1 ++ [(⟨wrap64 (x9_1 - 1), 0, (⟨(⟨#[103]⟩ : ByteArray), (⟨#[110]⟩ : ByteArray), t165, (⟨#[112, 111, 109]⟩ : ByteArray), (⟨#[99]⟩ : ByteArray), (⟨#[116, 101, 115, 116]⟩ : ByteArray), false, ([] : List (S90))⟩ : S33), 1⟩ : S35)]) := ⟨_, rfl⟩
            replace H : (if x8_1.size + 2 ≤ 9223372036854775807 then (if x7_1.size + (x8_1 ++ (⟨#[32, 32]⟩ : ByteArray)).size ≤ 9223372036854775807 then (if (x7_1 ++ (x8_1 ++ (⟨#[32, 32]⟩ : ByteArray))).size + 10 ≤ 9223372036854775807 then ((newelhelp_Digits.f k1 x9_1).bind fun t169 => (if ((x7_1 ++ (x8_1 ++ (⟨#[32, 32]⟩ : ByteArray))) ++ (⟨#[103, 58, 110, 58, 112, 111, 109, 58, 99, 58]⟩ : ByteArray)).size + t169.size ≤ 9223372036854775807 then (if (((x7_1 ++ (x8_1 ++ (⟨#[32, 32]⟩ : ByteArray))) ++ (⟨#[103, 58, 110, 58, 112, 111, 109, 58, 99, 58]⟩ : ByteArray)) ++ t169).size + 5 ≤ 9223372036854775807 then (if (0 : Int) ≤ (1 - 1) then (if (1 - 1) < (y149.length : Int) then (if ((((x7_1 ++ (x8_1 ++ (⟨#[32, 32]⟩ : ByteArray))) ++ (⟨#[103, 58, 110, 58, 112, 111, 109, 58, 99, 58]⟩ : ByteArray)) ++ t169) ++ (⟨#[58, 116, 101, 115, 116]⟩ : ByteArray)).size + (rdOf ByteArray.empty y149 (1 - 1)).size ≤ 9223372036854775807 then (if (((((x7_1 ++ (x8_1 ++ (⟨#[32, 32]⟩ : ByteArray))) ++ (⟨#[103, 58, 110, 58, 112, 111, 109, 58, 99, 58]⟩ : ByteArray)) ++ t169) ++ (⟨#[58, 116, 101, 115, 116]⟩ : ByteArray)) ++ (rdOf ByteArray.empty y149 (1 - 1))).size + 1 ≤ 9223372036854775807 then (newellaw25_VerboseLines.l0 k1 (wrap64 (1 + (wrap64 (Int.tmod (IntKind.u64.wrap (a0)) 12)))) l1 y149 ((((((x7_1 ++ (x8_1 ++ (⟨#[32, 32]⟩ : ByteArray))) ++ (⟨#[103, 58, 110, 58, 112, 111, 109, 58, 99, 58]⟩ : ByteArray)) ++ t169) ++ (⟨#[58, 116, 101, 115, 116]⟩ : ByteArray)) ++ (rdOf ByteArray.empty y149 (1 - 1))) ++ (⟨#[10]⟩ : ByteArray)) (x8_1 ++ (⟨#[32, 32]⟩ : ByteArray)) (wrap64 (x9_1 + 1)) (⟨#[103]⟩ : ByteArray) (⟨#[114]⟩ : ByteArray) (⟨#[49]⟩ : ByteArray) y166) else (none)) else (none)) else (none)) else (none)) else (none)) else (none))) else (none)) else (none)) else (none)) = some r := by first | (rw [hy166]; with_reducible exact H) | (have H2_ := (Option.bind_some _ _).symm.trans H; rw [hy166]; with_reducible exact H2_) | (have H2_ := (Option.bind_some _ _).symm.trans H; with_reducible exact H2_) | with_reducible exact H | (rw [hy166]; exact H) | exact H
            have Ny166 := Aside0.mk hy166
            clear hy166
            by_cases c34 : x8_1.size + 2 ≤ 9223372036854775807
            · rw [if_pos c34] at H
              have c34b0 := eq_true c34
              have c34b1 : decide (x8_1.size + 2 ≤ 9223372036854775807) = true := decide_eq_true c34
              try have c34b2 : (9223372036854775807 < x8_1.size + 2) = False := eq_false (Nat.not_lt.2 c34)
              try (have c34b3 := c34b2; simp only [ByteArray.size_append, ByteArray.size_mk', List.size_toArray, List.length_cons, List.length_nil, Nat.zero_add] at c34b3)
              by_cases c35 : x7_1.size + (x8_1 ++ (⟨#[32, 32]⟩ : ByteArray)).size ≤ 9223372036854775807
              · rw [if_pos c35] at H
                have c35b0 := eq_true c35
                have c35b1 : decide (x7_1.size + (x8_1 ++ (⟨#[32, 32]⟩ : ByteArray)).size ≤ 9223372036854775807) = true := decide_eq_true c35
                try have c35b2 : (9223372036854775807 < x7_1.size + (x8_1 ++ (⟨#[32, 32]⟩ : ByteArray)).size) = False := eq_false (Nat.not_lt.2 c35)
                try (have c35b3 := c35b2; simp only [ByteArray.size_append, ByteArray.size_mk', List.size_toArray, List.length_cons, List.length_nil, Nat.zero_add] at c35b3)
                by_cases c36 : (x7_1 ++ (x8_1 ++ (⟨#[32, 32]⟩ : ByteArray))).size + 10 ≤ 9223372036854775807
                · rw [if_pos c36] at H
                  have c36b0 := eq_true c36
                  have c36b1 : decide ((x7_1 ++ (x8_1 ++ (⟨#[32, 32]⟩ : ByteArray))).size + 10 ≤ 9223372036854775807) = true := decide_eq_true c36
                  try have c36b2 : (9223372036854775807 < (x7_1 ++ (x8_1 ++ (⟨#[32, 32]⟩ : ByteArray))).size + 10) = False := eq_false (Nat.not_lt.2 c36)
                  try (have c36b3 := c36b2; simp only [ByteArray.size_append, ByteArray.size_mk', List.size_toArray, List.length_cons, List.length_nil, Nat.zero_add] at c36b3)
                  replace H := Option.bind_eq_some_iff.mp H
                  obtain ⟨t169, A370, H⟩ := H
                  replace H : (if ((x7_1 ++ (x8_1 ++ (⟨#[32, 32]⟩ : ByteArray))) ++ (⟨#[103, 58, 110, 58, 112, 111, 109, 58, 99, 58]⟩ : ByteArray)).size + t169.size ≤ 9223372036854775807 then (if (((x7_1 ++ (x8_1 ++ (⟨#[32, 32]⟩ : ByteArray))) ++ (⟨#[103, 58, 110, 58, 112, 111, 109, 58, 99, 58]⟩ : ByteArray)) ++ t169).size + 5 ≤ 9223372036854775807 then (if (0 : Int) ≤ (1 - 1) then (if (1 - 1) < (y149.length : Int) then (if ((((x7_1 ++ (x8_1 ++ (⟨#[32, 32]⟩ : ByteArray))) ++ (⟨#[103, 58, 110, 58, 112, 111, 109, 58, 99, 58]⟩ : ByteArray)) ++ t169) ++ (⟨#[58, 116, 101, 115, 116]⟩ : ByteArray)).size + (rdOf ByteArray.empty y149 (1 - 1)).size ≤ 9223372036854775807 then (if (((((x7_1 ++ (x8_1 ++ (⟨#[32, 32]⟩ : ByteArray))) ++ (⟨#[103, 58, 110, 58, 112, 111, 109, 58, 99, 58]⟩ : ByteArray)) ++ t169) ++ (⟨#[58, 116, 101, 115, 116]⟩ : ByteArray)) ++ (rdOf ByteArray.empty y149 (1 - 1))).size + 1 ≤ 9223372036854775807 then (newellaw25_VerboseLines.l0 k1 (wrap64 (1 + (wrap64 (Int.tmod (IntKind.u64.wrap (a0)) 12)))) l1 y149 ((((((x7_1 ++ (x8_1 ++ (⟨#[32, 32]⟩ : ByteArray))) ++ (⟨#[103, 58, 110, 58, 112, 111, 109, 58, 99, 58]⟩ : ByteArray)) ++ t169) ++ (⟨#[58, 116, 101, 115, 116]⟩ : ByteArray)) ++ (rdOf ByteArray.empty y149 (1 - 1))) ++ (⟨#[10]⟩ : ByteArray)) (x8_1 ++ (⟨#[32, 32]⟩ : ByteArray)) (wrap64 (x9_1 + 1)) (⟨#[103]⟩ : ByteArray) (⟨#[114]⟩ : ByteArray) (⟨#[49]⟩ : ByteArray) y166) else (none)) else (none)) else (none)) else (none)) else (none)) else (none)) = some r := H
                  have A37 := Aside0.mk A370
                  clear A370
                  by_cases c38 : ((x7_1 ++ (x8_1 ++ (⟨#[32, 32]⟩ : ByteArray))) ++ (⟨#[103, 58, 110, 58, 112, 111, 109, 58, 99, 58]⟩ : ByteArray)).size + t169.size ≤ 9223372036854775807
                  · rw [if_pos c38] at H
                    have c38b0 := eq_true c38
                    have c38b1 : decide (((x7_1 ++ (x8_1 ++ (⟨#[32, 32]⟩ : ByteArray))) ++ (⟨#[103, 58, 110, 58, 112, 111, 109, 58, 99, 58]⟩ : ByteArray)).size + t169.size ≤ 9223372036854775807) = true := decide_eq_true c38
                    try have c38b2 : (9223372036854775807 < ((x7_1 ++ (x8_1 ++ (⟨#[32, 32]⟩ : ByteArray))) ++ (⟨#[103, 58, 110, 58, 112, 111, 109, 58, 99, 58]⟩ : ByteArray)).size + t169.size) = False := eq_false (Nat.not_lt.2 c38)
                    try (have c38b3 := c38b2; simp only [ByteArray.size_append, ByteArray.size_mk', List.size_toArray, List.length_cons, List.length_nil, Nat.zero_add] at c38b3)
                    by_cases c39 : (((x7_1 ++ (x8_1 ++ (⟨#[32, 32]⟩ : ByteArray))) ++ (⟨#[103, 58, 110, 58, 112, 111, 109, 58, 99, 58]⟩ : ByteArray)) ++ t169).size + 5 ≤ 9223372036854775807
                    · rw [if_pos c39] at H
                      have c39b0 := eq_true c39
                      have c39b1 : decide ((((x7_1 ++ (x8_1 ++ (⟨#[32, 32]⟩ : ByteArray))) ++ (⟨#[103, 58, 110, 58, 112, 111, 109, 58, 99, 58]⟩ : ByteArray)) ++ t169).size + 5 ≤ 9223372036854775807) = true := decide_eq_true c39
                      try have c39b2 : (9223372036854775807 < (((x7_1 ++ (x8_1 ++ (⟨#[32, 32]⟩ : ByteArray))) ++ (⟨#[103, 58, 110, 58, 112, 111, 109, 58, 99, 58]⟩ : ByteArray)) ++ t169).size + 5) = False := eq_false (Nat.not_lt.2 c39)
                      try (have c39b3 := c39b2; simp only [ByteArray.size_append, ByteArray.size_mk', List.size_toArray, List.length_cons, List.length_nil, Nat.zero_add] at c39b3)
                      obtain ⟨ji40, hji40⟩ : ∃ j_ : Int, (1 - 1) = j_ := ⟨_, rfl⟩
                      have hwji40 : wrap64 ji40 = ji40 := by unfold wrap64; omega
                      replace H : (if 0 ≤ (ji40) then (if (ji40) < (y149.length : Int) then (if ((((x7_1 ++ (x8_1 ++ (⟨#[32, 32]⟩ : ByteArray))) ++ (⟨#[103, 58, 110, 58, 112, 111, 109, 58, 99, 58]⟩ : ByteArray)) ++ t169) ++ (⟨#[58, 116, 101, 115, 116]⟩ : ByteArray)).size + (rdOf ByteArray.empty y149 (ji40)).size ≤ 9223372036854775807 then (if (((((x7_1 ++ (x8_1 ++ (⟨#[32, 32]⟩ : ByteArray))) ++ (⟨#[103, 58, 110, 58, 112, 111, 109, 58, 99, 58]⟩ : ByteArray)) ++ t169) ++ (⟨#[58, 116, 101, 115, 116]⟩ : ByteArray)) ++ (rdOf ByteArray.empty y149 (ji40))).size + 1 ≤ 9223372036854775807 then (newellaw25_VerboseLines.l0 k1 (wrap64 (1 + (wrap64 (Int.tmod (IntKind.u64.wrap (a0)) 12)))) l1 y149 ((((((x7_1 ++ (x8_1 ++ (⟨#[32, 32]⟩ : ByteArray))) ++ (⟨#[103, 58, 110, 58, 112, 111, 109, 58, 99, 58]⟩ : ByteArray)) ++ t169) ++ (⟨#[58, 116, 101, 115, 116]⟩ : ByteArray)) ++ (rdOf ByteArray.empty y149 (ji40))) ++ (⟨#[10]⟩ : ByteArray)) (x8_1 ++ (⟨#[32, 32]⟩ : ByteArray)) (wrap64 (x9_1 + 1)) (⟨#[103]⟩ : ByteArray) (⟨#[114]⟩ : ByteArray) (⟨#[49]⟩ : ByteArray) y166) else (none)) else (none)) else (none)) else (none)) = some r := by first | (rw [hji40] at H; exact H) | (simp only [hji40] at H ⊢; exact H)
                      (try rw [hji40] at A32)
                      (try rw [hji40] at Ny166)
                      (try rw [hji40] at Ny166)
                      (try rw [hji40] at A37)
                      by_cases c41 : 0 ≤ (ji40)
                      · rw [if_pos c41] at H
                        have c41b0 : decide (0 ≤ (ji40)) = true := decide_eq_true c41
                        clear c41
                        by_cases c42 : (ji40) < (y149.length : Int)
                        · rw [if_pos c42] at H
                          have c42b0 : decide ((ji40) < (y149.length : Int)) = true := decide_eq_true c42
                          clear c42
                          by_cases c43 : ((((x7_1 ++ (x8_1 ++ (⟨#[32, 32]⟩ : ByteArray))) ++ (⟨#[103, 58, 110, 58, 112, 111, 109, 58, 99, 58]⟩ : ByteArray)) ++ t169) ++ (⟨#[58, 116, 101, 115, 116]⟩ : ByteArray)).size + (rdOf ByteArray.empty y149 (ji40)).size ≤ 9223372036854775807
                          · rw [if_pos c43] at H
                            have c43b0 := eq_true c43
                            have c43b1 : decide (((((x7_1 ++ (x8_1 ++ (⟨#[32, 32]⟩ : ByteArray))) ++ (⟨#[103, 58, 110, 58, 112, 111, 109, 58, 99, 58]⟩ : ByteArray)) ++ t169) ++ (⟨#[58, 116, 101, 115, 116]⟩ : ByteArray)).size + (rdOf ByteArray.empty y149 (ji40)).size ≤ 9223372036854775807) = true := decide_eq_true c43
                            try have c43b2 : (9223372036854775807 < ((((x7_1 ++ (x8_1 ++ (⟨#[32, 32]⟩ : ByteArray))) ++ (⟨#[103, 58, 110, 58, 112, 111, 109, 58, 99, 58]⟩ : ByteArray)) ++ t169) ++ (⟨#[58, 116, 101, 115, 116]⟩ : ByteArray)).size + (rdOf ByteArray.empty y149 (ji40)).size) = False := eq_false (Nat.not_lt.2 c43)
                            try (have c43b3 := c43b2; simp only [ByteArray.size_append, ByteArray.size_mk', List.size_toArray, List.length_cons, List.length_nil, Nat.zero_add] at c43b3)
                            by_cases c44 : (((((x7_1 ++ (x8_1 ++ (⟨#[32, 32]⟩ : ByteArray))) ++ (⟨#[103, 58, 110, 58, 112, 111, 109, 58, 99, 58]⟩ : ByteArray)) ++ t169) ++ (⟨#[58, 116, 101, 115, 116]⟩ : ByteArray)) ++ (rdOf ByteArray.empty y149 (ji40))).size + 1 ≤ 9223372036854775807
                            · rw [if_pos c44] at H
                              have c44b0 := eq_true c44
                              have c44b1 : decide ((((((x7_1 ++ (x8_1 ++ (⟨#[32, 32]⟩ : ByteArray))) ++ (⟨#[103, 58, 110, 58, 112, 111, 109, 58, 99, 58]⟩ : ByteArray)) ++ t169) ++ (⟨#[58, 116, 101, 115, 116]⟩ : ByteArray)) ++ (rdOf ByteArray.empty y149 (ji40))).size + 1 ≤ 9223372036854775807) = true := decide_eq_true c44
                              try have c44b2 : (9223372036854775807 < (((((x7_1 ++ (x8_1 ++ (⟨#[32, 32]⟩ : ByteArray))) ++ (⟨#[103, 58, 110, 58, 112, 111, 109, 58, 99, 58]⟩ : ByteArray)) ++ t169) ++ (⟨#[58, 116, 101, 115, 116]⟩ : ByteArray)) ++ (rdOf ByteArray.empty y149 (ji40))).size + 1) = False := eq_false (Nat.not_lt.2 c44)
                              try (have c44b3 := c44b2; simp only [ByteArray.size_append, ByteArray.size_mk', List.size_toArray, List.length_cons, List.length_nil, Nat.zero_add] at c44b3)
                              have H' := Aside0.mk H
                              clear H
                              try go_wp2
                              have n0_ := Aside0.mk (Kd.R_drew HO_5.out)
                              have n1_ := Aside0.mk (Kd.S_drew HO_153003.out)
                              have n2_ := Aside0.mk (blk_drew BK152.out)
                              have n3_ := Aside0.mk (below_drew1 HB.out)
                              clear HO_5
                              clear HO_153003
                              clear BK152
                              clear HB
                              have HO_5 := n0_
                              have HO_153003 := n1_
                              have BK152 := n2_
                              have HB := n3_
                              clear n0_ n1_ n2_ n3_
                              refine start_ (n := 13) (S := fun w' => w'.cell? ⟨gb152, 0, none⟩ = some (.string (⟨#[103]⟩ : ByteArray)) ∧ w'.cell? ⟨gb152, 1, none⟩ = some (.string (⟨#[114]⟩ : ByteArray)) ∧ w'.cell? ⟨gb152, 2, none⟩ = some (.string (⟨#[49]⟩ : ByteArray)) ∧ w'.cell? ⟨gb152, 3, none⟩ = some (u153003)) (ds := [12]) #[false, false, false, false, false, false, false, false, false, false, false, false, false] (by kernel_rfl) rfl rfl ⟨(blk_cell BK152.out 0).trans rfl, (blk_cell BK152.out 1).trans rfl, (blk_cell BK152.out 2).trans rfl, (blk_cell BK152.out 3).trans rfl⟩ (fun hHeld => ?_); refine with_tabW newellaw25_VerboseLines.tab11 newellaw25_VerboseLines.bits11 (fun HT_ HW_ => ?_)
                              generalize wr.drew = w45 at HO_5 HO_153003 BK152 HB hHeld ⊢
                              refine pure_ (i := 0) (N := some 36) (v := ?_) (a' := ?_) #[true, false, false, false, false, false, false, false, false, false, false, false, false] rfl rfl (any_of HT_.out (by kernel_rfl)) (fun _ _ _ h => h) (Or.inl ⟨by rfl, ?_⟩) ?_ ?_
                              rotate_left
                              · intro w'
                                go_simp
                                with_reducible rfl
                              rotate_left
                              · simp only [Act.put, List.setIfInBounds_toArray, List.set_cons_zero, List.set_cons_succ, i64_w, i32_w]
                                rfl
                              refine pure_ (i := 2) (N := some 38) (v := ?_) (a' := ?_) #[true, false, true, false, false, false, false, false, false, false, false, false, false] rfl rfl (any_of HT_.out (by kernel_rfl)) (fun _ _ _ h => h) (Or.inl ⟨by rfl, ?_⟩) ?_ ?_
                              rotate_left
                              · intro w'
                                go_simp
                                with_reducible rfl
                              rotate_left
                              · simp only [Act.put, List.setIfInBounds_toArray, List.set_cons_zero, List.set_cons_succ, i64_w, i32_w]
                                rfl
                              refine pure_ (i := 3) (N := some 39) (v := ?_) (a' := ?_) #[true, false, true, true, false, false, false, false, false, false, false, false, false] rfl rfl (any_of HT_.out (by kernel_rfl)) (fun _ _ _ h => h) (Or.inl ⟨by rfl, ?_⟩) ?_ ?_
                              rotate_left
                              · intro w'
                                go_simp
                                with_reducible rfl
                              rotate_left
                              · simp only [Act.put, List.setIfInBounds_toArray, List.set_cons_zero, List.set_cons_succ, i64_w, i32_w]
                                rfl
                              refine pure_ (i := 4) (N := some 40) (v := ?_) (a' := ?_) #[true, false, true, true, true, false, false, false, false, false, false, false, false] rfl rfl (any_of HT_.out (by kernel_rfl)) (fun _ _ _ h => h) (Or.inl ⟨by rfl, ?_⟩) ?_ ?_
                              rotate_left
                              · intro w'
                                go_simp
                                with_reducible rfl
                              rotate_left
                              · simp only [Act.put, List.setIfInBounds_toArray, List.set_cons_zero, List.set_cons_succ, i64_w, i32_w]
                                rfl
                              refine pure_ (i := 5) (N := some 41) (v := ?_) (a' := ?_) #[true, false, true, true, true, true, false, false, false, false, false, false, false] rfl rfl (any_of HT_.out (by kernel_rfl)) (fun _ _ _ h => h) (Or.inl ⟨by rfl, ?_⟩) ?_ ?_
                              rotate_left
                              · intro w'
                                go_simp
                                with_reducible rfl
                              rotate_left
                              · simp only [Act.put, List.setIfInBounds_toArray, List.set_cons_zero, List.set_cons_succ, i64_w, i32_w]
                                rfl
                              refine take_ (i := 1) (N := some 37) (v := ?_) (a' := ?_) #[true, true, true, true, true, true, false, false, false, false, false, false, false] rfl rfl (take_ofW HT_.out HW_.out (by kernel_rfl)) (fun _ _ _ h => h) (Or.inl ⟨by rfl, ?_⟩) hHeld ?_ ?_
                              rotate_left
                              · rintro w' ⟨s0, s1, s2, s3⟩
                                go_simp
                                with_reducible rfl
                              rotate_left
                              · simp only [Act.put, List.setIfInBounds_toArray, List.set_cons_zero, List.set_cons_succ, i64_w, i32_w]
                                rfl
                              refine one_ (i := 6) (N := some 42) #[true, true, true, true, true, true, true, false, false, false, false, false, false] rfl rfl (one_of HT_.out (by kernel_rfl)) (by decide) (fun K hK => ?_)
                              refine goes_ Try.func4 (by kernel_rfl) rfl #[.int .i64 x9_1] (by rfl) rfl rfl (by (try simp only [List.map_toArray, List.map_cons, List.map_nil]); first | done | rfl | (simp only [List.length_drop, List.length_take]; rfl)) ?_
                              with_reducible refine (newelhelp_Digits.calls k1 x9_1 t165 _ A32.out).mono ?_
                              rintro e w46 ⟨rfl, hb⟩
                              refine ⟨_, rfl, ?_⟩
                              have n0_ := Aside0.mk (Kd.R_below (by (with_reducible repeat (first | apply Kd.R_alloc | apply Kd.R_drewN | apply Kd.R_drew)); exact HO_5.out) hb)
                              have n1_ := Aside0.mk (Kd.S_below (by (with_reducible repeat (first | apply Kd.S_alloc | apply Kd.S_drewN | apply Kd.S_drew)); exact HO_153003.out) hb)
                              have n2_ := Aside0.mk (blk_below (g := gb152) (o := .cells #[.string (⟨#[103]⟩ : ByteArray), .string (⟨#[114]⟩ : ByteArray), .string (⟨#[49]⟩ : ByteArray), u153003] 29 (0, 0)) (by (with_reducible repeat (first | refine blk_drewN ?_ _ | refine blk_drew ?_ | refine blk_alloc ?_ _)); exact BK152.out) hb)
                              have n3_ := Aside0.mk (below_step (by repeat (first | (with_reducible first | exact HB.out | apply below_alloc | apply pw_below_drewN | apply below_drew1 | refine below_set ?_ GE152.out) | exact HB.out)) hb)
                              clear HO_5
                              clear HO_153003
                              clear BK152
                              clear HB
                              have HO_5 := n0_
                              have HO_153003 := n1_
                              have BK152 := n2_
                              have HB := n3_
                              clear n0_ n1_ n2_ n3_
                              (try clear hb)
                              (try clear hb2)
                              (try clear hk)
                              (try clear hi)
                              refine hK.out _ _ ⟨(blk_cell BK152.out 0).trans rfl, (blk_cell BK152.out 1).trans rfl, (blk_cell BK152.out 2).trans rfl, (blk_cell BK152.out 3).trans rfl⟩ (fun hHeld => ?_)
                              clear hK K
                              refine norm_ (a' := ?_) ?_ ?_
                              rotate_left
                              · show Act.put _ (some 42) _ = _
                                simp only [Act.put, List.setIfInBounds_toArray, List.set_cons_zero, List.set_cons_succ, i64_w, i32_w]
                                rfl
                              refine pure_ (i := 7) (N := some 43) (v := ?_) (a' := ?_) #[true, true, true, true, true, true, true, true, false, false, false, false, false] rfl rfl (any_of HT_.out (by kernel_rfl)) (fun _ _ _ h => h) (Or.inl ⟨by rfl, ?_⟩) ?_ ?_
                              rotate_left
                              · intro w'
                                go_simp
                                with_reducible rfl
                              rotate_left
                              · simp only [Act.put, List.setIfInBounds_toArray, List.set_cons_zero, List.set_cons_succ, i64_w, i32_w]
                                rfl
                              refine pure_ (i := 8) (N := some 44) (v := ?_) (a' := ?_) #[true, true, true, true, true, true, true, true, true, false, false, false, false] rfl rfl (any_of HT_.out (by kernel_rfl)) (fun _ _ _ h => h) (Or.inl ⟨by rfl, ?_⟩) ?_ ?_
                              rotate_left
                              · intro w'
                                go_simp
                                with_reducible rfl
                              rotate_left
                              · simp only [Act.put, List.setIfInBounds_toArray, List.set_cons_zero, List.set_cons_succ, i64_w, i32_w]
                                rfl
                              refine one_ (i := 9) (N := some 45) #[true, true, true, true, true, true, true, true, true, true, false, false, false] rfl rfl (one_of HT_.out (by kernel_rfl)) (by decide) (fun K hK => ?_)
                              refine value_ (w1 := ?_) (v := ?_) (by rfl) rfl ?_ ?_
                              rotate_left 2
                              · go_simp
                                constructor
                                · rfl
                                · rfl
                              refine hK.out _ _ ⟨(blk_cell (blk_alloc BK152.out _) 0).trans rfl, (blk_cell (blk_alloc BK152.out _) 1).trans rfl, (blk_cell (blk_alloc BK152.out _) 2).trans rfl, (blk_cell (blk_alloc BK152.out _) 3).trans rfl⟩ (fun hHeld => ?_)
                              clear hK K
                              refine norm_ (a' := ?_) ?_ ?_
                              rotate_left
                              · show Act.put _ (some 45) _ = _
                                simp only [Act.put, List.setIfInBounds_toArray, List.set_cons_zero, List.set_cons_succ, i64_w, i32_w]
                                rfl
                              refine one_ (i := 10) (N := some 46) #[true, true, true, true, true, true, true, true, true, true, true, false, false] rfl rfl (one_of HT_.out (by kernel_rfl)) (by decide) (fun K hK => ?_)
                              refine Kd.S_append_step k35 (w0 := w) w.heap.size (by rfl) (.tmp 37) (.tmp 45) 27 35 (.agg #[(.int .i64 0), (.int .i64 0), (.string ⟨#[]⟩), (.string ⟨#[]⟩), (.string ⟨#[]⟩), (.string ⟨#[]⟩), (.string ⟨#[]⟩), (.string ⟨#[]⟩), (.bool false), (.slice none 0 0), (.int .i64 0)]) 152 rfl Try.underlying27 info35 rfl (by decide) (by omega) u153003 x153003_1 (⟨wrap64 (x9_1 - 1), 0, (⟨(⟨#[103]⟩ : ByteArray), (⟨#[110]⟩ : ByteArray), t165, (⟨#[112, 111, 109]⟩ : ByteArray), (⟨#[99]⟩ : ByteArray), (⟨#[116, 101, 115, 116]⟩ : ByteArray), false, ([] : List (S90))⟩ : S33), 1⟩ : S35) [.int .i64 (wrap64 (x9_1 - 1)), .int .i64 0, .string (⟨#[103]⟩ : ByteArray), .string (⟨#[110]⟩ : ByteArray), .string t165, .string (⟨#[112, 111, 109]⟩ : ByteArray), .string (⟨#[99]⟩ : ByteArray), .string (⟨#[116, 101, 115, 116]⟩ : ByteArray), .bool false, .slice none 0 0, .int .i64 1] (fun _ => True) (fun _ => False) rfl rfl ?aP (fun k_ hk_ => hk_.elim) ?aF ?aO ?aB ?aS ?aL ?_
                              (case aP => exact k35_mkM _ _ _ (⟨wrap64 (x9_1 - 1), 0, (⟨(⟨#[103]⟩ : ByteArray), (⟨#[110]⟩ : ByteArray), t165, (⟨#[112, 111, 109]⟩ : ByteArray), (⟨#[99]⟩ : ByteArray), (⟨#[116, 101, 115, 116]⟩ : ByteArray), false, ([] : List (S90))⟩ : S33), 1⟩ : S35) (Kd.R_nil _ _ _ _ _))
                              (case aB => exact (by repeat (first | (with_reducible first | exact HB.out | apply below_alloc | apply pw_below_drewN | apply below_drew1 | refine below_set ?_ GE152.out) | exact HB.out)))
                              (case aF => exact (fun _ _ => trivial))
                              (case aO => exact (by (with_reducible repeat (first | apply Kd.S_alloc | apply Kd.S_drewN | apply Kd.S_drew)); exact Kd.S_mono HO_153003.out (fun k_ hk => ⟨trivial, fun e_ => e_⟩)))
                              (case aS => exact (below_size (by repeat (first | (with_reducible first | exact HB.out | apply below_alloc | apply pw_below_drewN | apply below_drew1 | refine below_set ?_ GE152.out) | exact HB.out))))
                              (case aL => have := LMc33.out; omega)
                              intro v167 w47 ho hb hg hat
                              rw [← Ny166.out] at ho
                              have n0_ := Aside0.mk (Kd.R_over' (by (with_reducible repeat (first | apply Kd.R_alloc | apply Kd.R_drewN | apply Kd.R_drew)); exact HO_5.out) (Kd.S_typed (by (with_reducible repeat (first | apply Kd.S_alloc | apply Kd.S_drewN | apply Kd.S_drew)); exact HO_153003.out)) (by decide) hg)
                              have n1_ := Aside0.mk (blk_grown (g := gb152) (o := .cells #[.string (⟨#[103]⟩ : ByteArray), .string (⟨#[114]⟩ : ByteArray), .string (⟨#[49]⟩ : ByteArray), u153003] 29 (0, 0)) (by (with_reducible repeat (first | refine blk_drewN ?_ _ | refine blk_drew ?_ | refine blk_alloc ?_ _)); exact BK152.out) hg (Kd.S_ne HO_153003.out BK152.out (by decide)))
                              have n2_ := Aside0.mk (hb)
                              have n3_ := Aside0.mk (ho)
                              clear HO_5
                              clear BK152
                              clear HB
                              clear HO_153003
                              have HO_5 := n0_
                              have BK152 := n1_
                              have HB := n2_
                              have HO168 := n3_
                              clear n0_ n1_ n2_ n3_
                              clear ho hb hg hat
                              obtain ⟨Ao48, co48, eo48⟩ := Kd.S_slice HO168.out
                              (first | subst eo48 | (injection eo48 with f1_ f2_ f3_; have f4_ := f1_.symm; have f5_ := f3_.symm; clear f1_ f2_ f3_; subst f4_; subst f5_))
                              refine hK.out _ _ ⟨(blk_cell BK152.out 0).trans rfl, (blk_cell BK152.out 1).trans rfl, (blk_cell BK152.out 2).trans rfl, (blk_cell BK152.out 3).trans rfl⟩ (fun hHeld => ?_)
                              clear hK K
                              refine norm_ (a' := ?_) ?_ ?_
                              rotate_left
                              · show Act.put _ (some 46) _ = _
                                simp only [Act.put, List.setIfInBounds_toArray, List.set_cons_zero, List.set_cons_succ, i64_w, i32_w]
                                rfl
                              refine pure_ (i := 11) (N := some 47) (v := ?_) (a' := ?_) #[true, true, true, true, true, true, true, true, true, true, true, true, false] rfl rfl (any_of HT_.out (by kernel_rfl)) (fun _ _ _ h => h) (Or.inl ⟨by rfl, ?_⟩) ?_ ?_
                              rotate_left
                              · intro w'
                                go_simp
                                with_reducible rfl
                              rotate_left
                              · simp only [Act.put, List.setIfInBounds_toArray, List.set_cons_zero, List.set_cons_succ, i64_w, i32_w]
                                rfl
                              refine last_ (i := 12) (N := none) #[true, true, true, true, true, true, true, true, true, true, true, true, true] rfl rfl (one_of HT_.out (by kernel_rfl)) (by decide) (fun K hK => ?_)
                              have hs49 : w47.cell? ⟨gb152, 3, none⟩ = some (u153003) := (blk_cell BK152.out 3).trans rfl
                              have hfs49 := blk_frozen BK152.out 3
                              refine skip_ (w1 := ?_) (by rfl) rfl ?_ ?_
                              rotate_left
                              · go_simp
                                rfl
                              refine hK.out _ _ ?_
                              clear hK K
                              refine done_ (done_of HT_.out (by kernel_rfl)) ?_
                              try go_wp2
                              have n0_ : Aside0 (Kd.R Kd.string 9 (w47.setCell ⟨gb152, 3, none⟩ (.slice Ao48 y166.length co48)) w.heap.size (fun _ => True) v150 y149) := ⟨by (with_reducible repeat (first | apply Kd.R_alloc | apply Kd.R_drewN | apply Kd.R_drew)); exact Kd.R_mono (Kd.R_far (p := ⟨gb152, 3, none⟩) (Kd.R_types HO_5.out BK152.out (by decide)) (fun _ hk => hk.2) (.slice Ao48 y166.length co48)) (fun _ hk => trivial)⟩
                              have n1_ : Aside0 (Kd.S k35 35 (w47.setCell ⟨gb152, 3, none⟩ (.slice Ao48 y166.length co48)) w.heap.size (fun _ => True) (.slice Ao48 y166.length co48) y166) := ⟨by (with_reducible repeat (first | apply Kd.S_alloc | apply Kd.S_drewN | apply Kd.S_drew)); exact Kd.S_mono (Kd.S_far (p := ⟨gb152, 3, none⟩) (Kd.S_types HO168.out BK152.out (by decide)) (fun _ hk => hk.2) (.slice Ao48 y166.length co48)) (fun _ hk => trivial)⟩
                              have n2_ : Aside0 ((w47.setCell ⟨gb152, 3, none⟩ (.slice Ao48 y166.length co48)).heap[gb152]? = some (.cells #[.string (⟨#[103]⟩ : ByteArray), .string (⟨#[114]⟩ : ByteArray), .string (⟨#[49]⟩ : ByteArray), .slice Ao48 y166.length co48] 29 (0, 0))) := ⟨by (with_reducible repeat (first | refine blk_drewN ?_ _ | refine blk_drew ?_ | refine blk_alloc ?_ _)); refine blk_put (cs := #[.string (⟨#[103]⟩ : ByteArray), .string (⟨#[114]⟩ : ByteArray), .string (⟨#[49]⟩ : ByteArray), u153003]) ?_ 3 _ rfl; (with_reducible repeat (first | refine blk_drewN ?_ _ | refine blk_drew ?_ | refine blk_alloc ?_ _)); exact BK152.out⟩
                              have n3_ : Aside0 (Below w.heap.size w (w47.setCell ⟨gb152, 3, none⟩ (.slice Ao48 y166.length co48))) := ⟨by repeat (first | (with_reducible first | exact HB.out | apply below_alloc | apply pw_below_drewN | apply below_drew1 | refine below_set ?_ GE152.out) | exact HB.out)⟩
                              (try clear HO_5)
                              (try clear HO168)
                              (try clear BK152)
                              (try clear HB)
                              generalize (w47.setCell ⟨gb152, 3, none⟩ (.slice Ao48 y166.length co48)) = w50 at n0_ n1_ n2_ n3_ ⊢
                              have HO_5 := n0_
                              have HO168 := n1_
                              have BK152 := n2_
                              have HB := n3_
                              clear n0_ n1_ n2_ n3_
                              have n0_ := Aside0.mk (Kd.R_drew HO_5.out)
                              have n1_ := Aside0.mk (Kd.S_drew HO168.out)
                              have n2_ := Aside0.mk (blk_drew BK152.out)
                              have n3_ := Aside0.mk (below_drew1 HB.out)
                              clear HO_5
                              clear HO168
                              clear BK152
                              clear HB
                              have HO_5 := n0_
                              have HO168 := n1_
                              have BK152 := n2_
                              have HB := n3_
                              clear n0_ n1_ n2_ n3_
                              obtain ⟨Ao52, co52, eo52⟩ := Kd.R_slice HO_5.out
                              (first | subst eo52 | (injection eo52 with f1_ f2_ f3_; have f4_ := f1_.symm; have f5_ := f3_.symm; clear f1_ f2_ f3_; subst f4_; subst f5_))
                              have p170 : 0 ≤ ((ji40) : Int) := of_decide_eq_true (by first | (with_reducible assumption) | assumption)
                              have q170 : (ji40) < (y149.length : Int) := of_decide_eq_true (by first | (with_reducible assumption) | assumption)
                              obtain ⟨ad170, e170, hx170_0⟩ := Kd.at_string (Kd.R_reads' HO_5.out).2.2 (ji40) p170 q170
                              cases e170
                              replace p170 := eq_true p170
                              replace q170 := eq_true q170
                              refine start_ (n := 16) (S := fun w' => w'.cell? (ad170.add ((ji40)).toNat) = some (.string (rdOf ByteArray.empty y149 (ji40)))) (ds := []) #[false, false, false, false, false, false, false, false, false, false, false, false, false, false, false, false] (by kernel_rfl) rfl rfl (hx170_0) (fun hHeld => ?_); refine with_tabW newellaw25_VerboseLines.tab13 newellaw25_VerboseLines.bits13 (fun HT_ HW_ => ?_)
                              generalize w50.drew = w51 at HO_5 HO168 BK152 HB hx170_0 hHeld ⊢
                              refine pure_ (i := 0) (N := some 50) (v := ?_) (a' := ?_) #[true, false, false, false, false, false, false, false, false, false, false, false, false, false, false, false] rfl rfl (any_of HT_.out (by kernel_rfl)) (fun _ _ _ h => h) (Or.inl ⟨by rfl, ?_⟩) ?_ ?_
                              rotate_left
                              · intro w'
                                go_simp
                                with_reducible rfl
                              rotate_left
                              · simp only [Act.put, List.setIfInBounds_toArray, List.set_cons_zero, List.set_cons_succ, i64_w, i32_w]
                                rfl
                              refine pure_ (i := 1) (N := some 51) (v := ?_) (a' := ?_) #[true, true, false, false, false, false, false, false, false, false, false, false, false, false, false, false] rfl rfl (any_of HT_.out (by kernel_rfl)) (fun _ _ _ h => h) (Or.inl ⟨by rfl, ?_⟩) ?_ ?_
                              rotate_left
                              · intro w'
                                go_simp
                                with_reducible rfl
                              rotate_left
                              · simp only [Act.put, List.setIfInBounds_toArray, List.set_cons_zero, List.set_cons_succ, i64_w, i32_w]
                                rfl
                              refine pure_ (i := 2) (N := some 52) (v := ?_) (a' := ?_) #[true, true, true, false, false, false, false, false, false, false, false, false, false, false, false, false] rfl rfl (any_of HT_.out (by kernel_rfl)) (fun _ _ _ h => h) (Or.inl ⟨by rfl, ?_⟩) ?_ ?_
                              rotate_left
                              · intro w'
                                go_simp
                                with_reducible rfl
                              rotate_left
                              · simp only [Act.put, List.setIfInBounds_toArray, List.set_cons_zero, List.set_cons_succ, i64_w, i32_w]
                                rfl
                              refine pure_ (i := 3) (N := some 53) (v := ?_) (a' := ?_) #[true, true, true, true, false, false, false, false, false, false, false, false, false, false, false, false] rfl rfl (any_of HT_.out (by kernel_rfl)) (fun _ _ _ h => h) (Or.inl ⟨by rfl, ?_⟩) ?_ ?_
                              rotate_left
                              · intro w'
                                go_simp
                                with_reducible rfl
                              rotate_left
                              · simp only [Act.put, List.setIfInBounds_toArray, List.set_cons_zero, List.set_cons_succ, i64_w, i32_w]
                                rfl
                              refine pure_ (i := 4) (N := some 54) (v := ?_) (a' := ?_) #[true, true, true, true, true, false, false, false, false, false, false, false, false, false, false, false] rfl rfl (any_of HT_.out (by kernel_rfl)) (fun _ _ _ h => h) (Or.inl ⟨by rfl, ?_⟩) ?_ ?_
                              rotate_left
                              · intro w'
                                go_simp
                                with_reducible rfl
                              rotate_left
                              · simp only [Act.put, List.setIfInBounds_toArray, List.set_cons_zero, List.set_cons_succ, i64_w, i32_w]
                                rfl
                              refine pure_ (i := 8) (N := some 58) (v := ?_) (a' := ?_) #[true, true, true, true, true, false, false, false, true, false, false, false, false, false, false, false] rfl rfl (any_of HT_.out (by kernel_rfl)) (fun _ _ _ h => h) (Or.inl ⟨by rfl, ?_⟩) ?_ ?_
                              rotate_left
                              · intro w'
                                go_simp
                                with_reducible rfl
                              rotate_left
                              · simp only [Act.put, List.setIfInBounds_toArray, List.set_cons_zero, List.set_cons_succ, i64_w, i32_w]
                                rfl
                              refine pure_ (i := 9) (N := some 59) (v := ?_) (a' := ?_) #[true, true, true, true, true, false, false, false, true, true, false, false, false, false, false, false] rfl rfl (any_of HT_.out (by kernel_rfl)) (fun _ _ _ h => h) (Or.inl ⟨by rfl, ?_⟩) ?_ ?_
                              rotate_left
                              · intro w'
                                go_simp
                                with_reducible rfl
                              rotate_left
                              · simp only [Act.put, List.setIfInBounds_toArray, List.set_cons_zero, List.set_cons_succ, i64_w, i32_w]
                                rfl
                              refine pure_ (i := 10) (N := some 60) (v := ?_) (a' := ?_) #[true, true, true, true, true, false, false, false, true, true, true, false, false, false, false, false] rfl rfl (any_of HT_.out (by kernel_rfl)) (fun _ _ _ h => h) (Or.inl ⟨by rfl, ?_⟩) ?_ ?_
                              rotate_left
                              · intro w'
                                go_simp
                                with_reducible rfl
                              rotate_left
                              · simp only [Act.put, List.setIfInBounds_toArray, List.set_cons_zero, List.set_cons_succ, i64_w, i32_w]
                                rfl
                              refine pure_ (i := 11) (N := some 61) (v := ?_) (a' := ?_) #[true, true, true, true, true, false, false, false, true, true, true, true, false, false, false, false] rfl rfl (any_of HT_.out (by kernel_rfl)) (fun _ _ _ h => h) (Or.inl ⟨by rfl, ?_⟩) ?_ ?_
                              rotate_left
                              · intro w'
                                go_simp
                                with_reducible rfl
                              rotate_left
                              · simp only [Act.put, List.setIfInBounds_toArray, List.set_cons_zero, List.set_cons_succ, i64_w, i32_w]
                                rfl
                              refine take_ (i := 12) (N := some 62) (v := ?_) (a' := ?_) #[true, true, true, true, true, false, false, false, true, true, true, true, true, false, false, false] rfl rfl (take_ofW HT_.out HW_.out (by kernel_rfl)) (fun _ _ _ h => h) (Or.inl ⟨by rfl, ?_⟩) hHeld ?_ ?_
                              rotate_left
                              · intro w' s0
                                go_simp
                                with_reducible rfl
                              rotate_left
                              · simp only [Act.put, List.setIfInBounds_toArray, List.set_cons_zero, List.set_cons_succ, i64_w, i32_w]
                                rfl
                              refine one_ (i := 5) (N := some 55) #[true, true, true, true, true, true, false, false, true, true, true, true, true, false, false, false] rfl rfl (one_of HT_.out (by kernel_rfl)) (by decide) (fun K hK => ?_)
                              refine goes_ Try.func4 (by kernel_rfl) rfl #[.int .i64 x9_1] (by rfl) rfl rfl (by (try simp only [List.map_toArray, List.map_cons, List.map_nil]); first | done | rfl | (simp only [List.length_drop, List.length_take]; rfl)) ?_
                              with_reducible refine (newelhelp_Digits.calls k1 x9_1 t169 _ A37.out).mono ?_
                              rintro e w53 ⟨rfl, hb⟩
                              have HS0_ := (hb.cell (World.block_lt_of_cell? _ _ (hHeld))).trans (hHeld)
                              refine ⟨_, rfl, ?_⟩
                              have n0_ := Aside0.mk (Kd.R_below (by (with_reducible repeat (first | apply Kd.R_alloc | apply Kd.R_drewN | apply Kd.R_drew)); exact HO_5.out) hb)
                              have n1_ := Aside0.mk (Kd.S_below (by (with_reducible repeat (first | apply Kd.S_alloc | apply Kd.S_drewN | apply Kd.S_drew)); exact HO168.out) hb)
                              have n2_ := Aside0.mk (blk_below (g := gb152) (o := .cells #[.string (⟨#[103]⟩ : ByteArray), .string (⟨#[114]⟩ : ByteArray), .string (⟨#[49]⟩ : ByteArray), .slice Ao48 y166.length co48] 29 (0, 0)) (by (with_reducible repeat (first | refine blk_drewN ?_ _ | refine blk_drew ?_ | refine blk_alloc ?_ _)); exact BK152.out) hb)
                              have n3_ := Aside0.mk (below_step (by repeat (first | (with_reducible first | exact HB.out | apply below_alloc | apply pw_below_drewN | apply below_drew1 | refine below_set ?_ GE152.out) | exact HB.out)) hb)
                              clear HO_5
                              clear HO168
                              clear BK152
                              clear HB
                              have HO_5 := n0_
                              have HO168 := n1_
                              have BK152 := n2_
                              have HB := n3_
                              clear n0_ n1_ n2_ n3_
                              (try clear hb)
                              (try clear hb2)
                              (try clear hk)
                              (try clear hi)
                              refine hK.out _ _ (HS0_) (fun hHeld => ?_)
                              clear hK K
                              refine norm_ (a' := ?_) ?_ ?_
                              rotate_left
                              · show Act.put _ (some 55) _ = _
                                simp only [Act.put, List.setIfInBounds_toArray, List.set_cons_zero, List.set_cons_succ, i64_w, i32_w]
                                rfl
                              refine pure_ (i := 6) (N := some 56) (v := ?_) (a' := ?_) #[true, true, true, true, true, true, true, false, true, true, true, true, true, false, false, false] rfl rfl (any_of HT_.out (by kernel_rfl)) (fun _ _ _ h => h) (Or.inl ⟨by rfl, ?_⟩) ?_ ?_
                              rotate_left
                              · intro w'
                                go_simp
                                with_reducible rfl
                              rotate_left
                              · simp only [Act.put, List.setIfInBounds_toArray, List.set_cons_zero, List.set_cons_succ, i64_w, i32_w]
                                rfl
                              refine pure_ (i := 7) (N := some 57) (v := ?_) (a' := ?_) #[true, true, true, true, true, true, true, true, true, true, true, true, true, false, false, false] rfl rfl (any_of HT_.out (by kernel_rfl)) (fun _ _ _ h => h) (Or.inl ⟨by rfl, ?_⟩) ?_ ?_
                              rotate_left
                              · intro w'
                                go_simp
                                with_reducible rfl
                              rotate_left
                              · simp only [Act.put, List.setIfInBounds_toArray, List.set_cons_zero, List.set_cons_succ, i64_w, i32_w]
                                rfl
                              refine pure_ (i := 13) (N := some 63) (v := ?_) (a' := ?_) #[true, true, true, true, true, true, true, true, true, true, true, true, true, true, false, false] rfl rfl (any_of HT_.out (by kernel_rfl)) (fun _ _ _ h => h) (Or.inl ⟨by rfl, ?_⟩) ?_ ?_
                              rotate_left
                              · intro w'
                                go_simp
                                with_reducible rfl
                              rotate_left
                              · simp only [Act.put, List.setIfInBounds_toArray, List.set_cons_zero, List.set_cons_succ, i64_w, i32_w]
                                rfl
                              refine pure_ (i := 14) (N := some 64) (v := ?_) (a' := ?_) #[true, true, true, true, true, true, true, true, true, true, true, true, true, true, true, false] rfl rfl (any_of HT_.out (by kernel_rfl)) (fun _ _ _ h => h) (Or.inl ⟨by rfl, ?_⟩) ?_ ?_
                              rotate_left
                              · intro w'
                                go_simp
                                with_reducible rfl
                              rotate_left
                              · simp only [Act.put, List.setIfInBounds_toArray, List.set_cons_zero, List.set_cons_succ, i64_w, i32_w]
                                rfl
                              refine pure_ (i := 15) (N := some 7) (v := ?_) (a' := ?_) #[true, true, true, true, true, true, true, true, true, true, true, true, true, true, true, true] rfl rfl (any_of HT_.out (by kernel_rfl)) (fun _ _ _ h => h) (Or.inl ⟨by rfl, ?_⟩) ?_ ?_
                              rotate_left
                              · intro w'
                                go_simp
                                with_reducible rfl
                              rotate_left
                              · simp only [Act.put, List.setIfInBounds_toArray, List.set_cons_zero, List.set_cons_succ, i64_w, i32_w]
                                rfl
                              refine done_ (done_of HT_.out (by kernel_rfl)) ?_
                              try go_wp2
                              go_roundg k1
                              case measure => have := HK1.out; omega
                              case rel => exact ⟨((((((x7_1 ++ (x8_1 ++ (⟨#[32, 32]⟩ : ByteArray))) ++ (⟨#[103, 58, 110, 58, 112, 111, 109, 58, 99, 58]⟩ : ByteArray)) ++ t169) ++ (⟨#[58, 116, 101, 115, 116]⟩ : ByteArray)) ++ (rdOf ByteArray.empty y149 (ji40))) ++ (⟨#[10]⟩ : ByteArray)), (x8_1 ++ (⟨#[32, 32]⟩ : ByteArray)), (wrap64 (x9_1 + 1)), (y166), (.slice Ao48 y166.length co48), (by first | rfl | (simp; done) | (simp only [← hji40] <;> (first | rfl | simp)) | (simp [*]; done)), (by first | rfl | (simp; done) | (simp [*]; done)), (by first | rfl | (simp; done) | (simp [*]; done)), H', ⟨by have := HK1.out; omega⟩, ⟨by (with_reducible repeat (first | apply Kd.R_alloc | apply Kd.R_drewN | apply Kd.R_drew)); exact HO_5.out⟩, ⟨by (with_reducible repeat (first | apply Kd.S_alloc | apply Kd.S_drewN | apply Kd.S_drew)); exact HO168.out⟩, ⟨by (with_reducible repeat (first | refine blk_drewN ?_ _ | refine blk_drew ?_ | refine blk_alloc ?_ _)); exact BK152.out⟩, ⟨by repeat (first | (with_reducible first | exact HB.out | apply below_alloc | apply pw_below_drewN | apply below_drew1 | refine below_set ?_ GE152.out) | exact HB.out)⟩⟩
                            · rw [if_neg c44] at H
                              exact absurd H (by simp)
                          · rw [if_neg c43] at H
                            exact absurd H (by simp)
                        · rw [if_neg c42] at H
                          exact absurd H (by simp)
                      · rw [if_neg c41] at H
                        exact absurd H (by simp)
                    · rw [if_neg c39] at H
                      exact absurd H (by simp)
                  · rw [if_neg c38] at H
                    exact absurd H (by simp)
                · rw [if_neg c36] at H
                  exact absurd H (by simp)
              · rw [if_neg c35] at H
                exact absurd H (by simp)
            · rw [if_neg c34] at H
              exact absurd H (by simp)
          · rw [if_neg c33] at H
            exact absurd H (by simp)
      · rw [if_neg c7] at H
        have c7b0 : decide (x9_1 < (wrap64 (1 + (wrap64 (Int.tmod (IntKind.u64.wrap (a0)) 12))))) = false := decide_eq_false c7
        clear c7
        replace H := Option.bind_eq_some_iff.mp H
        obtain ⟨t153, A540, H⟩ := H
        replace H : (if t153 = true then ((verbose_Text.f (⟨#[103]⟩ : ByteArray) (⟨#[114]⟩ : ByteArray) (⟨#[49]⟩ : ByteArray) x153003_1).bind fun t154 => (if t154.toList = x7_1.toList then ((verbose_Order.f k1 (⟨#[103]⟩ : ByteArray) (⟨#[114]⟩ : ByteArray) (⟨#[49]⟩ : ByteArray) x153003_1).bind fun t155 => (some ((t155.length : Int) == (wrap64 (1 + (wrap64 (Int.tmod (IntKind.u64.wrap (a0)) 12))))))) else (some false))) else (some false)) = some r := H
        have A54 := Aside0.mk A540
        clear A540
        by_cases c55 : t153 = true
        · subst c55
          have H1 : ((verbose_Text.f (⟨#[103]⟩ : ByteArray) (⟨#[114]⟩ : ByteArray) (⟨#[49]⟩ : ByteArray) x153003_1).bind fun t154 => (if t154.toList = x7_1.toList then ((verbose_Order.f k1 (⟨#[103]⟩ : ByteArray) (⟨#[114]⟩ : ByteArray) (⟨#[49]⟩ : ByteArray) x153003_1).bind fun t155 => (some ((t155.length : Int) == (wrap64 (1 + (wrap64 (Int.tmod (IntKind.u64.wrap (a0)) 12))))))) else (some false))) = some r := by rw [if_pos rfl] at H; exact H
          clear H
          have H := H1
          clear H1
          replace H := Option.bind_eq_some_iff.mp H
          obtain ⟨t154, A560, H⟩ := H
          replace H : (if t154.toList = x7_1.toList then ((verbose_Order.f k1 (⟨#[103]⟩ : ByteArray) (⟨#[114]⟩ : ByteArray) (⟨#[49]⟩ : ByteArray) x153003_1).bind fun t155 => (some ((t155.length : Int) == (wrap64 (1 + (wrap64 (Int.tmod (IntKind.u64.wrap (a0)) 12))))))) else (some false)) = some r := H
          have A56 := Aside0.mk A560
          clear A560
          by_cases c57 : t154.toList = x7_1.toList
          · rw [if_pos c57] at H
            have c57b0 : (t154.toList == x7_1.toList) = true := beq_iff_eq.mpr c57
            have c57b1 : (t154.toList != x7_1.toList) = false := bne_eq_false_iff_eq.mpr c57
            clear c57
            replace H := Option.bind_eq_some_iff.mp H
            obtain ⟨t155, A580, H⟩ := H
            replace H : (some ((t155.length : Int) == (wrap64 (1 + (wrap64 (Int.tmod (IntKind.u64.wrap (a0)) 12)))))) = some r := H
            have A58 := Aside0.mk A580
            clear A580
            obtain rfl := Option.some.inj H
            go_wp2_with (first | ((with_reducible refine gate_callee (f := 5) rfl ?_); refine goesL_ (some 65) rfl rfl Try.func5 (by kernel_rfl) rfl #[] rfl (by (try simp only [List.map_toArray, List.map_cons, List.map_nil]); first | done | rfl | (simp only [List.length_drop, List.length_take]; rfl)) ?_; (with_reducible refine (newellaw25_awake.calls  true _ A54.out).mono ?_); rintro e w59 ⟨rfl, hb⟩; refine ⟨_, rfl, ?_⟩; have n0_ := Aside0.mk (Kd.R_below (by (with_reducible repeat (first | apply Kd.R_alloc | apply Kd.R_drewN | apply Kd.R_drew)); exact HO_5.out) hb); have n1_ := Aside0.mk (Kd.S_below (by (with_reducible repeat (first | apply Kd.S_alloc | apply Kd.S_drewN | apply Kd.S_drew)); exact HO_153003.out) hb); have n2_ := Aside0.mk (blk_below (g := gb152) (o := .cells #[.string (⟨#[103]⟩ : ByteArray), .string (⟨#[114]⟩ : ByteArray), .string (⟨#[49]⟩ : ByteArray), u153003] 29 (0, 0)) (by (with_reducible repeat (first | refine blk_drewN ?_ _ | refine blk_drew ?_ | refine blk_alloc ?_ _)); exact BK152.out) hb); have n3_ := Aside0.mk (below_step (by repeat (first | (with_reducible first | exact HB.out | apply below_alloc | apply pw_below_drewN | apply below_drew1 | refine below_set ?_ GE152.out) | exact HB.out)) hb); clear HO_5; clear HO_153003; clear BK152; clear HB; have HO_5 := n0_; have HO_153003 := n1_; have BK152 := n2_; have HB := n3_; clear n0_ n1_ n2_ n3_; (try clear hb); (try clear hb2); (try clear hk); (try clear hi); have hcz60_0 : w59.cell? ⟨gb152, 0, none⟩ = some (.string (⟨#[103]⟩ : ByteArray)) := (blk_cell BK152.out 0).trans rfl; have hcz60_1 : w59.cell? ⟨gb152, 1, none⟩ = some (.string (⟨#[114]⟩ : ByteArray)) := (blk_cell BK152.out 1).trans rfl; have hcz60_2 : w59.cell? ⟨gb152, 2, none⟩ = some (.string (⟨#[49]⟩ : ByteArray)) := (blk_cell BK152.out 2).trans rfl; have hcz60_3 : w59.cell? ⟨gb152, 3, none⟩ = some (u153003) := (blk_cell BK152.out 3).trans rfl; have hfz60_0 := blk_frozen BK152.out 0; have hfz60_1 := blk_frozen BK152.out 1; have hfz60_2 := blk_frozen BK152.out 2; have hfz60_3 := blk_frozen BK152.out 3; obtain ⟨Ao61, co61, eo61⟩ := Kd.S_slice HO_153003.out; subst eo61) | (go_at_call 6; (with_reducible refine (verbose_Text.calls (⟨#[103]⟩ : ByteArray) (⟨#[114]⟩ : ByteArray) (⟨#[49]⟩ : ByteArray) _ _ x153003_1 t154 _ ?side1 ?side2 A56.out).mono ?_); (case side1 => repeat (first | exact (Kd.S_reads' HO_153003.out).2.2 | (with_reducible refine Kd.C_alloc ?_ _) | (with_reducible refine Kd.C_drewN ?_ _) | (with_reducible refine Kd.C_drew ?_))); (case side2 => exact (Kd.S_reads' HO_153003.out).2.1); rintro e w62 ⟨rfl, hb⟩; have n0_ := Aside0.mk (Kd.R_below (by (with_reducible repeat (first | apply Kd.R_alloc | apply Kd.R_drewN | apply Kd.R_drew)); exact HO_5.out) hb); have n1_ := Aside0.mk (Kd.S_below (by (with_reducible repeat (first | apply Kd.S_alloc | apply Kd.S_drewN | apply Kd.S_drew)); exact HO_153003.out) hb); have n2_ := Aside0.mk (blk_below (g := gb152) (o := .cells #[.string (⟨#[103]⟩ : ByteArray), .string (⟨#[114]⟩ : ByteArray), .string (⟨#[49]⟩ : ByteArray), .slice Ao61 x153003_1.length co61] 29 (0, 0)) (by (with_reducible repeat (first | refine blk_drewN ?_ _ | refine blk_drew ?_ | refine blk_alloc ?_ _)); exact BK152.out) hb); have n3_ := Aside0.mk (below_step (by repeat (first | (with_reducible first | exact HB.out | apply below_alloc | apply pw_below_drewN | apply below_drew1 | refine below_set ?_ GE152.out) | exact HB.out)) hb); clear HO_5; clear HO_153003; clear BK152; clear HB; have HO_5 := n0_; have HO_153003 := n1_; have BK152 := n2_; have HB := n3_; clear n0_ n1_ n2_ n3_; (try clear hb); (try clear hb2); (try clear hk); (try clear hi); have hcz63_0 : w62.cell? ⟨gb152, 0, none⟩ = some (.string (⟨#[103]⟩ : ByteArray)) := (blk_cell BK152.out 0).trans rfl; have hcz63_1 : w62.cell? ⟨gb152, 1, none⟩ = some (.string (⟨#[114]⟩ : ByteArray)) := (blk_cell BK152.out 1).trans rfl; have hcz63_2 : w62.cell? ⟨gb152, 2, none⟩ = some (.string (⟨#[49]⟩ : ByteArray)) := (blk_cell BK152.out 2).trans rfl; have hcz63_3 : w62.cell? ⟨gb152, 3, none⟩ = some (.slice Ao61 x153003_1.length co61) := (blk_cell BK152.out 3).trans rfl; have hfz63_0 := blk_frozen BK152.out 0; have hfz63_1 := blk_frozen BK152.out 1; have hfz63_2 := blk_frozen BK152.out 2; have hfz63_3 := blk_frozen BK152.out 3) | (go_at_call 7; (with_reducible refine (verbose_Order.calls k1 (⟨#[103]⟩ : ByteArray) (⟨#[114]⟩ : ByteArray) (⟨#[49]⟩ : ByteArray) _ _ x153003_1 t155 _ ?side1 ?side2 A58.out).mono ?_); (case side1 => repeat (first | exact (Kd.S_reads' HO_153003.out).2.2 | (with_reducible refine Kd.C_alloc ?_ _) | (with_reducible refine Kd.C_drewN ?_ _) | (with_reducible refine Kd.C_drew ?_))); (case side2 => exact (Kd.S_reads' HO_153003.out).2.1); rintro e w64 ⟨v156, rfl, ho0, hb⟩; have n0_ := Aside0.mk (Kd.R_below (by (with_reducible repeat (first | apply Kd.R_alloc | apply Kd.R_drewN | apply Kd.R_drew)); exact HO_5.out) hb); have n1_ := Aside0.mk (Kd.S_below (by (with_reducible repeat (first | apply Kd.S_alloc | apply Kd.S_drewN | apply Kd.S_drew)); exact HO_153003.out) hb); have n2_ := Aside0.mk (Kd.R_lower ho0 (below_size (by repeat (first | (with_reducible first | exact HB.out | apply below_alloc | apply pw_below_drewN | apply below_drew1 | refine below_set ?_ GE152.out) | exact HB.out)))); have n3_ := Aside0.mk (blk_below (g := gb152) (o := .cells #[.string (⟨#[103]⟩ : ByteArray), .string (⟨#[114]⟩ : ByteArray), .string (⟨#[49]⟩ : ByteArray), .slice Ao61 x153003_1.length co61] 29 (0, 0)) (by (with_reducible repeat (first | refine blk_drewN ?_ _ | refine blk_drew ?_ | refine blk_alloc ?_ _)); exact BK152.out) hb); have n4_ := Aside0.mk (below_step (by repeat (first | (with_reducible first | exact HB.out | apply below_alloc | apply pw_below_drewN | apply below_drew1 | refine below_set ?_ GE152.out) | exact HB.out)) hb); clear HO_5; clear HO_153003; clear BK152; clear HB; have HO_5 := n0_; have HO_153003 := n1_; have HO157 := n2_; have BK152 := n3_; have HB := n4_; clear n0_ n1_ n2_ n3_ n4_; (try clear hb); (try clear hb2); (try clear hk); (try clear hi); (try clear ho0); obtain ⟨Ao65, co65, eo65⟩ := Kd.R_slice HO157.out; subst eo65))
            go_ret
            exact ⟨by first | rfl | (simp [errW_none, errW_some] <;> rfl) | (simp [*, errW_none, errW_some] <;> rfl), by repeat (first | (with_reducible first | exact HB.out | apply below_alloc | apply pw_below_drewN | apply below_drew1 | refine below_set ?_ GE152.out) | exact HB.out)⟩
          · rw [if_neg c57] at H
            have c57b0 : (t154.toList == x7_1.toList) = false := beq_eq_false_iff_ne.mpr c57
            have c57b1 : (t154.toList != x7_1.toList) = true := bne_iff_ne.mpr c57
            obtain rfl := Option.some.inj H
            go_wp2_with (first | ((with_reducible refine gate_callee (f := 5) rfl ?_); refine goesL_ (some 65) rfl rfl Try.func5 (by kernel_rfl) rfl #[] rfl (by (try simp only [List.map_toArray, List.map_cons, List.map_nil]); first | done | rfl | (simp only [List.length_drop, List.length_take]; rfl)) ?_; (with_reducible refine (newellaw25_awake.calls  true _ A54.out).mono ?_); rintro e w66 ⟨rfl, hb⟩; refine ⟨_, rfl, ?_⟩; have n0_ := Aside0.mk (Kd.R_below (by (with_reducible repeat (first | apply Kd.R_alloc | apply Kd.R_drewN | apply Kd.R_drew)); exact HO_5.out) hb); have n1_ := Aside0.mk (Kd.S_below (by (with_reducible repeat (first | apply Kd.S_alloc | apply Kd.S_drewN | apply Kd.S_drew)); exact HO_153003.out) hb); have n2_ := Aside0.mk (blk_below (g := gb152) (o := .cells #[.string (⟨#[103]⟩ : ByteArray), .string (⟨#[114]⟩ : ByteArray), .string (⟨#[49]⟩ : ByteArray), u153003] 29 (0, 0)) (by (with_reducible repeat (first | refine blk_drewN ?_ _ | refine blk_drew ?_ | refine blk_alloc ?_ _)); exact BK152.out) hb); have n3_ := Aside0.mk (below_step (by repeat (first | (with_reducible first | exact HB.out | apply below_alloc | apply pw_below_drewN | apply below_drew1 | refine below_set ?_ GE152.out) | exact HB.out)) hb); clear HO_5; clear HO_153003; clear BK152; clear HB; have HO_5 := n0_; have HO_153003 := n1_; have BK152 := n2_; have HB := n3_; clear n0_ n1_ n2_ n3_; (try clear hb); (try clear hb2); (try clear hk); (try clear hi); have hcz67_0 : w66.cell? ⟨gb152, 0, none⟩ = some (.string (⟨#[103]⟩ : ByteArray)) := (blk_cell BK152.out 0).trans rfl; have hcz67_1 : w66.cell? ⟨gb152, 1, none⟩ = some (.string (⟨#[114]⟩ : ByteArray)) := (blk_cell BK152.out 1).trans rfl; have hcz67_2 : w66.cell? ⟨gb152, 2, none⟩ = some (.string (⟨#[49]⟩ : ByteArray)) := (blk_cell BK152.out 2).trans rfl; have hcz67_3 : w66.cell? ⟨gb152, 3, none⟩ = some (u153003) := (blk_cell BK152.out 3).trans rfl; have hfz67_0 := blk_frozen BK152.out 0; have hfz67_1 := blk_frozen BK152.out 1; have hfz67_2 := blk_frozen BK152.out 2; have hfz67_3 := blk_frozen BK152.out 3; obtain ⟨Ao68, co68, eo68⟩ := Kd.S_slice HO_153003.out; subst eo68) | (go_at_call 6; (with_reducible refine (verbose_Text.calls (⟨#[103]⟩ : ByteArray) (⟨#[114]⟩ : ByteArray) (⟨#[49]⟩ : ByteArray) _ _ x153003_1 t154 _ ?side1 ?side2 A56.out).mono ?_); (case side1 => repeat (first | exact (Kd.S_reads' HO_153003.out).2.2 | (with_reducible refine Kd.C_alloc ?_ _) | (with_reducible refine Kd.C_drewN ?_ _) | (with_reducible refine Kd.C_drew ?_))); (case side2 => exact (Kd.S_reads' HO_153003.out).2.1); rintro e w69 ⟨rfl, hb⟩; have n0_ := Aside0.mk (Kd.R_below (by (with_reducible repeat (first | apply Kd.R_alloc | apply Kd.R_drewN | apply Kd.R_drew)); exact HO_5.out) hb); have n1_ := Aside0.mk (Kd.S_below (by (with_reducible repeat (first | apply Kd.S_alloc | apply Kd.S_drewN | apply Kd.S_drew)); exact HO_153003.out) hb); have n2_ := Aside0.mk (blk_below (g := gb152) (o := .cells #[.string (⟨#[103]⟩ : ByteArray), .string (⟨#[114]⟩ : ByteArray), .string (⟨#[49]⟩ : ByteArray), .slice Ao68 x153003_1.length co68] 29 (0, 0)) (by (with_reducible repeat (first | refine blk_drewN ?_ _ | refine blk_drew ?_ | refine blk_alloc ?_ _)); exact BK152.out) hb); have n3_ := Aside0.mk (below_step (by repeat (first | (with_reducible first | exact HB.out | apply below_alloc | apply pw_below_drewN | apply below_drew1 | refine below_set ?_ GE152.out) | exact HB.out)) hb); clear HO_5; clear HO_153003; clear BK152; clear HB; have HO_5 := n0_; have HO_153003 := n1_; have BK152 := n2_; have HB := n3_; clear n0_ n1_ n2_ n3_; (try clear hb); (try clear hb2); (try clear hk); (try clear hi)))
            go_ret
            exact ⟨by first | rfl | (simp [errW_none, errW_some] <;> rfl) | (simp [*, errW_none, errW_some] <;> rfl), by repeat (first | (with_reducible first | exact HB.out | apply below_alloc | apply pw_below_drewN | apply below_drew1 | refine below_set ?_ GE152.out) | exact HB.out)⟩
        · replace c55 := Bool.eq_false_iff.mpr c55
          subst c55
          have H1 : (some false) = some r := by rw [if_neg (show ¬ (false = true) by decide)] at H; exact H
          clear H
          have H := H1
          clear H1
          obtain rfl := Option.some.inj H
          go_wp2_with (first | ((with_reducible refine gate_callee (f := 5) rfl ?_); refine goesL_ (some 65) rfl rfl Try.func5 (by kernel_rfl) rfl #[] rfl (by (try simp only [List.map_toArray, List.map_cons, List.map_nil]); first | done | rfl | (simp only [List.length_drop, List.length_take]; rfl)) ?_; (with_reducible refine (newellaw25_awake.calls  false _ A54.out).mono ?_); rintro e w70 ⟨rfl, hb⟩; refine ⟨_, rfl, ?_⟩; have n0_ := Aside0.mk (Kd.R_below (by (with_reducible repeat (first | apply Kd.R_alloc | apply Kd.R_drewN | apply Kd.R_drew)); exact HO_5.out) hb); have n1_ := Aside0.mk (Kd.S_below (by (with_reducible repeat (first | apply Kd.S_alloc | apply Kd.S_drewN | apply Kd.S_drew)); exact HO_153003.out) hb); have n2_ := Aside0.mk (blk_below (g := gb152) (o := .cells #[.string (⟨#[103]⟩ : ByteArray), .string (⟨#[114]⟩ : ByteArray), .string (⟨#[49]⟩ : ByteArray), u153003] 29 (0, 0)) (by (with_reducible repeat (first | refine blk_drewN ?_ _ | refine blk_drew ?_ | refine blk_alloc ?_ _)); exact BK152.out) hb); have n3_ := Aside0.mk (below_step (by repeat (first | (with_reducible first | exact HB.out | apply below_alloc | apply pw_below_drewN | apply below_drew1 | refine below_set ?_ GE152.out) | exact HB.out)) hb); clear HO_5; clear HO_153003; clear BK152; clear HB; have HO_5 := n0_; have HO_153003 := n1_; have BK152 := n2_; have HB := n3_; clear n0_ n1_ n2_ n3_; (try clear hb); (try clear hb2); (try clear hk); (try clear hi)))
          go_ret
          exact ⟨by first | rfl | (simp [errW_none, errW_some] <;> rfl) | (simp [*, errW_none, errW_some] <;> rfl), by repeat (first | (with_reducible first | exact HB.out | apply below_alloc | apply pw_below_drewN | apply below_drew1 | refine below_set ?_ GE152.out) | exact HB.out)⟩

/-- THE ONE PURE STATEMENT of newellaw25_VerboseLines: yours. -/
def newellaw25_VerboseLines.Pure : Prop := ∀ (a0 : Int) (l1 : List Int), (Lit.int .i64 a0).wf = true → l1.length ≤ maxLen → l1.length * 8 ≤ 140737488351232 → (∀ x ∈ l1, (Lit.int .i64 x).wf = true) → ∃ k, newellaw25_VerboseLines.f k a0 l1 = some true
theorem newellaw25_VerboseLines.walk (P : newellaw25_VerboseLines.Pure) (a0 : Int) (a1 : Option Addr) (len1 cap1 : Nat) (z1 : List Int) (w : World) (w0 : (Lit.int .i64 a0).wf = true) (w1 : (a1 = none ∧ len1 = 0 ∧ cap1 = 0 ∧ z1 = []) ∨ ∃ x, a1 = some x ∧ len1 ≤ cap1 ∧ cap1 ≤ maxLen ∧ z1.length = cap1 ∧ (∀ i, i < z1.length → w.cell? (x.add i) = some (.int .i64 (z1.getD i 0))) ∧ ∀ n ∈ z1, (Lit.int .i64 n).wf = true) (y1 : len1 * 8 ≤ 140737488351232) :
    Calls Try.prog 3 #[.int .i64 a0, .slice a1 len1 cap1] w fun e w' => e = .returned (.bool true) ∧ Below w.heap.size w w' := by
  obtain ⟨l1, rfl, hr1, hm1, hw1, hc1⟩ := ReadsInt.ofRowC w1
  obtain ⟨k, h⟩ := P a0 l1 w0 hm1 y1 hw1
  refine (newellaw25_VerboseLines.calls k a0 _ _ l1 true w (Kd.C_of_reads (d := (0 : Int)) (h1 := fun _ => rfl) hr1) hc1 h).mono ?_
  rintro e w' ⟨rfl, hd⟩
  exact ⟨rfl, hd⟩

end Go.Proofs.Ytnbniafcpmlcnaa.PVerboseLines
