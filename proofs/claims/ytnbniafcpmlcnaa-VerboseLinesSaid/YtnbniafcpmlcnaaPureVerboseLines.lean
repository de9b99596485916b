/- The plain law of VerboseLines: what the printed form of the statement's function computes is 'true', for every input. No condition. -/
import Derived.Test.YtnbniafcpmlcnaaPVerboseLinesx4
namespace Go.Proofs.Ytnbniafcpmlcnaa.Pure
open Go.RowKit Go.Proofs.Ytnbniafcpmlcnaa.PVerboseLines Go.Proofs.YtnbniafcpmlcnaaW.PrintWords Go.Proofs.YtnbniafcpmlcnaaW.PrintLast
set_option linter.unusedVariables false
set_option linter.unusedSimpArgs false

theorem u64_nonneg (v : Int) : 0 ≤ IntKind.u64.wrap v := by
  rw [IntKind.wrap_u64]
  omega
theorem u64_mod (v m : Int) (hm : 0 < m) : 0 ≤ Int.tmod (IntKind.u64.wrap v) m ∧ Int.tmod (IntKind.u64.wrap v) m < m := by
  rw [Int.tmod_eq_emod_of_nonneg (u64_nonneg v)]
  exact ⟨Int.emod_nonneg _ (by omega), Int.emod_lt_of_pos _ hm⟩
def node (i : Nat) (d : ByteArray) (kd : Int) : S35 := ⟨(i : Int) - 1, 0, ⟨⟨#[103]⟩, ⟨#[110]⟩, d, ⟨#[112, 111, 109]⟩, ⟨#[99]⟩, ⟨#[116, 101, 115, 116]⟩, false, []⟩, kd⟩
def marks : List ByteArray := [(⟨#[]⟩ : ByteArray), (⟨#[32, 40, 99, 111, 110, 102, 108, 105, 99, 116, 41]⟩ : ByteArray), (⟨#[32, 40, 100, 117, 112, 108, 105, 99, 97, 116, 101, 41]⟩ : ByteArray), (⟨#[32, 40, 99, 121, 99, 108, 101, 41]⟩ : ByteArray)]

theorem g_snoc (x : S35) : ∀ (xs : List S35) (d : Nat) (acc : ByteArray), verbose_Text.g (xs ++ [x]) d acc = (verbose_Text.g xs d acc).bind (verbose_Text.g [x] (d + xs.length))
  | [], d, acc => by simp [verbose_Text.g]
  | y :: ys, d, acc => by
    have hd : d + (y :: ys).length = (d + 1) + ys.length := by simp; omega
    rw [hd]
    simp only [List.cons_append, verbose_Text.g]
    cases classpath_Line.f 5 y.f2.f0 y.f2.f1 y.f2.f2 y.f2.f3 y.f2.f4 y.f2.f5 y.f2.f6 y.f2.f7 with
    | none => rfl
    | some ln =>
      cases verbose_reason.f y.f3 with
      | none => rfl
      | some rs =>
        simp only [Option.bind_some]
        split
        · rw [g_snoc x ys]
          rfl
        · rfl
theorem g_one (x : S35) (d : Nat) (acc ln rs : ByteArray) (h1 : classpath_Line.f 5 x.f2.f0 x.f2.f1 x.f2.f2 x.f2.f3 x.f2.f4 x.f2.f5 x.f2.f6 x.f2.f7 = some ln) (h2 : verbose_reason.f x.f3 = some rs)
    (h3 : acc.size + (((rep2 (d + 1) ++ ln) ++ rs) ++ (⟨#[10]⟩ : ByteArray)).size ≤ 140737488355328) : verbose_Text.g [x] d acc = some (acc ++ (((rep2 (d + 1) ++ ln) ++ rs) ++ (⟨#[10]⟩ : ByteArray))) := by
  simp only [verbose_Text.g, h1, h2, Option.bind_some, if_pos h3]
theorem rep2_succ (i : Nat) : rep2 (i + 1) = rep2 i ++ (⟨#[32, 32]⟩ : ByteArray) := by
  unfold rep2
  rw [Lib.repeatL_add, Lib.repeatL_one]
  apply ByteArray.ext
  simp
theorem rep2_size (i : Nat) : (rep2 i).size = 2 * i := by
  show (Lib.repeatL [32, 32] i).toArray.size = 2 * i
  simp [Lib.repeatL_length]
  omega
theorem reason_mark (q : Int) (h0 : 0 ≤ q) (h1 : q < 4) : verbose_reason.f (1 + q) = some (rdOf ByteArray.empty marks q) := by
  have : q = 0 ∨ q = 1 ∨ q = 2 ∨ q = 3 := by omega
  rcases this with rfl | rfl | rfl | rfl <;> rfl
theorem mark_size (q : Int) (h0 : 0 ≤ q) (h1 : q < 4) : (rdOf ByteArray.empty marks q).size ≤ 12 := by
  have : q = 0 ∨ q = 1 ∨ q = 2 ∨ q = 3 := by omega
  rcases this with rfl | rfl | rfl | rfl <;> decide
theorem digits (i k : Nat) (hi : i < 12) : ∃ d, newelhelp_Digits.f (k + 2) i = some d ∧ d.size ≤ 2 := by
  have h : i < 10 ∨ i = 10 ∨ i = 11 := by omega
  have h1 : ∀ j : Int, j = 10 ∨ j = 11 → wrap64 (Int.tdiv j 10) = 1 := by
    rintro j (rfl | rfl) <;> (unfold wrap64; decide)
  have h2 : ∀ j : Int, j = 10 ∨ j = 11 → ∃ d, newelhelp_Digits.f (k + 2) j = some d ∧ d.size ≤ 2 := by
    intro j hj
    refine ⟨strOfNums [(wrap64 (48 + 1)) % 256] ++ strOfNums [(wrap64 (48 + Int.tmod j 10)) % 256], ?_, ?_⟩
    · rw [newelhelp_Digits.f, if_neg (by omega), h1 j hj, newelhelp_Digits.f, if_pos (by omega)]
      simp only [Option.bind_some]
      exact if_pos (show 1 + 1 ≤ 9223372036854775807 by omega)
    · exact (show 1 + 1 ≤ 2 by omega)
  rcases h with h | rfl | rfl
  · exact ⟨strOfNums [(wrap64 (48 + i)) % 256], by rw [newelhelp_Digits.f]; exact if_pos (by omega), show 1 ≤ 2 by omega⟩
  · exact h2 _ (.inl rfl)
  · exact h2 _ (.inr rfl)
theorem hor : cmp_Or_string.f 5 [{ data := #[112, 111, 109] }, { data := #[106, 97, 114] }] = some { data := #[112, 111, 109] } := by
  simp [cmp_Or_string.f, cmp_Or_string.l0, Go.Proofs.YtnbniafcpmlcnaaW.PrintWords.rdOf]
theorem hor2 : cmp_Or_string.f 5 [{ data := #[] }, { data := #[106, 97, 114] }] = some { data := #[106, 97, 114] } := by
  have hw : wrap64 1 = 1 := by unfold wrap64; decide
  simp [cmp_Or_string.f, cmp_Or_string.l0, Go.Proofs.YtnbniafcpmlcnaaW.PrintWords.rdOf, hw]
theorem line (d : ByteArray) (hd : d.size ≤ 2) : classpath_Line.f 5 ⟨#[103]⟩ ⟨#[110]⟩ d ⟨#[112, 111, 109]⟩ ⟨#[99]⟩ ⟨#[116, 101, 115, 116]⟩ false [] = some ((⟨#[103, 58, 110, 58, 112, 111, 109, 58, 99, 58]⟩ : ByteArray) ++ d ++ (⟨#[58, 116, 101, 115, 116]⟩ : ByteArray)) := by
  unfold classpath_Line.f
  rw [hor]
  simp only [Option.bind_some]
  rw [if_neg (by simp)]
  simp [strings_Join.f, Lib.join_cons, Lib.joinTail]
  exact ⟨by omega, by apply ByteArray.ext; simp⟩
theorem line2 : classpath_Line.f 5 ⟨#[103]⟩ ⟨#[98]⟩ ⟨#[50]⟩ ⟨#[]⟩ ⟨#[]⟩ ⟨#[116, 101, 115, 116]⟩ false [] = some ⟨#[103, 58, 98, 58, 106, 97, 114, 58, 50, 58, 116, 101, 115, 116]⟩ := by
  unfold classpath_Line.f
  rw [hor2]
  simp only [Option.bind_some]
  rw [if_pos (by simp)]
  simp [strings_Join.f, Lib.join_cons, Lib.joinTail]
theorem one_chain (x : S35) (h : x.f0 = -1) : isChain [x] ∧ [x].length ≤ 1000 := by
  refine ⟨fun i hi => ?_, by simp⟩
  obtain rfl : i = 0 := by simpa using hi
  exact h
theorem awake : newellaw25_awake.f = some true := by
  unfold newellaw25_awake.f
  refine Option.bind_eq_some_iff.2 ⟨⟨#[103, 58, 97, 58, 49, 10, 32, 32, 103, 58, 98, 58, 106, 97, 114, 58, 50, 58, 116, 101, 115, 116, 32, 40, 99, 111, 110, 102, 108, 105, 99, 116, 41, 10]⟩, ?_, ?_⟩
  · unfold verbose_Text.f
    refine (if_pos (one_chain _ rfl)).trans ?_
    · refine Option.bind_eq_some_iff.2 ⟨⟨#[103, 58, 97, 58, 49]⟩, rfl, ?_⟩
      refine (if_pos (by decide)).trans ?_
      rw [g_one _ 0 _ _ ⟨#[32, 40, 99, 111, 110, 102, 108, 105, 99, 116, 41]⟩ line2 rfl (by decide)]
      rfl
  · simp
theorem coord : coord_Text.f ⟨#[103]⟩ ⟨#[114]⟩ ⟨#[49]⟩ = some ⟨#[103, 58, 114, 58, 49]⟩ := by
  rfl
theorem order (n k : Nat) (hn : n ≤ 12) (l : List S35) (hl : l.length = n) (hc : isChain l) : ∃ o, verbose_Order.f (k + 14) ⟨#[103]⟩ ⟨#[114]⟩ ⟨#[49]⟩ l = some o ∧ o.length = n := by
  have key : ∀ (m i : Nat) (acc : List Int) (k : Nat), i + m = n → acc.length = i → ∃ o, verbose_Order.l0 (k + m + 1) acc (chainRows n) n i = some o ∧ o.length = n := by
    intro m
    induction m with
    | zero =>
      intro i acc k him hacc
      refine ⟨acc, ?_, by omega⟩
      rw [verbose_Order.l0]
      exact if_neg (by omega)
    | succ m ih =>
      intro i acc k him hacc
      obtain ⟨o, h1, h2⟩ := ih (i + 1) (acc ++ [(rd_T52 (chainRows n) (i : Int)).f0]) k (by omega) (by simp [hacc])
      refine ⟨o, ?_, h2⟩
      show verbose_Order.l0 ((k + m + 1) + 1) _ _ _ _ = _
      rw [verbose_Order.l0]
      refine (if_pos (by omega)).trans ?_
      refine (if_pos (by omega)).trans ?_
      refine (if_pos (by simp [chainRows]; omega)).trans ?_
      refine (if_pos (by omega)).trans ?_
      rw [show wrap64 ((i : Int) + 1) = ((i + 1 : Nat) : Int) from by unfold wrap64; omega]
      exact h1
  obtain ⟨o, h1, h2⟩ := key n 0 [] (k + 13 - n) (by omega) rfl
  refine ⟨o, ?_, h2⟩
  unfold verbose_Order.f verbose_rows.f
  rw [if_pos ⟨hc, by omega⟩, hl, Option.bind_some]
  rw [show k + 14 = k + 13 - n + n + 1 by omega]
  simpa [chainRows] using h1


theorem loop (n : Nat) (hn : n ≤ 12) (l1 : List Int) : ∀ (m i : Nat) (want ind : ByteArray) (nodes : List S35), i + m = n → want.size ≤ 100 * (i + 1) → ind = rep2 i → nodes.length = i → isChain nodes →
    verbose_Text.g nodes 0 ⟨#[103, 58, 114, 58, 49, 10]⟩ = some want →
    newellaw25_VerboseLines.l0 (m + 20) n l1 marks want ind i ⟨#[103]⟩ ⟨#[114]⟩ ⟨#[49]⟩ nodes = some true := by
  intro m
  induction m with
  | zero =>
    intro i want ind nodes him hw hind hl hch hg
    obtain rfl : i = n := by omega
    show newellaw25_VerboseLines.l0 (19 + 1) _ _ _ _ _ _ _ _ _ _ = _
    rw [newellaw25_VerboseLines.l0]
    refine (if_neg (Int.lt_irrefl _)).trans ?_
    refine Option.bind_eq_some_iff.2 ⟨true, awake, ?_⟩
    refine (if_pos rfl).trans ?_
    refine Option.bind_eq_some_iff.2 ⟨want, ?_, ?_⟩
    · unfold verbose_Text.f
      refine (if_pos ⟨hch, by omega⟩).trans ?_
      refine Option.bind_eq_some_iff.2 ⟨_, coord, ?_⟩
      refine (if_pos (by decide)).trans ?_
      exact hg
    · refine (if_pos rfl).trans ?_
      obtain ⟨o, ho, hol⟩ := order i 5 hn nodes hl hch
      refine Option.bind_eq_some_iff.2 ⟨o, ho, ?_⟩
      simp [hol]
  | succ m ih =>
    intro i want ind nodes him hw hind hl hch hg
    obtain ⟨d, hd, hds⟩ := digits i (m + 18) (by omega)
    have hi1 : wrap64 ((i : Int) + 1) = ((i + 1 : Nat) : Int) := by unfold wrap64; omega
    have hi2 : wrap64 ((i : Int) - 1) = (i : Int) - 1 := by unfold wrap64; omega
    have hisz : ind.size = 2 * i := by rw [hind, rep2_size]
    -- the step, of any kind
    have step : ∀ q : Int, 0 ≤ q → q < 4 → newellaw25_VerboseLines.l0 (m + 20) n l1 marks ((((((want ++ (ind ++ (⟨#[32, 32]⟩ : ByteArray))) ++ (⟨#[103, 58, 110, 58, 112, 111, 109, 58, 99, 58]⟩ : ByteArray)) ++ d) ++ (⟨#[58, 116, 101, 115, 116]⟩ : ByteArray)) ++ (rdOf ByteArray.empty marks q)) ++ (⟨#[10]⟩ : ByteArray)) (ind ++ (⟨#[32, 32]⟩ : ByteArray)) ((i + 1 : Nat) : Int) ⟨#[103]⟩ ⟨#[114]⟩ ⟨#[49]⟩ (nodes ++ [node i d (1 + q)]) = some true := by
      intro q hq0 hq1
      have hms := mark_size q hq0 hq1
      have hlen : (rep2 (0 + nodes.length + 1)) = ind ++ (⟨#[32, 32]⟩ : ByteArray) := by rw [hl, Nat.zero_add, rep2_succ, hind]
      refine ih (i + 1) _ _ _ (by omega) ?_ ?_ ?_ ?_ ?_
      · (simp only [ByteArray.size_append, ByteArray.size_mk', List.size_toArray, List.length_cons, List.length_nil]; omega)
      · rw [hind, rep2_succ]
      · simp [hl]
      · intro j hj
        rw [List.length_append, List.length_singleton, hl] at hj
        by_cases hji : j < i
        · have := hch j (by omega)
          simpa [List.getD_eq_getElem?_getD, List.getElem?_append_left (show j < nodes.length by omega)] using this
        · obtain rfl : j = i := by omega
          subst hl
          simp [List.getD_eq_getElem?_getD, node]
      · rw [g_snoc, hg, Option.bind_some, g_one (node i d (1 + q)) _ want _ _ (line d hds) (reason_mark q hq0 hq1) (by rw [hlen]; (simp only [ByteArray.size_append, ByteArray.size_mk', List.size_toArray, List.length_cons, List.length_nil]; omega)), hlen]
        simp only [ByteArray.append_assoc]
    show newellaw25_VerboseLines.l0 ((m + 20) + 1) _ _ _ _ _ _ _ _ _ _ = _
    rw [newellaw25_VerboseLines.l0]
    refine (if_pos (by omega)).trans ?_
    by_cases hc : (i : Int) < (l1.length : Int)
    · refine (if_pos hc).trans ?_
      refine (if_pos (by omega)).trans ?_
      refine Option.bind_eq_some_iff.2 ⟨d, hd, ?_⟩
      refine (if_pos (by omega)).trans ?_
      refine (if_pos (by omega)).trans ?_
      refine (if_pos (by (simp only [ByteArray.size_append, ByteArray.size_mk', List.size_toArray, List.length_cons, List.length_nil]; omega))).trans ?_
      refine (if_pos (by (simp only [ByteArray.size_append, ByteArray.size_mk', List.size_toArray, List.length_cons, List.length_nil]; omega))).trans ?_
      refine Option.bind_eq_some_iff.2 ⟨d, hd, ?_⟩
      refine (if_pos (by (simp only [ByteArray.size_append, ByteArray.size_mk', List.size_toArray, List.length_cons, List.length_nil]; omega))).trans ?_
      refine (if_pos (by (simp only [ByteArray.size_append, ByteArray.size_mk', List.size_toArray, List.length_cons, List.length_nil]; omega))).trans ?_
      obtain ⟨q, hqe, hq0, hq1⟩ : ∃ q, q = Int.tmod (IntKind.u64.wrap (rd l1 i)) 4 ∧ 0 ≤ q ∧ q < 4 := ⟨_, rfl, (u64_mod _ 4 (by omega)).1, (u64_mod _ 4 (by omega)).2⟩
      rw [← hqe]
      have hw1 : wrap64 q = q := by unfold wrap64; omega
      have hw2 : wrap64 (1 + q) = 1 + q := by unfold wrap64; omega
      have hw3 : wrap64 (1 + q - 1) = q := by unfold wrap64; omega
      rw [hw1, hw2, hw3]
      have hms := mark_size q hq0 hq1
      refine (if_pos hq0).trans ?_
      refine (if_pos (by simpa [marks] using hq1)).trans ?_
      refine (if_pos (by (simp only [ByteArray.size_append, ByteArray.size_mk', List.size_toArray, List.length_cons, List.length_nil]; omega))).trans ?_
      refine (if_pos (by (simp only [ByteArray.size_append, ByteArray.size_mk', List.size_toArray, List.length_cons, List.length_nil]; omega))).trans ?_
      rw [hi1, hi2]
      exact step q hq0 hq1
    · refine (if_neg hc).trans ?_
      refine Option.bind_eq_some_iff.2 ⟨d, hd, ?_⟩
      refine (if_pos (by omega)).trans ?_
      refine (if_pos (by omega)).trans ?_
      refine (if_pos (by (simp only [ByteArray.size_append, ByteArray.size_mk', List.size_toArray, List.length_cons, List.length_nil]; omega))).trans ?_
      refine (if_pos (by (simp only [ByteArray.size_append, ByteArray.size_mk', List.size_toArray, List.length_cons, List.length_nil]; omega))).trans ?_
      refine Option.bind_eq_some_iff.2 ⟨d, hd, ?_⟩
      refine (if_pos (by (simp only [ByteArray.size_append, ByteArray.size_mk', List.size_toArray, List.length_cons, List.length_nil]; omega))).trans ?_
      refine (if_pos (by (simp only [ByteArray.size_append, ByteArray.size_mk', List.size_toArray, List.length_cons, List.length_nil]; omega))).trans ?_
      have hms := mark_size 0 (by omega) (by omega)
      have h11 : (1 : Int) - 1 = 0 := rfl
      rw [h11]
      refine (if_pos (by omega)).trans ?_
      refine (if_pos (by simp [marks])).trans ?_
      refine (if_pos (by (simp only [ByteArray.size_append, ByteArray.size_mk', List.size_toArray, List.length_cons, List.length_nil]; omega))).trans ?_
      refine (if_pos (by (simp only [ByteArray.size_append, ByteArray.size_mk', List.size_toArray, List.length_cons, List.length_nil]; omega))).trans ?_
      rw [hi1, hi2]
      exact step 0 (by omega) (by omega)

theorem VerboseLines : newellaw25_VerboseLines.Pure := by
  intro a0 l1 _ _ _ _
  obtain ⟨n, hn, hn1, hn2⟩ : ∃ n : Nat, (n : Int) = wrap64 (1 + (wrap64 (Int.tmod (IntKind.u64.wrap (a0)) 12))) ∧ n ≤ 12 ∧ 1 ≤ n := by
    have := u64_mod a0 12 (by omega)
    refine ⟨(wrap64 (1 + (wrap64 (Int.tmod (IntKind.u64.wrap (a0)) 12)))).toNat, ?_, ?_, ?_⟩ <;> (unfold wrap64; omega)
  refine ⟨n + 20, ?_⟩
  unfold newellaw25_VerboseLines.f
  rw [← hn]
  exact loop n hn1 l1 n 0 _ _ _ (by omega) (by decide) rfl rfl (fun j hj => absurd hj (by simp)) rfl
end Go.Proofs.Ytnbniafcpmlcnaa.Pure
