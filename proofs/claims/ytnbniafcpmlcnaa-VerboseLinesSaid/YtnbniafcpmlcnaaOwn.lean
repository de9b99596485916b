/- Words of this session's own: a scope whose label is jumped back to, walked as a loop is: the relation is chosen where the run first comes to the label. -/
import Derived.ScopeJumps
import Derived.Deep.LoopGhost
namespace Go.Proofs.Ytnbniafcpmlcnaa.Own
open Go

/-- At the label: some relation holds, and from it each pass comes to the label at a smaller number, or leaves. -/
def JJ (P : Program) (l : Nat) (R : Code) (Q : Exit → Act → World → Prop) (a : Act) (w : World) : Prop :=
  ∃ (I : Nat → Act → World → Prop) (n : Nat), I n a w ∧ ∀ n a w, I n a w → R.wp P (Exit.jump l (fun a' w' => ∃ n', n' < n ∧ I n' a' w') Q) a w

theorem wp_scope_again {P : Program} {Q : Exit → Act → World → Prop} {a : Act} {w : World} {c R : Code} (l : Nat) (hf : findLabel c l = some (.seq .skip R))
    (h : c.wp P (Exit.jump l (JJ P l R Q) Q) a w) : (Code.scope c).wp P Q a w := by
  intro b k cs
  have hg : gotoIn l (.inScope c :: k) = some (.code (.seq .skip R) :: .inScope c :: k) := by simp [gotoIn, hf]
  have key : ∀ (I : Nat → Act → World → Prop), (∀ n a w, I n a w → R.wp P (Exit.jump l (fun a' w' => ∃ n', n' < n ∧ I n' a' w') Q) a w) →
      ∀ n a w, I n a w → ∃ e a' w', Q e a' w' ∧ Arrives P (lone (b.at a (.code R :: .inScope c :: k)) cs w) b k cs e a' w' := by
    intro I hI n
    induction n using Nat.strongRecOn with
    | _ n ih =>
      intro a w hn
      obtain ⟨e, a₁, w₁, hq, harr⟩ := hI n a w hn b (.inScope c :: k) cs
      cases e with
      | normal => exact ⟨.normal, a₁, w₁, hq, Steps.trans harr (.one step_inScope)⟩
      | exit id => exact ⟨.exit id, a₁, w₁, hq, fun k' hk => harr k' (by simp [exitTo, hk])⟩
      | goto l' =>
        obtain ⟨rfl, n', hlt, hJ'⟩ := hq
        obtain ⟨e₂, a₂, w₂, hq₂, harr₂⟩ := ih n' hlt a₁ w₁ hJ'
        exact ⟨e₂, a₂, w₂, hq₂, .of_steps ((harr _ hg).trans (.head step_seq (.one step_skip))) harr₂⟩
      | ret => exact ⟨_, a₁, w₁, hq, harr⟩
      | panic ch => exact ⟨_, a₁, w₁, hq, harr⟩
      | outgrown => exact ⟨_, a₁, w₁, hq, harr⟩
  obtain ⟨e, a₁, w₁, hq, harr⟩ := h b (.inScope c :: k) cs
  cases e with
  | normal => exact ⟨.normal, a₁, w₁, hq, .head step_scope (Steps.trans harr (.one step_inScope))⟩
  | exit id => exact ⟨.exit id, a₁, w₁, hq, fun k' hk => .head step_scope (harr k' (by simp [exitTo, hk]))⟩
  | goto l' =>
    obtain ⟨rfl, I, n, hI, hpass⟩ := hq
    obtain ⟨e₂, a₂, w₂, hq₂, harr₂⟩ := key I hpass n a₁ w₁ hI
    exact ⟨e₂, a₂, w₂, hq₂, .of_steps (.head step_scope ((harr _ hg).trans (.head step_seq (.one step_skip)))) harr₂⟩
  | ret => exact ⟨_, a₁, w₁, hq, .of_steps (.one step_scope) harr⟩
  | panic ch => exact ⟨_, a₁, w₁, hq, .of_steps (.one step_scope) harr⟩
  | outgrown => exact ⟨_, a₁, w₁, hq, .of_steps (.one step_scope) harr⟩

/-- A frame's slots, some of them laid anew. -/
def setAll : List Value → List Nat → List Value → List Value
  | A, d :: ds, u :: us => setAll (A.set d u) ds us
  | A, _, _ => A

/-- Where the run first comes to the label. -/
theorem again {P : Program} {Q : Exit → Act → World → Prop} {w : World} {R : Code} {l : Nat} {D : List Deferred} (A : List Value) (ds : List Nat) (REL : Nat → List Value → World → Prop) (n₀ : Nat)
    (us0 : List Value) (h0 : REL n₀ us0 w) (hA : setAll A ds us0 = A)
    (pass : ∀ n us w, REL n us w → ∀ J : Act → World → Prop, (∀ k us' a' w', k < n → REL k us' w' → a' = ⟨(setAll A ds us').toArray, D⟩ → J a' w') → R.wp P (Exit.jump l J Q) ⟨(setAll A ds us).toArray, D⟩ w) :
    R.wp P (Exit.jump l (JJ P l R Q) Q) ⟨A.toArray, D⟩ w := by
  have hp : ∀ n a w, (∃ us, REL n us w ∧ a = ⟨(setAll A ds us).toArray, D⟩) → R.wp P (Exit.jump l (fun a' w' => ∃ n', n' < n ∧ ∃ us, REL n' us w' ∧ a' = ⟨(setAll A ds us).toArray, D⟩) Q) a w := by
    rintro n a w ⟨us, hr, rfl⟩
    exact pass n us w hr _ fun k us' a' w' hk hr' ha => ⟨k, hk, us', hr', ha⟩
  have h1 := pass n₀ us0 w h0 (JJ P l R Q) fun k us' a' w' _ hr' ha => ⟨fun n a w => ∃ us, REL n us w ∧ a = ⟨(setAll A ds us).toArray, D⟩, k, ⟨us', hr', ha⟩, hp⟩
  rwa [hA] at h1

section
variable {P : Program} {Q : Exit → Act → World → Prop} {a : Act} {w : World} {l : Nat} {J : Act → World → Prop}
@[go_sem] theorem jump_normal : Exit.jump l J Q .normal a w = Q .normal a w := rfl
@[go_sem] theorem jump_exit (id : Nat) : Exit.jump l J Q (.exit id) a w = Q (.exit id) a w := rfl
@[go_sem] theorem jump_ret : Exit.jump l J Q .ret a w = Q .ret a w := rfl
@[go_sem] theorem jump_panic (ch : List PanicEntry) : Exit.jump l J Q (.panic ch) a w = Q (.panic ch) a w := rfl
theorem jump_goto (h : J a w) : Exit.jump l J Q (.goto l) a w := ⟨rfl, h⟩
end
end Go.Proofs.Ytnbniafcpmlcnaa.Own
