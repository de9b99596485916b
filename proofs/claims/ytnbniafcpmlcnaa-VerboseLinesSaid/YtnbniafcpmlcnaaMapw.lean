/- Words of this session's own: a map of the call's own, told as a function from keys to what is held there, whatever the elements are. -/
import Derived.Maps.OwnSet
import Derived.Maps.Views
import Derived.Deep.Draws
namespace Go.Proofs.Ytnbniafcpmlcnaa.Own
open Go Go.Maps
open Go.RowKit

/-- An element as it stands, looked into by nobody. -/
def hold (v : Value) : Option (DataW Value × List MemPlace) := some (.held v, [])

/-- Block b is a map of at most n entries; at key kl it holds f kl. -/
def MapAt (P : Program) (k : TypeId) (w : World) (b n : Nat) (f : Lit → Option Value) : Prop :=
  ∃ D : DataW Value, w.ownsMap P k hold b n D ∧ ∀ kl, WideAt.IsKeyLit kl → ∀ z, D.atKey kl z = match f kl with
    | some v => .held v
    | none => z

open Classical in
/-- The function, turned at one key. -/
noncomputable def upd (f : Lit → Option Value) (kl : Lit) (v : Value) : Lit → Option Value := fun x => if x = kl then some v else f x
theorem upd_same (f : Lit → Option Value) (kl : Lit) (v : Value) : upd f kl v kl = some v := by simp [upd]
theorem upd_other (f : Lit → Option Value) {kl x : Lit} (v : Value) (h : x ≠ kl) : upd f kl v x = f x := by simp [upd, h]

section
variable {P : Program} {k t e : TypeId} {w w' : World} {b n : Nat} {f : Lit → Option Value}

theorem MapAt.made (P : Program) (k : TypeId) (w : World) : MapAt P k (w.alloc (.map #[] 0)) w.heap.size 0 (fun _ => none) :=
  ⟨.map [], World.ownsMap_made _ _ _ _, fun kl _ z => by simp [DataW.atKey]⟩

theorem MapAt.kept {row : Option Nat} (h : MapAt P k w b n f) (hg : w.grownBy w' row) (hne : some b ≠ row) : MapAt P k w' b n f := by
  obtain ⟨D, h1, h2⟩ := h
  exact ⟨D, h1.kept hg hne, h2⟩
theorem MapAt.same (h : MapAt P k w b n f) (hb : w'.heap[b]? = w.heap[b]?) : MapAt P k w' b n f := by
  obtain ⟨D, ⟨es, clock, h0, hr⟩, h2⟩ := h
  exact ⟨D, ⟨es, clock, hb.trans h0, hr⟩, h2⟩
theorem MapAt.drewN (h : MapAt P k w b n f) (m : Nat) : MapAt P k (w.drewN m) b n f := h.same rfl
theorem MapAt.drew (h : MapAt P k w b n f) : MapAt P k w.drew b n f := h.same rfl
theorem MapAt.lt (h : MapAt P k w b n f) : b < w.heap.size := by
  obtain ⟨D, h1, _⟩ := h
  exact h1.lt
theorem MapAt.below {B : Nat} (h : MapAt P k w b n f) (hb : Below B w w') (hlt : b < B) : MapAt P k w' b n f := h.same (hb.block b hlt)
theorem MapAt.alloc (h : MapAt P k w b n f) (o : Obj) : MapAt P k (w.alloc o) b n f := by
  obtain ⟨D, h1, h2⟩ := h
  exact ⟨D, h1.alloc o, h2⟩
theorem MapAt.setCell (h : MapAt P k w b n f) {a : Addr} (ha : b ≠ a.block) (u : Value) : MapAt P k (w.setCell a u) b n f := by
  obtain ⟨D, h1, h2⟩ := h
  exact ⟨D, h1.setCell ha u, h2⟩
theorem MapAt.mono (h : MapAt P k w b n f) {n' : Nat} (hn : n ≤ n') : MapAt P k w b n' f := by
  obtain ⟨D, h1, h2⟩ := h
  exact ⟨D, h1.mono hn, h2⟩
theorem MapAt.congr {f' : Lit → Option Value} (h : MapAt P k w b n f) (hf : ∀ kl, WideAt.IsKeyLit kl → f' kl = f kl) : MapAt P k w b n f' := by
  obtain ⟨D, h1, h2⟩ := h
  exact ⟨D, h1, fun kl hk z => by rw [hf kl hk]; exact h2 kl hk z⟩

/-- 'm[k]'. -/
theorem MapAt.look (h : MapAt P k w b n f) (K : Keyed P k) (ht : P.underlying t = some (.map k e)) {z : Value} (hz : (zeroValue e).run P w = .ok z w) {key : Value} {kl : Lit} (hkey : keyOf P k key = some kl) :
    (Instr.lookup t (.map (some b)) key false).run P w = .ok ((f kl).getD z) w := by
  obtain ⟨D, h1, h2⟩ := h
  obtain ⟨v, ps, hrun, hv⟩ := h1.lookup K ht hz (zd := .held z) (zp := []) rfl hkey
  rw [hrun]
  have h3 := h2 kl (K.key hkey) (.held z)
  rw [h3] at hv
  cases hf : f kl with
  | none => rw [hf] at hv; simp [hold] at hv; simp [hv.1]
  | some u => rw [hf] at hv; simp [hold] at hv; simp [hv.1]

/-- 'v, ok := m[k]'. -/
theorem MapAt.look_ok (h : MapAt P k w b n f) (K : Keyed P k) (ht : P.underlying t = some (.map k e)) {z : Value} (hz : (zeroValue e).run P w = .ok z w) {key : Value} {kl : Lit} (hkey : keyOf P k key = some kl) :
    (Instr.lookup t (.map (some b)) key true).run P w = .ok (.tuple #[(f kl).getD z, .bool (f kl).isSome]) w := by
  obtain ⟨D, h1, h2⟩ := h
  obtain ⟨v, ps, hrun, hv⟩ := h1.look_ok K ht hz (zd := .held z) (zp := []) rfl hkey
  rw [hrun]
  have h3 := h2 kl (K.key hkey) (.held z)
  rw [h3] at hv
  cases hf : f kl with
  | none =>
    rw [hf] at hv; simp [hold] at hv
    have : Maps.has D kl = false := Maps.has_false_of_atKey (fun z' => by rw [h2 kl (K.key hkey) z', hf])
    simp [hv.1, this]
  | some u =>
    rw [hf] at hv; simp [hold] at hv
    have : Maps.has D kl = true := Maps.has_true_of_atKey (y := .held u) (fun z' => by rw [h2 kl (K.key hkey) z', hf])
    simp [hv.1, this]

/-- 'm[k] = v'. -/
theorem MapAt.put (h : MapAt P k w b n f) (K : Keyed P k) (ht : P.underlying t = some (.map k e)) (hn : n < maxLen) {key : Value} (val : Value) {kl : Lit} (hkey : keyOf P k key = some kl) :
    ∃ w2, (Instr.mapUpdate t (.map (some b)) key val).run P w = .ok () w2 ∧ MapAt P k w2 b (n + 1) (upd f kl val) ∧ w.grownBy w2 (some b) := by
  obtain ⟨D, h1, h2⟩ := h
  obtain ⟨w2, hrun, hown, hg⟩ := h1.update K ht hn (val := val) (d := .held val) (ps := []) hkey rfl
  refine ⟨w2, hrun, ⟨_, hown, fun x hx z => ?_⟩, hg⟩
  by_cases hxk : x = kl
  · subst hxk
    rw [Maps.atKey_put_same h1.isMap (K.key hkey), upd_same]
  · rw [Maps.atKey_put_other hxk, h2 x hx z, upd_other f val hxk]

/-- At the operation, for the walk. -/
theorem wpList_put {ops : Array Oper} {rest : List Oper} {o : Oper} {a : Act} {Q : Exit → Act → World → Prop} (hg : o.guard = none) (m x v : Operand) (hop : o.op = Op.mapUpdate t m x v)
    (h : MapAt P k w b n f) (K : Keyed P k) (ht : P.underlying t = some (.map k e)) (hn : n < maxLen) (hm : a.eval m = .map (some b)) (key val : Value) (kl : Lit) (hx : a.eval x = key) (hv : a.eval v = val) (hkey : keyOf P k key = some kl)
    (hK : ∀ w2, MapAt P k w2 b (n + 1) (upd f kl val) → w.grownBy w2 (some b) → wpList P ops Q rest (a.put o.dst undef) w2) : wpList P ops Q (o :: rest) a w := by
  refine wpList_plain hg fun K' hK' => ?_
  obtain ⟨w2, hrun, r1, r2⟩ := h.put K ht hn val hkey
  unfold Oper.wp
  simp [execOp, hop, hm, hx, hv, hrun, Result.andThen]
  exact hK' _ _ (hK w2 r1 r2)
/-- 'm[k]' at the operation. -/
theorem wpList_look {ops : Array Oper} {rest : List Oper} {o : Oper} {a : Act} {Q : Exit → Act → World → Prop} (hg : o.guard = none) (m x : Operand) (hop : o.op = Op.lookup t m x false)
    (h : MapAt P k w b n f) (K : Keyed P k) (ht : P.underlying t = some (.map k e)) {z : Value} (hz : (zeroValue e).run P w = .ok z w) (hm : a.eval m = .map (some b)) (key : Value) (kl : Lit) (hx : a.eval x = key) (hkey : keyOf P k key = some kl)
    (hK : wpList P ops Q rest (a.put o.dst ((f kl).getD z)) w) : wpList P ops Q (o :: rest) a w := by
  refine wpList_plain hg fun K' hK' => ?_
  have hrun := h.look K ht hz hkey
  unfold Oper.wp
  simp [execOp, hop, hm, hx, hrun, Result.andThen]
  exact hK' _ _ hK
theorem wpList_look_ok {ops : Array Oper} {rest : List Oper} {o : Oper} {a : Act} {Q : Exit → Act → World → Prop} (hg : o.guard = none) (m x : Operand) (hop : o.op = Op.lookup t m x true)
    (h : MapAt P k w b n f) (K : Keyed P k) (ht : P.underlying t = some (.map k e)) {z : Value} (hz : (zeroValue e).run P w = .ok z w) (hm : a.eval m = .map (some b)) (key : Value) (kl : Lit) (hx : a.eval x = key) (hkey : keyOf P k key = some kl)
    (hK : wpList P ops Q rest (a.put o.dst (.tuple #[(f kl).getD z, .bool (f kl).isSome])) w) : wpList P ops Q (o :: rest) a w := by
  refine wpList_plain hg fun K' hK' => ?_
  have hrun := h.look_ok K ht hz hkey
  unfold Oper.wp
  simp [execOp, hop, hm, hx, hrun, Result.andThen]
  exact hK' _ _ hK
/-- The same in a region that draws its order. -/
theorem step_put {ops : Array Oper} {o : Oper} {a : Act} {K' : Act → World → Prop} {Q : Exit → Act → World → Prop} {N : Option Tmp} (hw : Region.wanted o (yielded ops a.tmps) = true) (hN : o.dst = N) (m x v : Operand) (hop : o.op = Op.mapUpdate t m x v)
    (h : MapAt P k w b n f) (K : Keyed P k) (ht : P.underlying t = some (.map k e)) (hn : n < maxLen) (hm : a.eval m = .map (some b)) (key val : Value) (kl : Lit) (hx : a.eval x = key) (hv : a.eval v = val) (hkey : keyOf P k key = some kl)
    (hK : ∀ w2, MapAt P k w2 b (n + 1) (upd f kl val) → w.grownBy w2 (some b) → K' (a.put N undef) w2) : if Region.wanted o (yielded ops a.tmps) = true then Oper.wp P o a w K' Q else K' (a.put N undef) w := by
  obtain ⟨w2, hrun, r1, r2⟩ := h.put K ht hn val hkey
  rw [if_pos hw]
  subst hN
  unfold Oper.wp
  simp [execOp, hop, hm, hx, hv, hrun, Result.andThen]
  exact hK w2 r1 r2
end
end Go.Proofs.Ytnbniafcpmlcnaa.Own
