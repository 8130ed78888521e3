/- A scope that is jumped about in by gotos to several labels: one law; a frame told by a function. No conditions beyond those of each lemma. -/
import Derived.Test.YtdodajpiidkglaaProg
import Derived.Scope
import Derived.WalkKit
import Derived.WalkMore
import Derived.OwnWalk
import Derived.Test.YtdodajpiidkglaaWMore
namespace Go.Proofs.Ytdodajpiidkglaa.K
open Go.RowKit Go.Proofs.YtdodajpiidkglaaW.PrintWords

/-- As Q; by a goto to label l: J l. -/
def jumps (J : Nat → Act → World → Prop) (Q : Exit → Act → World → Prop) : Exit → Act → World → Prop
  | .goto l, a, w => J l a w
  | e, a, w => Q e a w

section
variable {P : Program} {a : Act} {w : World} {Q : Exit → Act → World → Prop} {J : Nat → Act → World → Prop}
@[go_sem] theorem jumps_normal : jumps J Q .normal a w = Q .normal a w := rfl
@[go_sem] theorem jumps_exit (id : Nat) : jumps J Q (.exit id) a w = Q (.exit id) a w := rfl
@[go_sem] theorem jumps_ret : jumps J Q .ret a w = Q .ret a w := rfl
@[go_sem] theorem jumps_panic (ch : List PanicEntry) : jumps J Q (.panic ch) a w = Q (.panic ch) a w := rfl
@[go_sem] theorem jumps_goto (l : Nat) : jumps J Q (.goto l) a w = J l a w := rfl

/-- What a goto to a label goes on with. -/
def Rest (c : Code) (l : Nat) (rest : Code) : Prop := findLabel c l = some (Code.seq Code.skip rest)

theorem rest_goes {c rest : Code} {l : Nat} (h : Rest c l rest) {b : Frame} {a : Act} {k : List Item} {cs : List Frame} {w : World} :
    ∃ k', gotoIn l (.inScope c :: k) = some k' ∧ Steps P (lone (b.at a k') cs w) (lone (b.at a (.code rest :: .inScope c :: k)) cs w) := by
  have h' : findLabel c l = some (Code.seq Code.skip rest) := h
  exact ⟨_, by simp [gotoIn, h'], .head step_seq (.one step_skip)⟩

theorem wp_scope_labels {c : Code} (I : Nat → Nat → Act → World → Prop)
    (first : ∀ J : Nat → Act → World → Prop, (∀ l n a' w', I l n a' w' → J l a' w') → (∀ l n a' w' rest, I l n a' w' → findLabel c l = some (Code.seq Code.skip rest) → rest.wp P (jumps J Q) a' w') → c.wp P (jumps J Q) a w)
    (pass : ∀ l n a w, I l n a w → ∃ rest, Rest c l rest ∧ ∀ J : Nat → Act → World → Prop, (∀ l' n' a' w', n' < n → I l' n' a' w' → J l' a' w') → rest.wp P (jumps J Q) a w) :
    (Code.scope c).wp P Q a w := by
  intro b k cs
  have key : ∀ n l a w, I l n a w → ∀ k', gotoIn l (.inScope c :: k) = some k' → ∃ e a' w', Q e a' w' ∧ Arrives P (lone (b.at a k') cs w) b k cs e a' w' := by
    intro n
    induction n using Nat.strongRecOn with
    | _ n ih =>
      intro l a w hI k' hk'
      obtain ⟨rest, hf, hp⟩ := pass l n a w hI
      obtain ⟨k1, hg, hst⟩ := rest_goes (P := P) hf (b := b) (a := a) (k := k) (cs := cs) (w := w)
      rw [hg] at hk'
      injection hk' with hk'
      subst hk'
      obtain ⟨e, a₁, w₁, hq, harr0⟩ := hp (fun l' a' w' => ∃ n' < n, I l' n' a' w') (fun l' n' a' w' hn hi => ⟨n', hn, hi⟩) b (.inScope c :: k) cs
      have harr := Arrives.of_steps hst harr0
      cases e with
      | normal => exact ⟨.normal, a₁, w₁, hq, Steps.trans harr (.one step_inScope)⟩
      | exit id => exact ⟨.exit id, a₁, w₁, hq, fun k' hk => harr k' (by simp [exitTo, hk])⟩
      | goto l' =>
        obtain ⟨n', hn, hi⟩ := hq
        obtain ⟨rest', hf', _⟩ := pass l' n' a₁ w₁ hi
        obtain ⟨k2, hg', _⟩ := rest_goes (P := P) hf' (b := b) (a := a₁) (k := k) (cs := cs) (w := w₁)
        obtain ⟨e₂, a₂, w₂, hq₂, harr₂⟩ := ih n' hn l' a₁ w₁ hi _ hg'
        exact ⟨e₂, a₂, w₂, hq₂, .of_steps (harr _ hg') harr₂⟩
      | ret => exact ⟨_, a₁, w₁, hq, harr⟩
      | panic ch => exact ⟨_, a₁, w₁, hq, harr⟩
      | outgrown => exact ⟨_, a₁, w₁, hq, harr⟩
  have hall : ∀ l n a' w' rest, I l n a' w' → findLabel c l = some (Code.seq Code.skip rest) → rest.wp P (jumps (fun l' a' w' => ∃ n', I l' n' a' w') Q) a' w' := by
    intro l n a' w' rest hi hf b k cs
    obtain ⟨rest', hf', hp⟩ := pass l n a' w' hi
    replace hf' := hf.symm.trans hf'
    injection hf' with hf'
    injection hf' with _ hf'
    subst hf'
    exact hp (fun l' a' w' => ∃ n', I l' n' a' w') (fun l' n' a' w' _ hi' => ⟨n', hi'⟩) b k cs
  obtain ⟨e, a₁, w₁, hq, harr⟩ := first (fun l' a' w' => ∃ n', I l' n' a' w') (fun l' n' a' w' hi => ⟨n', hi⟩) hall b (.inScope c :: k) cs
  cases e with
  | normal => exact ⟨.normal, a₁, w₁, hq, .head step_scope (Steps.trans harr (.one step_inScope))⟩
  | exit id => exact ⟨.exit id, a₁, w₁, hq, fun k' hk => .head step_scope (harr k' (by simp [exitTo, hk]))⟩
  | goto l' =>
    obtain ⟨n', hi⟩ := hq
    obtain ⟨rest', hf', _⟩ := pass l' n' a₁ w₁ hi
    obtain ⟨k2, hg', _⟩ := rest_goes (P := P) hf' (b := b) (a := a₁) (k := k) (cs := cs) (w := w₁)
    obtain ⟨e₂, a₂, w₂, hq₂, harr₂⟩ := key n' l' a₁ w₁ hi _ hg'
    exact ⟨e₂, a₂, w₂, hq₂, .of_steps (.head step_scope (harr _ hg')) harr₂⟩
  | ret => exact ⟨_, a₁, w₁, hq, .of_steps (.one step_scope) harr⟩
  | panic ch => exact ⟨_, a₁, w₁, hq, .of_steps (.one step_scope) harr⟩
  | outgrown => exact ⟨_, a₁, w₁, hq, .of_steps (.one step_scope) harr⟩
end

theorem ex_frame (a : Act) (F : (Nat → Value) → Act) (h : a = F (fun k => a.tmps.getD k undef)) : ∃ u, a = F u := ⟨_, h⟩
end Go.Proofs.Ytdodajpiidkglaa.K
