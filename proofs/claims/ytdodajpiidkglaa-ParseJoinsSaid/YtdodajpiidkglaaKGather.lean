/- The six lists that a parser gathers, in memory. No conditions beyond those of each lemma. -/
import Derived.Test.YtdodajpiidkglaaKParserI
namespace Go.Proofs.Ytdodajpiidkglaa.K
open Go.RowKit Go.Proofs.YtdodajpiidkglaaW.PrintWords Go.Proofs.YtdodajpiidkglaaW.PrintLast Go.Proofs.YtdodajpiidkglaaW.PrintMore Go.Proofs.Ytdodajpiidkglaa.PAll
set_option linter.unusedVariables false

/-- The lists that a parser has gathered (q: their slices; own: whose each block is). -/
structure Rows6 (w0 W : World) (g : Nat) (L : Value) (S : Nat → Prop) (wS : World) (own : Nat → Nat) (v0 v1 v2 v3 v4 v5 : Value) (A : List S86) (B : List S88) (C : List S29) (D E F : List Int) : Prop where
  g0 : own g = 0
  l0 : ∀ k, L.ownBlock = some k → own k = 0
  s0 : ∀ k, S k → own k = 0 ∧ k ≠ g ∧ k < W.heap.size ∧ W.heap[k]? = wS.heap[k]?
  r0 : Kd.R k86 86 W w0.heap.size (fun k => own k = 1) v0 A
  r1 : Kd.R k88 88 W w0.heap.size (fun k => own k = 2) v1 B
  r2 : Kd.R k29 29 W w0.heap.size (fun k => own k = 3) v2 C
  r3 : Kd.R (Kd.int .i64) 3 W w0.heap.size (fun k => own k = 4) v3 D
  r4 : Kd.R (Kd.int .i64) 3 W w0.heap.size (fun k => own k = 5) v4 E
  r5 : Kd.R (Kd.int .i64) 3 W w0.heap.size (fun k => own k = 6) v5 F

section
variable {w0 W W1 : World} {g : Nat} {s : ByteArray} {L : Value} {c : Src} {i : Nat} {q : List Value} {S : Nat → Prop} {wS : World} {own : Nat → Nat} {v0 v1 v2 v3 v4 v5 : Value} {A : List S86} {B : List S88} {C : List S29} {D E F : List Int}
theorem Rows6.step (h : Rows6 w0 W g L S wS own v0 v1 v2 v3 v4 v5 A B C D E F) (hs : W.heap.size ≤ W1.heap.size) (hm : ∀ k, (own k ≠ 0 ∨ S k) → k < W.heap.size → W1.heap[k]? = W.heap[k]?) : Rows6 w0 W1 g L S wS own v0 v1 v2 v3 v4 v5 A B C D E F :=
  ⟨h.g0, h.l0, fun k hk => ⟨(h.s0 k hk).1, (h.s0 k hk).2.1, Nat.lt_of_lt_of_le (h.s0 k hk).2.2.1 hs, (hm k (.inr hk) (h.s0 k hk).2.2.1).trans (h.s0 k hk).2.2.2⟩, Kd.R_step h.r0 (fun k hk hl => hm k (.inl (by omega)) hl), Kd.R_step h.r1 (fun k hk hl => hm k (.inl (by omega)) hl), Kd.R_step h.r2 (fun k hk hl => hm k (.inl (by omega)) hl), Kd.R_step h.r3 (fun k hk hl => hm k (.inl (by omega)) hl), Kd.R_step h.r4 (fun k hk hl => hm k (.inl (by omega)) hl), Kd.R_step h.r5 (fun k hk hl => hm k (.inl (by omega)) hl)⟩
theorem Rows6.below (h : Rows6 w0 W g L S wS own v0 v1 v2 v3 v4 v5 A B C D E F) (hb : Below W.heap.size W W1) : Rows6 w0 W1 g L S wS own v0 v1 v2 v3 v4 v5 A B C D E F := h.step hb.size (fun k _ hl => hb.block k hl)
theorem Rows6.alloc (h : Rows6 w0 W g L S wS own v0 v1 v2 v3 v4 v5 A B C D E F) (o : Obj) : Rows6 w0 (W.alloc o) g L S wS own v0 v1 v2 v3 v4 v5 A B C D E F := h.below (below_alloc (Below.refl _ _) o)
theorem Rows6.drewN (h : Rows6 w0 W g L S wS own v0 v1 v2 v3 v4 v5 A B C D E F) (m : Nat) : Rows6 w0 (W.drewN m) g L S wS own v0 v1 v2 v3 v4 v5 A B C D E F := h.below (pw_below_drewN (Below.refl _ _) m)
theorem Rows6.drew (h : Rows6 w0 W g L S wS own v0 v1 v2 v3 v4 v5 A B C D E F) : Rows6 w0 W.drew g L S wS own v0 v1 v2 v3 v4 v5 A B C D E F := h.below (below_drew1 (Below.refl _ _))
theorem Rows6.keep (h : Rows6 w0 W g L S wS own v0 v1 v2 v3 v4 v5 A B C D E F) (hk : KeepBut W W1 g none) : Rows6 w0 W1 g L S wS own v0 v1 v2 v3 v4 v5 A B C D E F :=
  h.step hk.1 (fun k ho hl => hk.2 k hl (fun e => ho.elim (fun ho => ho (e ▸ h.g0)) (fun hs => (h.s0 k hs).2.1 e)) (by simp))
theorem Rows6.setg (h : Rows6 w0 W g L S wS own v0 v1 v2 v3 v4 v5 A B C D E F) (n : Nat) (u : Value) : Rows6 w0 (W.setCell ⟨g, n, none⟩ u) g L S wS own v0 v1 v2 v3 v4 v5 A B C D E F :=
  h.step (by simp [World.setCell]) (fun k ho hl => Below.heap_setCell W ⟨g, n, none⟩ u k (fun e => ho.elim (fun ho => ho ((show k = g from e) ▸ h.g0)) (fun hs => (h.s0 k hs).2.1 e)))
/-- Blocks that are new from here on are told as list j's. -/
theorem Rows6.renew (h : Rows6 w0 W g L S wS own v0 v1 v2 v3 v4 v5 A B C D E F) (hg : g < W.heap.size) (hl : ∀ k, L.ownBlock = some k → k < W.heap.size) (j : Nat) :
    ∃ own', Rows6 w0 W g L S wS own' v0 v1 v2 v3 v4 v5 A B C D E F ∧ (∀ k, W.heap.size ≤ k → own' k = j) ∧ ∀ k, k < W.heap.size → own' k = own k := by
  refine ⟨fun k => if W.heap.size ≤ k then j else own k, ⟨?_, ?_, fun k hk => ⟨(if_neg (by have := (h.s0 k hk).2.2.1; omega)).trans (h.s0 k hk).1, (h.s0 k hk).2⟩, ?_, ?_, ?_, ?_, ?_, ?_⟩, fun k hk => if_pos hk, fun k hk => if_neg (by omega)⟩
  · rw [if_neg (by omega)]; exact h.g0
  · intro k hk
    rw [if_neg (by have := hl k hk; omega)]; exact h.l0 k hk
  · exact Kd.R_mono (Kd.R_bound h.r0) (fun k hk => (if_neg (by have := hk.2.2.1; omega)).trans hk.1)
  · exact Kd.R_mono (Kd.R_bound h.r1) (fun k hk => (if_neg (by have := hk.2.2.1; omega)).trans hk.1)
  · exact Kd.R_mono (Kd.R_bound h.r2) (fun k hk => (if_neg (by have := hk.2.2.1; omega)).trans hk.1)
  · exact Kd.R_mono (Kd.R_bound h.r3) (fun k hk => (if_neg (by have := hk.2.2.1; omega)).trans hk.1)
  · exact Kd.R_mono (Kd.R_bound h.r4) (fun k hk => (if_neg (by have := hk.2.2.1; omega)).trans hk.1)
  · exact Kd.R_mono (Kd.R_bound h.r5) (fun k hk => (if_neg (by have := hk.2.2.1; omega)).trans hk.1)
theorem Rows6.app0 (h : Rows6 w0 W g L S wS own v0 v1 v2 v3 v4 v5 A B C D E F) {u : Value} {x : S86} (ho : Kd.R k86 86 W1 w0.heap.size (fun k => own k = 1) u (A ++ [x])) (hg : W.grownBy W1 v0.ownBlock) :
    Rows6 w0 W1 g L S wS own u v1 v2 v3 v4 v5 (A ++ [x]) B C D E F :=
  ⟨h.g0, h.l0, fun k hk => ⟨(h.s0 k hk).1, (h.s0 k hk).2.1, Nat.lt_of_lt_of_le (h.s0 k hk).2.2.1 hg.size, (hg.block k (h.s0 k hk).2.2.1 (fun e => by have h1 := h.r0.1 k e.symm; have h2 := (h.s0 k hk).1; omega)).trans (h.s0 k hk).2.2.2⟩, ho, Kd.R_grown h.r1 hg (fun k hk e => by have := h.r0.1 k e.symm; omega), Kd.R_grown h.r2 hg (fun k hk e => by have := h.r0.1 k e.symm; omega), Kd.R_grown h.r3 hg (fun k hk e => by have := h.r0.1 k e.symm; omega), Kd.R_grown h.r4 hg (fun k hk e => by have := h.r0.1 k e.symm; omega), Kd.R_grown h.r5 hg (fun k hk e => by have := h.r0.1 k e.symm; omega)⟩
theorem IsP.app0 (hp : IsP w0 W g s L c i q) (h : Rows6 w0 W g L S wS own v0 v1 v2 v3 v4 v5 A B C D E F) (hg : W.grownBy W1 v0.ownBlock) : IsP w0 W1 g s L c i q :=
  ⟨blk_grown hp.1 hg (fun e => by have := h.r0.1 g e.symm; have := h.g0; omega), hp.2.1, by
    obtain ⟨h0, inner, ho, hh⟩ := hp.2.2.1
    refine ⟨h0, inner, own_move ho (fun k hk => hg.block k (Go.Proofs.YtdodajpiidkglaaW.PrintWords.own_lt ho k hk) (fun e => ?_)), hh⟩
    have h1 := h.r0.1 k e.symm
    have h2 := h.l0 k hk
    omega, hp.2.2.2⟩
theorem IsP.put0 (h : IsP w0 W g s L c i [v0, v1, v2, v3, v4, v5]) (u : Value) : IsP w0 (W.setCell ⟨g, 8, none⟩ u) g s L c i [u, v1, v2, v3, v4, v5] :=
  ⟨blk_put h.1 8 u rfl, h.2.1, Kd.R_far (p := ⟨g, 8, none⟩) h.2.2.1 (fun _ hk => hk) _, h.2.2.2⟩
theorem Rows6.app1 (h : Rows6 w0 W g L S wS own v0 v1 v2 v3 v4 v5 A B C D E F) {u : Value} {x : S88} (ho : Kd.R k88 88 W1 w0.heap.size (fun k => own k = 2) u (B ++ [x])) (hg : W.grownBy W1 v1.ownBlock) :
    Rows6 w0 W1 g L S wS own v0 u v2 v3 v4 v5 A (B ++ [x]) C D E F :=
  ⟨h.g0, h.l0, fun k hk => ⟨(h.s0 k hk).1, (h.s0 k hk).2.1, Nat.lt_of_lt_of_le (h.s0 k hk).2.2.1 hg.size, (hg.block k (h.s0 k hk).2.2.1 (fun e => by have h1 := h.r1.1 k e.symm; have h2 := (h.s0 k hk).1; omega)).trans (h.s0 k hk).2.2.2⟩, Kd.R_grown h.r0 hg (fun k hk e => by have := h.r1.1 k e.symm; omega), ho, Kd.R_grown h.r2 hg (fun k hk e => by have := h.r1.1 k e.symm; omega), Kd.R_grown h.r3 hg (fun k hk e => by have := h.r1.1 k e.symm; omega), Kd.R_grown h.r4 hg (fun k hk e => by have := h.r1.1 k e.symm; omega), Kd.R_grown h.r5 hg (fun k hk e => by have := h.r1.1 k e.symm; omega)⟩
theorem IsP.app1 (hp : IsP w0 W g s L c i q) (h : Rows6 w0 W g L S wS own v0 v1 v2 v3 v4 v5 A B C D E F) (hg : W.grownBy W1 v1.ownBlock) : IsP w0 W1 g s L c i q :=
  ⟨blk_grown hp.1 hg (fun e => by have := h.r1.1 g e.symm; have := h.g0; omega), hp.2.1, by
    obtain ⟨h0, inner, ho, hh⟩ := hp.2.2.1
    refine ⟨h0, inner, own_move ho (fun k hk => hg.block k (Go.Proofs.YtdodajpiidkglaaW.PrintWords.own_lt ho k hk) (fun e => ?_)), hh⟩
    have h1 := h.r1.1 k e.symm
    have h2 := h.l0 k hk
    omega, hp.2.2.2⟩
theorem IsP.put1 (h : IsP w0 W g s L c i [v0, v1, v2, v3, v4, v5]) (u : Value) : IsP w0 (W.setCell ⟨g, 9, none⟩ u) g s L c i [v0, u, v2, v3, v4, v5] :=
  ⟨blk_put h.1 9 u rfl, h.2.1, Kd.R_far (p := ⟨g, 9, none⟩) h.2.2.1 (fun _ hk => hk) _, h.2.2.2⟩
theorem Rows6.app2 (h : Rows6 w0 W g L S wS own v0 v1 v2 v3 v4 v5 A B C D E F) {u : Value} {x : S29} (ho : Kd.R k29 29 W1 w0.heap.size (fun k => own k = 3) u (C ++ [x])) (hg : W.grownBy W1 v2.ownBlock) :
    Rows6 w0 W1 g L S wS own v0 v1 u v3 v4 v5 A B (C ++ [x]) D E F :=
  ⟨h.g0, h.l0, fun k hk => ⟨(h.s0 k hk).1, (h.s0 k hk).2.1, Nat.lt_of_lt_of_le (h.s0 k hk).2.2.1 hg.size, (hg.block k (h.s0 k hk).2.2.1 (fun e => by have h1 := h.r2.1 k e.symm; have h2 := (h.s0 k hk).1; omega)).trans (h.s0 k hk).2.2.2⟩, Kd.R_grown h.r0 hg (fun k hk e => by have := h.r2.1 k e.symm; omega), Kd.R_grown h.r1 hg (fun k hk e => by have := h.r2.1 k e.symm; omega), ho, Kd.R_grown h.r3 hg (fun k hk e => by have := h.r2.1 k e.symm; omega), Kd.R_grown h.r4 hg (fun k hk e => by have := h.r2.1 k e.symm; omega), Kd.R_grown h.r5 hg (fun k hk e => by have := h.r2.1 k e.symm; omega)⟩
theorem IsP.app2 (hp : IsP w0 W g s L c i q) (h : Rows6 w0 W g L S wS own v0 v1 v2 v3 v4 v5 A B C D E F) (hg : W.grownBy W1 v2.ownBlock) : IsP w0 W1 g s L c i q :=
  ⟨blk_grown hp.1 hg (fun e => by have := h.r2.1 g e.symm; have := h.g0; omega), hp.2.1, by
    obtain ⟨h0, inner, ho, hh⟩ := hp.2.2.1
    refine ⟨h0, inner, own_move ho (fun k hk => hg.block k (Go.Proofs.YtdodajpiidkglaaW.PrintWords.own_lt ho k hk) (fun e => ?_)), hh⟩
    have h1 := h.r2.1 k e.symm
    have h2 := h.l0 k hk
    omega, hp.2.2.2⟩
theorem IsP.put2 (h : IsP w0 W g s L c i [v0, v1, v2, v3, v4, v5]) (u : Value) : IsP w0 (W.setCell ⟨g, 10, none⟩ u) g s L c i [v0, v1, u, v3, v4, v5] :=
  ⟨blk_put h.1 10 u rfl, h.2.1, Kd.R_far (p := ⟨g, 10, none⟩) h.2.2.1 (fun _ hk => hk) _, h.2.2.2⟩
theorem Rows6.app3 (h : Rows6 w0 W g L S wS own v0 v1 v2 v3 v4 v5 A B C D E F) {u : Value} {x : Int} (ho : Kd.R (Kd.int .i64) 3 W1 w0.heap.size (fun k => own k = 4) u (D ++ [x])) (hg : W.grownBy W1 v3.ownBlock) :
    Rows6 w0 W1 g L S wS own v0 v1 v2 u v4 v5 A B C (D ++ [x]) E F :=
  ⟨h.g0, h.l0, fun k hk => ⟨(h.s0 k hk).1, (h.s0 k hk).2.1, Nat.lt_of_lt_of_le (h.s0 k hk).2.2.1 hg.size, (hg.block k (h.s0 k hk).2.2.1 (fun e => by have h1 := h.r3.1 k e.symm; have h2 := (h.s0 k hk).1; omega)).trans (h.s0 k hk).2.2.2⟩, Kd.R_grown h.r0 hg (fun k hk e => by have := h.r3.1 k e.symm; omega), Kd.R_grown h.r1 hg (fun k hk e => by have := h.r3.1 k e.symm; omega), Kd.R_grown h.r2 hg (fun k hk e => by have := h.r3.1 k e.symm; omega), ho, Kd.R_grown h.r4 hg (fun k hk e => by have := h.r3.1 k e.symm; omega), Kd.R_grown h.r5 hg (fun k hk e => by have := h.r3.1 k e.symm; omega)⟩
theorem IsP.app3 (hp : IsP w0 W g s L c i q) (h : Rows6 w0 W g L S wS own v0 v1 v2 v3 v4 v5 A B C D E F) (hg : W.grownBy W1 v3.ownBlock) : IsP w0 W1 g s L c i q :=
  ⟨blk_grown hp.1 hg (fun e => by have := h.r3.1 g e.symm; have := h.g0; omega), hp.2.1, by
    obtain ⟨h0, inner, ho, hh⟩ := hp.2.2.1
    refine ⟨h0, inner, own_move ho (fun k hk => hg.block k (Go.Proofs.YtdodajpiidkglaaW.PrintWords.own_lt ho k hk) (fun e => ?_)), hh⟩
    have h1 := h.r3.1 k e.symm
    have h2 := h.l0 k hk
    omega, hp.2.2.2⟩
theorem IsP.put3 (h : IsP w0 W g s L c i [v0, v1, v2, v3, v4, v5]) (u : Value) : IsP w0 (W.setCell ⟨g, 11, none⟩ u) g s L c i [v0, v1, v2, u, v4, v5] :=
  ⟨blk_put h.1 11 u rfl, h.2.1, Kd.R_far (p := ⟨g, 11, none⟩) h.2.2.1 (fun _ hk => hk) _, h.2.2.2⟩
theorem Rows6.app4 (h : Rows6 w0 W g L S wS own v0 v1 v2 v3 v4 v5 A B C D E F) {u : Value} {x : Int} (ho : Kd.R (Kd.int .i64) 3 W1 w0.heap.size (fun k => own k = 5) u (E ++ [x])) (hg : W.grownBy W1 v4.ownBlock) :
    Rows6 w0 W1 g L S wS own v0 v1 v2 v3 u v5 A B C D (E ++ [x]) F :=
  ⟨h.g0, h.l0, fun k hk => ⟨(h.s0 k hk).1, (h.s0 k hk).2.1, Nat.lt_of_lt_of_le (h.s0 k hk).2.2.1 hg.size, (hg.block k (h.s0 k hk).2.2.1 (fun e => by have h1 := h.r4.1 k e.symm; have h2 := (h.s0 k hk).1; omega)).trans (h.s0 k hk).2.2.2⟩, Kd.R_grown h.r0 hg (fun k hk e => by have := h.r4.1 k e.symm; omega), Kd.R_grown h.r1 hg (fun k hk e => by have := h.r4.1 k e.symm; omega), Kd.R_grown h.r2 hg (fun k hk e => by have := h.r4.1 k e.symm; omega), Kd.R_grown h.r3 hg (fun k hk e => by have := h.r4.1 k e.symm; omega), ho, Kd.R_grown h.r5 hg (fun k hk e => by have := h.r4.1 k e.symm; omega)⟩
theorem IsP.app4 (hp : IsP w0 W g s L c i q) (h : Rows6 w0 W g L S wS own v0 v1 v2 v3 v4 v5 A B C D E F) (hg : W.grownBy W1 v4.ownBlock) : IsP w0 W1 g s L c i q :=
  ⟨blk_grown hp.1 hg (fun e => by have := h.r4.1 g e.symm; have := h.g0; omega), hp.2.1, by
    obtain ⟨h0, inner, ho, hh⟩ := hp.2.2.1
    refine ⟨h0, inner, own_move ho (fun k hk => hg.block k (Go.Proofs.YtdodajpiidkglaaW.PrintWords.own_lt ho k hk) (fun e => ?_)), hh⟩
    have h1 := h.r4.1 k e.symm
    have h2 := h.l0 k hk
    omega, hp.2.2.2⟩
theorem IsP.put4 (h : IsP w0 W g s L c i [v0, v1, v2, v3, v4, v5]) (u : Value) : IsP w0 (W.setCell ⟨g, 12, none⟩ u) g s L c i [v0, v1, v2, v3, u, v5] :=
  ⟨blk_put h.1 12 u rfl, h.2.1, Kd.R_far (p := ⟨g, 12, none⟩) h.2.2.1 (fun _ hk => hk) _, h.2.2.2⟩
theorem Rows6.app5 (h : Rows6 w0 W g L S wS own v0 v1 v2 v3 v4 v5 A B C D E F) {u : Value} {x : Int} (ho : Kd.R (Kd.int .i64) 3 W1 w0.heap.size (fun k => own k = 6) u (F ++ [x])) (hg : W.grownBy W1 v5.ownBlock) :
    Rows6 w0 W1 g L S wS own v0 v1 v2 v3 v4 u A B C D E (F ++ [x]) :=
  ⟨h.g0, h.l0, fun k hk => ⟨(h.s0 k hk).1, (h.s0 k hk).2.1, Nat.lt_of_lt_of_le (h.s0 k hk).2.2.1 hg.size, (hg.block k (h.s0 k hk).2.2.1 (fun e => by have h1 := h.r5.1 k e.symm; have h2 := (h.s0 k hk).1; omega)).trans (h.s0 k hk).2.2.2⟩, Kd.R_grown h.r0 hg (fun k hk e => by have := h.r5.1 k e.symm; omega), Kd.R_grown h.r1 hg (fun k hk e => by have := h.r5.1 k e.symm; omega), Kd.R_grown h.r2 hg (fun k hk e => by have := h.r5.1 k e.symm; omega), Kd.R_grown h.r3 hg (fun k hk e => by have := h.r5.1 k e.symm; omega), Kd.R_grown h.r4 hg (fun k hk e => by have := h.r5.1 k e.symm; omega), ho⟩
theorem IsP.app5 (hp : IsP w0 W g s L c i q) (h : Rows6 w0 W g L S wS own v0 v1 v2 v3 v4 v5 A B C D E F) (hg : W.grownBy W1 v5.ownBlock) : IsP w0 W1 g s L c i q :=
  ⟨blk_grown hp.1 hg (fun e => by have := h.r5.1 g e.symm; have := h.g0; omega), hp.2.1, by
    obtain ⟨h0, inner, ho, hh⟩ := hp.2.2.1
    refine ⟨h0, inner, own_move ho (fun k hk => hg.block k (Go.Proofs.YtdodajpiidkglaaW.PrintWords.own_lt ho k hk) (fun e => ?_)), hh⟩
    have h1 := h.r5.1 k e.symm
    have h2 := h.l0 k hk
    omega, hp.2.2.2⟩
theorem IsP.put5 (h : IsP w0 W g s L c i [v0, v1, v2, v3, v4, v5]) (u : Value) : IsP w0 (W.setCell ⟨g, 13, none⟩ u) g s L c i [v0, v1, v2, v3, v4, u] :=
  ⟨blk_put h.1 13 u rfl, h.2.1, Kd.R_far (p := ⟨g, 13, none⟩) h.2.2.1 (fun _ hk => hk) _, h.2.2.2⟩
theorem pcq (h : PBlk W g s L c i [v0, v1, v2, v3, v4, v5]) : W.cell? ⟨g, 8, none⟩ = some v0 ∧ W.cell? ⟨g, 9, none⟩ = some v1 ∧ W.cell? ⟨g, 10, none⟩ = some v2 ∧ W.cell? ⟨g, 11, none⟩ = some v3 ∧ W.cell? ⟨g, 12, none⟩ = some v4 ∧ W.cell? ⟨g, 13, none⟩ = some v5 ∧ W.frozen? ⟨g, 8, none⟩ = false ∧ W.frozen? ⟨g, 9, none⟩ = false ∧ W.frozen? ⟨g, 10, none⟩ = false ∧ W.frozen? ⟨g, 11, none⟩ = false ∧ W.frozen? ⟨g, 12, none⟩ = false ∧ W.frozen? ⟨g, 13, none⟩ = false :=
  ⟨(blk_cell h 8).trans rfl, (blk_cell h 9).trans rfl, (blk_cell h 10).trans rfl, (blk_cell h 11).trans rfl, (blk_cell h 12).trans rfl, (blk_cell h 13).trans rfl, blk_frozen h 8, blk_frozen h 9, blk_frozen h 10, blk_frozen h 11, blk_frozen h 12, blk_frozen h 13⟩
end
theorem info86 : (Try.prog.info? 86).map (fun i => (i.zero, i.size, i.bytes)) = some (some (.agg #[.string ⟨#[]⟩, .int .i64 0, .string ⟨#[]⟩]), 3, 40) := by kernel_rfl
theorem info88 : (Try.prog.info? 88).map (fun i => (i.zero, i.size, i.bytes)) = some (some (.agg #[.string ⟨#[]⟩, .int .i64 0]), 2, 24) := by kernel_rfl
theorem info29 : (Try.prog.info? 29).map (fun i => (i.zero, i.size, i.bytes)) = some (some (.agg #[.string ⟨#[]⟩, .slice none 0 0, .slice none 0 0]), 3, 64) := by kernel_rfl
theorem infoI : (Try.prog.info? 3).map (fun i => (i.zero, i.size, i.bytes)) = some (some (.int .i64 0), 1, 8) := by kernel_rfl

theorem rule_ok {w0 w : World} {g : Nat} {s : ByteArray} {L : Value} {c : Src} {i : Nat} {q : List Value} {pred : ByteArray} {x : S29} {j : Nat} (h : ruleP c i pred = .ok (x, j)) (hp : IsP w0 w g s L c i q) (hi : i ≤ c.T.length) (hB : Below w0.heap.size w0 w) :
    Calls Try.prog 29 #[.pointer (some ⟨g, 0, none⟩), .string pred] w fun e w' => ∃ A1 c1 A2 c2, e = .returned (.agg #[.string x.f0.f0, .slice A1 x.f0.f1.length c1, .slice A2 x.f1.length c2]) ∧ Kd.R k61 61 w' w.heap.size (fun _ => True) (.slice A1 x.f0.f1.length c1) x.f0.f1 ∧ Kd.R k63 63 w' w.heap.size (fun _ => True) (.slice A2 x.f1.length c2) x.f1 ∧ IsP w0 w' g s L c j q ∧ KeepBut w w' g none ∧ Below w0.heap.size w0 w' :=
  (rule_calls hp hi hB).mono fun e w' hpost => by
    obtain ⟨v, h1, ⟨u1, u2, rfl, h2, h3⟩, h4, h5, h6⟩ := PEnd.ok hpost h
    obtain ⟨A1, c1, rfl⟩ := Kd.R_slice h2
    obtain ⟨A2, c2, rfl⟩ := Kd.R_slice h3
    exact ⟨A1, c1, A2, c2, h1, h2, h3, h4, h5, h6⟩
theorem rule_err {w0 w : World} {g : Nat} {s : ByteArray} {L : Value} {c : Src} {i : Nat} {q : List Value} {pred : ByteArray} {a : Nat} (h : ruleP c i pred = .error a) (hp : IsP w0 w g s L c i q) (hi : i ≤ c.T.length) (hB : Below w0.heap.size w0 w) :
    Calls Try.prog 29 #[.pointer (some ⟨g, 0, none⟩), .string pred] w (ErrEnd w0 w g a) :=
  (rule_calls hp hi hB).mono fun e w' hpost => PEnd.err hpost h
theorem arity_ok {w0 w : World} {g : Nat} {s : ByteArray} {L : Value} {c : Src} {i : Nat} {q : List Value} {x : ByteArray × Nat} {j : Nat} (h : arityQ c i = .ok (x, j)) (hp : IsP w0 w g s L c i q) (hi : i ≤ c.T.length) (hB : Below w0.heap.size w0 w) (hT : ∀ k, (c.at_ k).a ≤ 2147483647 ∧ (c.at_ k).t.size ≤ 2147483647) :
    Calls Try.prog 63 #[.pointer (some ⟨g, 0, none⟩)] w fun e w' => e = .returned (.tuple #[.string x.1, .int .i64 (x.2 : Int)]) ∧ IsP w0 w' g s L c j q ∧ KeepBut w w' g none ∧ Below w0.heap.size w0 w' :=
  (arity_calls hp hi hB hT).mono fun e w' hpost => by
    obtain ⟨v, h1, h2, h4, h5, h6⟩ := PEnd.ok hpost h
    exact ⟨by rw [h1, h2], h4, h5, h6⟩
theorem arity_err {w0 w : World} {g : Nat} {s : ByteArray} {L : Value} {c : Src} {i : Nat} {q : List Value} {a : Nat} (h : arityQ c i = .error a) (hp : IsP w0 w g s L c i q) (hi : i ≤ c.T.length) (hB : Below w0.heap.size w0 w) (hT : ∀ k, (c.at_ k).a ≤ 2147483647 ∧ (c.at_ k).t.size ≤ 2147483647) :
    Calls Try.prog 63 #[.pointer (some ⟨g, 0, none⟩)] w (ErrEnd w0 w g a) :=
  (arity_calls hp hi hB hT).mono fun e w' hpost => PEnd.err hpost h
end Go.Proofs.Ytdodajpiidkglaa.K
