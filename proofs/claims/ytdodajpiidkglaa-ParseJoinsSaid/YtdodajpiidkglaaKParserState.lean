/- The parser in memory, and how it lives on. No conditions beyond those of each lemma. -/
import Derived.Test.YtdodajpiidkglaaKParsePure
namespace Go.Proofs.Ytdodajpiidkglaa.K
open Go.RowKit Go.Proofs.YtdodajpiidkglaaW.PrintWords Go.Proofs.YtdodajpiidkglaaW.PrintLast Go.Proofs.YtdodajpiidkglaaW.PrintMore Go.Proofs.Ytdodajpiidkglaa.PAll
set_option linter.unusedVariables false

/-- The cells of a parser: its text, its tokens' list, what is open, how far, the next token's number, and what it has gathered (six lists). -/
def pcells (s : ByteArray) (L : Value) (c : Src) (i : Nat) (q : List Value) : Array Value :=
  #[.string s, L, .int .i64 (c.o.k : Int), .string c.o.t, .int .i64 (c.o.a : Int), .int .i64 (c.o.e : Int), .int .i64 (c.far : Int), .int .i64 (i : Int), q.getD 0 undef, q.getD 1 undef, q.getD 2 undef, q.getD 3 undef, q.getD 4 undef, q.getD 5 undef]

/-- The parser's block. -/
def PBlk (W : World) (g : Nat) (s : ByteArray) (L : Value) (c : Src) (i : Nat) (q : List Value) : Prop := W.heap[g]? = some (.cells (pcells s L c i q) 75 (0, 0))

/-- A parser at block g whose tokens' list is L. -/
def IsP (w0 W : World) (g : Nat) (s : ByteArray) (L : Value) (c : Src) (i : Nat) (q : List Value) : Prop :=
  PBlk W g s L c i q ∧ w0.heap.size ≤ g ∧ Kd.R k71 71 W w0.heap.size (fun k => k ≠ g) L c.T ∧ c.T.length ≤ 2147483647

theorem k71_E : k71.E = [] := rfl

section
variable {w0 W W1 : World} {g : Nat} {s : ByteArray} {L : Value} {c : Src} {i i' : Nat} {q q' : List Value}

theorem PBlk.kept (h : PBlk W g s L c i q) (hb : Below W.heap.size W W1) : PBlk W1 g s L c i q := blk_below h hb

theorem IsP.moved (h : IsP w0 W g s L c i q) (hk : KeepBut W W1 g none) (hb : PBlk W1 g s L c i' q') : IsP w0 W1 g s L c i' q' :=
  ⟨hb, h.2.1, Kd.R_keep h.2.2.1 hk (fun _ hk => hk), h.2.2.2⟩
theorem IsP.below (h : IsP w0 W g s L c i q) (hb : Below W.heap.size W W1) : IsP w0 W1 g s L c i q := ⟨blk_below h.1 hb, h.2.1, Kd.R_below h.2.2.1 hb, h.2.2.2⟩
theorem IsP.alloc (h : IsP w0 W g s L c i q) (o : Obj) : IsP w0 (W.alloc o) g s L c i q := h.below (below_alloc (Below.refl _ _) o)
theorem IsP.drewN (h : IsP w0 W g s L c i q) (m : Nat) : IsP w0 (W.drewN m) g s L c i q := h.below (pw_below_drewN (Below.refl _ _) m)
theorem IsP.drew (h : IsP w0 W g s L c i q) : IsP w0 W.drew g s L c i q := h.below (below_drew1 (Below.refl _ _))
theorem IsP.lt (h : IsP w0 W g s L c i q) : g < W.heap.size := blk_lt h.1
theorem IsP.ge (h : IsP w0 W g s L c i q) : w0.heap.size ≤ g := h.2.1
/-- The next token's number turns. -/
theorem IsP.step (h : IsP w0 W g s L c i q) (j : Nat) (x : Int) (hx : x = (j : Int)) : IsP w0 (W.setCell ⟨g, 7, none⟩ (.int .i64 x)) g s L c j q := by
  subst hx
  exact ⟨blk_put h.1 7 _ rfl, h.2.1, Kd.R_far (p := ⟨g, 7, none⟩) h.2.2.1 (fun _ hk => hk) _, h.2.2.2⟩
theorem IsP.far_ (h : IsP w0 W g s L c i q) {p : Addr} (hp : p.block ≠ g) (hl : ∀ k, L.ownBlock = some k → k ≠ p.block) (u : Value) : IsP w0 (W.setCell p u) g s L c i q :=
  ⟨blk_far h.1 (Ne.symm hp) u, h.2.1, by
    obtain ⟨h0, inner, ho, hr⟩ := h.2.2.1
    exact ⟨h0, inner, own_move ho (fun k hk => Below.heap_setCell W p u k (hl k hk)), hr⟩, h.2.2.2⟩
/-- A block that was laid since w0 .. is none of the list's if it was laid behind it. -/
theorem IsP.own_lt (h : IsP w0 W g s L c i q) : ∀ k, L.ownBlock = some k → k < W.heap.size := by
  obtain ⟨h0, inner, ho, hr⟩ := h.2.2.1
  exact fun k hk => Go.Proofs.YtdodajpiidkglaaW.PrintWords.own_lt ho k hk
/-- What was grown since W (a row of W1's own) leaves it. -/
theorem IsP.tokens (h : IsP w0 W g s L c i q) : ∃ A cc, L = .slice A c.T.length cc ∧ Kd.C k71 W A c.T.length c.T := by
  obtain ⟨A, cc, h1, _, h2⟩ := Kd.R_reads h.2.2.1
  exact ⟨A, cc, h1, h2⟩

theorem pc (h : PBlk W g s L c i q) : W.cell? ⟨g, 0, none⟩ = some (.string s) ∧ W.cell? ⟨g, 1, none⟩ = some L ∧ W.cell? ⟨g, 2, none⟩ = some (.int .i64 (c.o.k : Int)) ∧ W.cell? ⟨g, 3, none⟩ = some (.string c.o.t) ∧
    W.cell? ⟨g, 4, none⟩ = some (.int .i64 (c.o.a : Int)) ∧ W.cell? ⟨g, 5, none⟩ = some (.int .i64 (c.o.e : Int)) ∧ W.cell? ⟨g, 6, none⟩ = some (.int .i64 (c.far : Int)) ∧ W.cell? ⟨g, 7, none⟩ = some (.int .i64 (i : Int)) ∧ W.frozen? ⟨g, 7, none⟩ = false :=
  ⟨(blk_cell h 0).trans rfl, (blk_cell h 1).trans rfl, (blk_cell h 2).trans rfl, (blk_cell h 3).trans rfl, (blk_cell h 4).trans rfl, (blk_cell h 5).trans rfl, (blk_cell h 6).trans rfl, (blk_cell h 7).trans rfl, blk_frozen h 7⟩
end

/-- Kinds that are wanted, as a list in memory. -/
def Wants (W : World) (v : Value) (wl : List Nat) : Prop := ∃ A cc, v = .slice A wl.length cc ∧ ∀ j : Nat, j < wl.length → ∃ ad, A = some ad ∧ W.cell? (ad.add j) = some (.int .i64 ((wl.getD j 0 : Nat) : Int))
theorem Wants.nil (W : World) : Wants W (.slice none 0 0) [] := ⟨none, 0, rfl, fun j hj => absurd hj (by simp)⟩
theorem Wants.of_block {W : World} {b t : Nat} {wl : List Nat} {cells : Array Value} {cc : Nat} (h : W.heap[b]? = some (.cells cells t (0, 0))) (hc : ∀ j : Nat, j < wl.length → cells[j]? = some (.int .i64 ((wl.getD j 0 : Nat) : Int))) :
    Wants W (.slice (some ⟨b, 0, none⟩) wl.length cc) wl :=
  ⟨_, cc, rfl, fun j hj => ⟨_, rfl, by
    have := blk_cell h j
    rw [hc j hj] at this
    rw [show (Addr.add ⟨b, 0, none⟩ j) = (⟨b, j, none⟩ : Addr) from by simp only [Addr.add]; split <;> simp_all]
    exact this⟩⟩
theorem Wants.below {W W1 : World} {v : Value} {wl : List Nat} (h : Wants W v wl) (hb : ∀ ad j u, W.cell? (Addr.add ad j) = some u → W1.cell? (Addr.add ad j) = some u) : Wants W1 v wl := by
  obtain ⟨A, cc, hv, hc⟩ := h
  exact ⟨A, cc, hv, fun j hj => by
    obtain ⟨ad, e, hu⟩ := hc j hj
    exact ⟨ad, e, hb ad j _ hu⟩⟩
theorem cell_keep {W W1 : World} (hb : Below W.heap.size W W1) (a : Addr) (u : Value) (h : W.cell? a = some u) : W1.cell? a = some u := by
  have hl : a.block < W.heap.size := by
    rcases Nat.lt_or_ge a.block W.heap.size with h1 | h1
    · exact h1
    · exfalso
      have : W.heap[a.block]? = none := Array.getElem?_eq_none h1
      simp [World.cell?, this] at h
  exact (hb.cell hl).trans h

/-- What is thrown. -/
def faultV (n : Nat) : Value := .iface 102 (.agg #[.int .i64 (n : Int)])
def faultE (n : Nat) : Ending := .panicked [{ v := faultV n, recovered := false }]
end Go.Proofs.Ytdodajpiidkglaa.K
