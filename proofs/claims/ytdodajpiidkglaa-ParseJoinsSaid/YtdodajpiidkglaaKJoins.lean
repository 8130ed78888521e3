/- What ParseJoins compares, in plain Lean. No conditions beyond those of each lemma. -/
import Derived.Test.YtdodajpiidkglaaKWorks
import Derived.Test.YtdodajpiidkglaaKSim
import Derived.Test.YtdodajpiidkglaaKSizePure
import Derived.Test.YtdodajpiidkglaaGMoved
import Derived.Test.YtdodajpiidkglaaGPlaces
namespace Go.Proofs.Ytdodajpiidkglaa.K
open Go.RowKit Go.Proofs.YtdodajpiidkglaaW.PrintWords Go.Proofs.YtdodajpiidkglaaW.PrintLast Go.Proofs.YtdodajpiidkglaaW.PrintMore Go.Proofs.Ytdodajpiidkglaa.PAll
set_option linter.unusedVariables false
set_option linter.unusedSimpArgs false

theorem insOf_join (D : Nat) (l m : List Stm) : insOf (l ++ m.map (shS D)) = insOf l ++ insOf m := by
  unfold insOf
  rw [List.filterMap_append]
  congr 1
  induction m with
  | nil => rfl
  | cons x m ih =>
    rw [List.map_cons, List.filterMap_cons, List.filterMap_cons, ih]
    cases x <;> simp [shS]
theorem outsOf_join (D : Nat) (l m : List Stm) : outsOf (l ++ m.map (shS D)) = outsOf l ++ outsOf m := by
  unfold outsOf
  rw [List.filterMap_append]
  congr 1
  induction m with
  | nil => rfl
  | cons x m ih =>
    rw [List.map_cons, List.filterMap_cons, List.filterMap_cons, ih]
    cases x <;> simp [shS]
theorem rulesOf_join (D : Nat) (l m : List Stm) : rulesOf (l ++ m.map (shS D)) = rulesOf l ++ rulesOf m := by
  unfold rulesOf
  rw [List.filterMap_append]
  congr 1
  induction m with
  | nil => rfl
  | cons x m ih =>
    rw [List.map_cons, List.filterMap_cons, List.filterMap_cons, ih]
    cases x <;> simp [shS]
theorem insAt_join (D : Nat) (l m : List Stm) : insAt (l ++ m.map (shS D)) = insAt l ++ (insAt m).map (fun x => x + (D : Int)) := by
  unfold insAt
  rw [List.filterMap_append]
  congr 1
  induction m with
  | nil => rfl
  | cons x m ih =>
    rw [List.map_cons, List.filterMap_cons, List.filterMap_cons, ih]
    cases x <;> simp [shS]
theorem outsAt_join (D : Nat) (l m : List Stm) : outsAt (l ++ m.map (shS D)) = outsAt l ++ (outsAt m).map (fun x => x + (D : Int)) := by
  unfold outsAt
  rw [List.filterMap_append]
  congr 1
  induction m with
  | nil => rfl
  | cons x m ih =>
    rw [List.map_cons, List.filterMap_cons, List.filterMap_cons, ih]
    cases x <;> simp [shS]
theorem rulesAt_join (D : Nat) (l m : List Stm) : rulesAt (l ++ m.map (shS D)) = rulesAt l ++ (rulesAt m).map (fun x => x + (D : Int)) := by
  unfold rulesAt
  rw [List.filterMap_append]
  congr 1
  induction m with
  | nil => rfl
  | cons x m ih =>
    rw [List.map_cons, List.filterMap_cons, List.filterMap_cons, ih]
    cases x <;> simp [shS]

/-! #### places are small -/
def placeOf : Stm → Nat
  | .inp _ a => a
  | .out _ a => a
  | .rul _ a => a
theorem takeP_at {c : Src} {i : Nat} {ks : List Nat} {t : Tok} {j : Nat} (h : takeP c i ks = .ok (t, j)) : t = c.at_ i := by
  unfold takeP at h
  split at h
  · injection h with h; injection h with h _; exact h.symm
  · cases h
theorem statementP_at {c : Src} {B : Nat} (hc : ∀ k, (c.at_ k).a ≤ B) {i : Nat} {x : Stm} {j : Nat} (h : statementP c i = .ok (x, j)) : placeOf x ≤ B := by
  unfold statementP at h
  split at h
  · cases h
  · rename_i t i1 h1
    have ht : t.a ≤ B := by rw [takeP_at h1]; exact hc i
    split at h
    · split at h
      · cases h
      · split at h
        · cases h
        · split at h
          · cases h
          · injection h with h; injection h with h _; rw [← h]; exact ht
    · split at h
      · split at h
        · cases h
        · split at h
          · cases h
          · injection h with h; injection h with h _; rw [← h]; exact ht
      · split at h
        · cases h
        · injection h with h; injection h with h _; rw [← h]; exact ht
theorem programL_at {c : Src} {B : Nat} (hc : ∀ k, (c.at_ k).a ≤ B) : ∀ (n i : Nat) (acc l : List Stm) (j : Nat), programL c n i acc = .ok (l, j) → (∀ x ∈ acc, placeOf x ≤ B) → ∀ x ∈ l, placeOf x ≤ B
  | 0, i, acc, l, j, h, _ => by simp [programL] at h
  | n + 1, i, acc, l, j, h, ha => by
    unfold programL at h
    split at h
    · split at h
      · cases h
      · rename_i x i1 h1
        exact programL_at hc n _ _ _ _ h (fun y hy => by
          rcases List.mem_append.1 hy with hy | hy
          · exact ha y hy
          · rw [List.mem_singleton] at hy; rw [hy]; exact statementP_at hc h1)
    · injection h with h
      injection h with h1 _
      rw [← h1]; exact ha
theorem programP_at {s : ByteArray} {l : List Stm} (h : programP s = .ok l) : ∀ x ∈ l, placeOf x ≤ s.size := by
  unfold programP programC at h
  cases hp : programL (src s) ((src s).T.length + 1) 0 [] with
  | error a => rw [hp] at h; simp at h
  | ok r =>
    obtain ⟨l2, j⟩ := r
    rw [hp] at h
    simp only at h
    have h2 := programL_at (fun k => ((toks_size s).2 k).1) _ _ _ _ _ hp (by simp)
    by_cases hb : (src s).far < s.size ∨ (src s).o.k ≠ 0
    · rw [if_pos hb] at h; cases h
    · rw [if_neg hb] at h
      injection h with h
      rw [← h]; exact h2
/-- A list of places below a bound. -/
def Low (B : Nat) (l : List Int) : Prop := ∀ x ∈ l, 0 ≤ x ∧ x ≤ (B : Int)
theorem low_at {B : Nat} {l : List Stm} (h : ∀ x ∈ l, placeOf x ≤ B) : Low B (insAt l) ∧ Low B (outsAt l) ∧ Low B (rulesAt l) := by
  refine ⟨fun y hy => ?_, fun y hy => ?_, fun y hy => ?_⟩ <;>
  · obtain ⟨x, hx, he⟩ := List.mem_filterMap.1 hy
    have := h x hx
    cases x <;> simp [placeOf] at he this <;> omega

/-! #### offsets are small -/
theorem tokF_tips (s : ByteArray) : ∀ (n i : Nat) (j : Option Nat) (acc : List Tok), i ≤ s.size →
    ((∀ x ∈ acc, x.e ≤ s.size) → ∀ x ∈ (tokF s n i j acc).1, x.e ≤ s.size) ∧ (tokF s n i j acc).2.1.a ≤ s.size
  | 0, i, j, acc, hi => ⟨fun h => h, Nat.zero_le _⟩
  | n + 1, i, j, acc, hi => by
    unfold tokF
    split
    · rename_i hlt
      have hend := nextF_end (from_ s i) i
      have hsz := nextF_size (from_ s i) i
      rw [from_len] at hend hsz
      split
      · exact ⟨fun h => h, Nat.zero_le _⟩
      · split
        · exact ⟨fun h => h, by show (nextF (from_ s i) i).1.a ≤ _; omega⟩
        · rename_i h1 h2
          have hb := blk_le (from_ s (nextF (from_ s i) i).1.e) false (nextF (from_ s i) i).1.e
          rw [from_len] at hb
          obtain ⟨h6, h7⟩ := tokF_tips s n (blk false (from_ s (nextF (from_ s i) i).1.e) (nextF (from_ s i) i).1.e) (if isWord (nextF (from_ s i) i).1.k then some (nextF (from_ s i) i).1.e else none) (acc ++ [(nextF (from_ s i) i).1]) (by omega)
          refine ⟨fun h => h6 fun x hx => ?_, h7⟩
          rcases List.mem_append.1 hx with hx | hx
          · exact h x hx
          · rw [List.mem_singleton] at hx; rw [hx]; omega
    · exact ⟨fun h => h, Nat.zero_le _⟩
theorem error_at {s : ByteArray} {a : Nat} (h : programP s = .error a) : a ≤ 2 * s.size := by
  have hb := blk_le (from_ s 0) false 0
  rw [from_len] at hb
  obtain ⟨h1, h2⟩ := tokF_tips s (s.size + 1) (blk false (from_ s 0) 0) none [] (by omega)
  have hts := (toks_size s).2
  have hfar : (src s).far ≤ s.size := (toks_ends s).2.1
  have hoa : (src s).o.a ≤ s.size := h2
  have hsim : Sim (fun a _ => a ≤ 2 * s.size) 0 (src s) (src s) := by
    refine ⟨rfl, fun i hi => ⟨rfl, rfl, fun m hm => ?_, ?_⟩, rfl, fun _ => ?_, ?_⟩
    · have := hts i; omega
    · have : ((src s).at_ i).e ≤ s.size := h1 (by simp) _ (by
        show rd_T71 (src s).T i ∈ (src s).T
        unfold rd_T71
        rw [List.getD_eq_getElem?_getD, List.getElem?_eq_getElem hi]
        exact List.getElem_mem hi)
      omega
    · omega
    · omega
  have hlaw := programL_sim hsim [] ((src s).T.length + 1) 0 [] [] (Nat.zero_le _) (by omega) trivial
  rw [Nat.add_zero, List.nil_append] at hlaw
  unfold programP programC at h
  rcases hlaw.cases with ⟨a', b, e1, _, he⟩ | ⟨x, y, j, e1, _, _⟩
  · rw [e1] at h
    injection h with h
    omega
  · have hjl := programL_le _ _ _ _ _ (Nat.zero_le _) e1
    rw [e1] at h
    simp only at h
    by_cases hbt : (src s).far < s.size ∨ (src s).o.k ≠ 0
    · rw [if_pos hbt] at h
      injection h with h
      have := stop_sim hsim j (by omega) [1, 5, 6]
      omega
    · rw [if_neg hbt] at h; cases h

/-! #### moved, places -/
theorem rd_nat (l : List Int) (i : Nat) (h : i < l.length) : rd l (i : Int) = l[i] := by
  unfold rd
  rw [Int.toNat_natCast, List.getD_eq_getElem?_getD, List.getElem?_eq_getElem h]; rfl
theorem wrap_small {x : Int} (h0 : -9223372036854775808 ≤ x) (h : x ≤ 9223372036854775807) : wrap64 x = x := by unfold wrap64; omega
theorem moved_loop (b : List Int) (D B : Nat) (hb : Low B b) (hB : B ≤ 1000000000) (hD : D ≤ 1000000000) (hl : b.length ≤ 1000000000) : ∀ (d i k : Nat) (acc : List Int), i + d = b.length → d < k → acc.length + d ≤ 4000000000 →
    inklinglaw08_moved.l0 k b (D : Int) acc (i : Int) = some (acc ++ (b.drop i).map (fun x => x + (D : Int))) := by
  intro d
  induction d with
  | zero =>
    intro i k acc hi hk ha
    obtain ⟨k, rfl⟩ : ∃ m, k = m + 1 := ⟨k - 1, by omega⟩
    simp only [inklinglaw08_moved.l0]
    rw [if_neg (by omega), List.drop_eq_nil_of_le (by omega)]
    simp
  | succ d ih =>
    intro i k acc hi hk ha
    obtain ⟨k, rfl⟩ : ∃ m, k = m + 1 := ⟨k - 1, by omega⟩
    have hlt : i < b.length := by omega
    simp only [inklinglaw08_moved.l0]
    rw [if_pos (by omega), if_pos (by omega), if_pos (by omega), rd_nat b i hlt]
    have hx := hb b[i] (List.getElem_mem hlt)
    rw [wrap_small (by omega) (by omega), show wrap64 ((i : Int) + 1) = ((i + 1 : Nat) : Int) by rw [wrap_small (by omega) (by omega)]; rfl]
    rw [ih (i + 1) k _ (by omega) (by omega) (by simp only [List.length_append, List.length_singleton]; omega)]
    rw [List.drop_eq_getElem_cons hlt, List.map_cons]
    simp only [List.append_assoc, List.singleton_append]
theorem moved_f (a b : List Int) (D B : Nat) (hb : Low B b) (hB : B ≤ 1000000000) (hD : D ≤ 1000000000) (ha : a.length ≤ 1000000000) (hl : b.length ≤ 1000000000) :
    inklinglaw08_moved.f (b.length + 1) a b (D : Int) = some (a ++ b.map (fun x => x + (D : Int))) := by
  unfold inklinglaw08_moved.f
  simp only [Option.bind_some, List.length_nil, List.nil_append]
  rw [if_pos (by omega)]
  have := moved_loop b D B hb hB hD hl b.length 0 (b.length + 1) a (by omega) (by omega) (by omega)
  simpa using this
theorem ints_loop (l : List Int) (hl : l.length ≤ 1000000000) : ∀ (d i k : Nat), i + d = l.length → d < k → inklingkit_Ints.l0 k l l (i : Int) = some true := by
  intro d
  induction d with
  | zero =>
    intro i k hi hk
    obtain ⟨k, rfl⟩ : ∃ m, k = m + 1 := ⟨k - 1, by omega⟩
    simp only [inklingkit_Ints.l0]
    rw [if_neg (by omega)]
  | succ d ih =>
    intro i k hi hk
    obtain ⟨k, rfl⟩ : ∃ m, k = m + 1 := ⟨k - 1, by omega⟩
    simp only [inklingkit_Ints.l0]
    rw [if_pos (by omega), if_pos (by omega), if_pos (by omega), show wrap64 ((i : Int) + 1) = ((i + 1 : Nat) : Int) by rw [wrap_small (by omega) (by omega)]; rfl]
    exact (if_pos trivial).trans (ih (i + 1) k (by omega) (by omega))
theorem ints_f (l : List Int) (hl : l.length ≤ 1000000000) (k : Nat) (hk : l.length < k) : inklingkit_Ints.f k l l = some true := by
  unfold inklingkit_Ints.f
  rw [if_pos rfl]
  exact ints_loop l hl l.length 0 k (by omega) hk
theorem places_f (a b c : List Int) (h1 : a.length ≤ 1000000000) (h2 : b.length ≤ 1000000000) (h3 : c.length ≤ 1000000000) : inklinglaw08_places.f (a.length + b.length + c.length + 1) a b c a b c = some true := by
  unfold inklinglaw08_places.f
  rw [ints_f a h1 _ (by omega), Option.bind_some, if_pos rfl, ints_f b h2 _ (by omega), Option.bind_some, if_pos rfl, ints_f c h3 _ (by omega), Option.bind_some]
theorem join_data (s t : ByteArray) : Joint (s ++ ⟨#[10]⟩ ++ t) s t := by
  unfold Joint
  rw [ByteArray.data_append, ByteArray.data_append]; simp

/-! #### lengths, blocks -/
theorem join_lens {s : ByteArray} {l : List Stm} (h : programP s = .ok l) {B : Nat} (hB : s.size ≤ B) : (insOf l).length ≤ B ∧ (outsOf l).length ≤ B ∧ (rulesOf l).length ≤ B ∧ (insAt l).length ≤ B ∧ (outsAt l).length ≤ B ∧ (rulesAt l).length ≤ B := by
  have h1 := (programP_len h).1
  exact ⟨Nat.le_trans (List.length_filterMap_le ..) (by omega), Nat.le_trans (List.length_filterMap_le ..) (by omega), Nat.le_trans (List.length_filterMap_le ..) (by omega), Nat.le_trans (List.length_filterMap_le ..) (by omega), Nat.le_trans (List.length_filterMap_le ..) (by omega), Nat.le_trans (List.length_filterMap_le ..) (by omega)⟩
theorem prog_both {J : ByteArray} {l1 l2 : List Stm} {D : Nat} (h : programP J = .ok (l1 ++ l2.map (shS D))) (hs : J.size ≤ 2147483647) : ProgS (insOf l1 ++ insOf l2) (outsOf l1 ++ outsOf l2) (rulesOf l1 ++ rulesOf l2) := by
  have h1 := (prog_S hs).1
  rw [h] at h1
  have h2 : ProgS (insOf (l1 ++ l2.map (shS D))) (outsOf (l1 ++ l2.map (shS D))) (rulesOf (l1 ++ l2.map (shS D))) := h1
  rw [insOf_join, outsOf_join, rulesOf_join] at h2
  exact h2
theorem alloc_size (w : World) (o : Obj) : (w.alloc o).heap.size = w.heap.size + 1 := Array.size_push _
theorem pair_heap {w w2 : World} {o1 o2 : Obj} (h : Below ((w.alloc o1).alloc o2).heap.size ((w.alloc o1).alloc o2) w2) :
    w.heap.size + 2 ≤ w2.heap.size ∧ w2.heap[w.heap.size]? = some o1 ∧ w2.heap[w.heap.size + 1]? = some o2 ∧ Below w.heap.size w w2 := by
  have hs1 := alloc_size w o1
  have hs2 := alloc_size (w.alloc o1) o2
  have h2 := h.size
  refine ⟨by omega, blk_below (blk_alloc (blk_new w o1) o2) h, ?_, (below_alloc (below_alloc (Below.refl _ w) _) _).trans (h.mono (below_alloc (below_alloc (Below.refl _ w) _) _).size)⟩
  have := blk_new (w.alloc o1) o2
  rw [hs1] at this
  exact blk_below this h
theorem quad_heap (w : World) (o1 o2 o3 o4 : Obj) : ∀ W, W = (((w.alloc o1).alloc o2).alloc o3).alloc o4 →
    W.heap.size = w.heap.size + 4 ∧ Below w.heap.size w W ∧ W.heap[w.heap.size]? = some o1 ∧ W.heap[w.heap.size + 1]? = some o2 ∧ W.heap[w.heap.size + 1 + 1]? = some o3 ∧ W.heap[w.heap.size + 1 + 1 + 1]? = some o4 := by
  rintro W rfl
  have hs1 := alloc_size w o1
  have hs2 := alloc_size (w.alloc o1) o2
  have hs3 := alloc_size ((w.alloc o1).alloc o2) o3
  have hs4 := alloc_size (((w.alloc o1).alloc o2).alloc o3) o4
  refine ⟨by omega, below_alloc (below_alloc (below_alloc (below_alloc (Below.refl _ w) _) _) _) _, blk_alloc (blk_alloc (blk_alloc (blk_new w o1) o2) o3) o4, ?_, ?_, ?_⟩
  · have := blk_new (w.alloc o1) o2
    rw [hs1] at this
    exact blk_alloc (blk_alloc this o3) o4
  · have := blk_new ((w.alloc o1).alloc o2) o3
    rw [hs2, hs1] at this
    exact blk_alloc this o4
  · have := blk_new (((w.alloc o1).alloc o2).alloc o3) o4
    rw [hs3, hs2, hs1] at this
    exact this
theorem trio {W : World} {b t : Nat} {x y z : Value} (h : W.heap[b]? = some (.cells #[x, y, z] t (0, 0))) : W.cell? ⟨b, 0, none⟩ = some x ∧ W.cell? ⟨b, 1, none⟩ = some y ∧ W.cell? ⟨b, 2, none⟩ = some z :=
  ⟨(blk_cell h 0).trans rfl, (blk_cell h 1).trans rfl, (blk_cell h 2).trans rfl⟩
theorem triof {W : World} {b t : Nat} {x y z : Value} (h : W.heap[b]? = some (.cells #[x, y, z] t (0, 0))) : W.frozen? ⟨b, 0, none⟩ = false ∧ W.frozen? ⟨b, 1, none⟩ = false ∧ W.frozen? ⟨b, 2, none⟩ = false :=
  ⟨blk_frozen h 0, blk_frozen h 1, blk_frozen h 2⟩
/-- The two boxes that are filled (g: a program; behind it: its places). -/
structure Boxes (W0 : World) (g : Nat) (W : World) (v0 v1 v2 v3 v4 v5 : Value) : Prop where
  below : Below g W0 W
  old : g ≤ W0.heap.size
  b : W.heap[g]? = some (.cells #[v0, v1, v2] 42 (0, 0))
  s : W.heap[g + 1]? = some (.cells #[v3, v4, v5] 45 (0, 0))
section
variable {W0 W W1 : World} {g : Nat} {v0 v1 v2 v3 v4 v5 : Value}
theorem Boxes.room (h : Boxes W0 g W v0 v1 v2 v3 v4 v5) : g + 2 ≤ W.heap.size := by have := blk_lt h.s; omega
theorem Boxes.step (h : Boxes W0 g W v0 v1 v2 v3 v4 v5) (hb : Below W.heap.size W W1) : Boxes W0 g W1 v0 v1 v2 v3 v4 v5 :=
  ⟨h.below.trans (hb.mono (by have := h.room; omega)), h.old, blk_below h.b hb, blk_below h.s hb⟩
theorem Boxes.blk (h : Boxes W0 g W v0 v1 v2 v3 v4 v5) {k : Nat} (hk : k < g) {o : Obj} (ho : W0.heap[k]? = some o) : W.heap[k]? = some o := (h.below.block k hk).trans ho
theorem Boxes.put0 (h : Boxes W0 g W v0 v1 v2 v3 v4 v5) (u : Value) : Boxes W0 g (W.setCell ⟨g, 0, none⟩ u) u v1 v2 v3 v4 v5 :=
  ⟨h.below.setCell (p := ⟨g, 0, none⟩) (Nat.le_refl _) u, h.old, blk_put h.b 0 u rfl, blk_far (p := ⟨g, 0, none⟩) h.s (by simp) u⟩
theorem Boxes.put1 (h : Boxes W0 g W v0 v1 v2 v3 v4 v5) (u : Value) : Boxes W0 g (W.setCell ⟨g, 1, none⟩ u) v0 u v2 v3 v4 v5 :=
  ⟨h.below.setCell (p := ⟨g, 1, none⟩) (Nat.le_refl _) u, h.old, blk_put h.b 1 u rfl, blk_far (p := ⟨g, 1, none⟩) h.s (by simp) u⟩
theorem Boxes.put2 (h : Boxes W0 g W v0 v1 v2 v3 v4 v5) (u : Value) : Boxes W0 g (W.setCell ⟨g, 2, none⟩ u) v0 v1 u v3 v4 v5 :=
  ⟨h.below.setCell (p := ⟨g, 2, none⟩) (Nat.le_refl _) u, h.old, blk_put h.b 2 u rfl, blk_far (p := ⟨g, 2, none⟩) h.s (by simp) u⟩
theorem Boxes.put3 (h : Boxes W0 g W v0 v1 v2 v3 v4 v5) (u : Value) : Boxes W0 g (W.setCell ⟨g + 1, 0, none⟩ u) v0 v1 v2 u v4 v5 :=
  ⟨h.below.setCell (p := ⟨g + 1, 0, none⟩) (Nat.le_succ _) u, h.old, blk_far (p := ⟨g + 1, 0, none⟩) h.b (by simp) u, blk_put h.s 0 u rfl⟩
theorem Boxes.put4 (h : Boxes W0 g W v0 v1 v2 v3 v4 v5) (u : Value) : Boxes W0 g (W.setCell ⟨g + 1, 1, none⟩ u) v0 v1 v2 v3 u v5 :=
  ⟨h.below.setCell (p := ⟨g + 1, 1, none⟩) (Nat.le_succ _) u, h.old, blk_far (p := ⟨g + 1, 1, none⟩) h.b (by simp) u, blk_put h.s 1 u rfl⟩
theorem Boxes.put5 (h : Boxes W0 g W v0 v1 v2 v3 v4 v5) (u : Value) : Boxes W0 g (W.setCell ⟨g + 1, 2, none⟩ u) v0 v1 v2 v3 v4 u :=
  ⟨h.below.setCell (p := ⟨g + 1, 2, none⟩) (Nat.le_succ _) u, h.old, blk_far (p := ⟨g + 1, 2, none⟩) h.b (by simp) u, blk_put h.s 2 u rfl⟩
end
/-- An empty literal's row. -/
theorem lit_N {α : Type} (d : Kd α) (e : Nat) (W : World) {base : Nat} {ok : Nat → Prop} (hb : base ≤ W.heap.size) (hok : ok W.heap.size) : Kd.N d e (W.alloc (.cells #[] e)) base ok (.slice (some ⟨W.heap.size, 0, none⟩) 0 0) [] := by
  refine Kd.R_N ⟨fun k hk => ?_, [], ?_, Reps.none _ _⟩
  · have : W.heap.size = k := by simpa [Value.ownBlock] using hk
    subst this
    exact hok
  · have h2 := World.ownsRow_lit (base := base) (e := e) (size := d.sz) W #[] 0 hb (by simp) (by simp)
    simpa using h2
end Go.Proofs.Ytdodajpiidkglaa.K
