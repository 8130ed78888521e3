/- (*parser).rule: the walk. Conditions: the parser lies in memory as 'IsP' says. -/
import Derived.Test.YtdodajpiidkglaaKParserG
import Derived.Deep.RegionLaw
namespace Go.Proofs.Ytdodajpiidkglaa.K
open Go.RowKit Go.Proofs.YtdodajpiidkglaaW.PrintWords Go.Proofs.YtdodajpiidkglaaW.PrintLast Go.Proofs.YtdodajpiidkglaaW.PrintMore Go.Proofs.Ytdodajpiidkglaa.PAll
set_option linter.unusedVariables false
set_option linter.unusedSimpArgs false

section
variable {w0 w W : World} {g b : Nat} {s : ByteArray} {L : Value} {c : Src} {i : Nat} {q : List Value}
theorem cells3 {t : Nat} {c0 c1 c2 : Value} (h : W.heap[b]? = some (.cells #[c0, c1, c2] t (0, 0))) :
    W.cell? ⟨b, 0, none⟩ = some c0 ∧ W.cell? ⟨b, 1, none⟩ = some c1 ∧ W.cell? ⟨b, 2, none⟩ = some c2 ∧ W.frozen? ⟨b, 0, none⟩ = false ∧ W.frozen? ⟨b, 1, none⟩ = false ∧ W.frozen? ⟨b, 2, none⟩ = false :=
  ⟨(blk_cell h 0).trans rfl, (blk_cell h 1).trans rfl, (blk_cell h 2).trans rfl, blk_frozen h 0, blk_frozen h 1, blk_frozen h 2⟩
theorem blk3 {t : Nat} {c0 c1 c2 u0 u1 u2 : Value} (h : W.heap[b]? = some (.cells #[c0, c1, c2] t (0, 0))) : (((W.setCell ⟨b, 0, none⟩ u0).setCell ⟨b, 1, none⟩ u1).setCell ⟨b, 2, none⟩ u2).heap[b]? = some (.cells #[u0, u1, u2] t (0, 0)) :=
  blk_put (cs' := #[u0, u1, u2]) (blk_put (cs' := #[u0, u1, c2]) (blk_put (cs' := #[u0, c1, c2]) h 0 u0 rfl) 1 u1 rfl) 2 u2 rfl
theorem R3 {α : Type} {d : Kd α} {e base : Nat} {ok : Nat → Prop} {v : Value} {xs : List α} (h : d.R e W base ok v xs) (hb : ∀ k, ok k → k ≠ b) (u0 u1 u2 : Value) : d.R e (((W.setCell ⟨b, 0, none⟩ u0).setCell ⟨b, 1, none⟩ u1).setCell ⟨b, 2, none⟩ u2) base ok v xs :=
  Kd.R_far (p := ⟨b, 2, none⟩) (Kd.R_far (p := ⟨b, 1, none⟩) (Kd.R_far (p := ⟨b, 0, none⟩) h hb _) hb _) hb _
theorem isP3 (h : IsP w0 W g s L c i q) (hb : b ≠ g) (hl : ∀ k, L.ownBlock = some k → k ≠ b) (u0 u1 u2 : Value) : IsP w0 (((W.setCell ⟨b, 0, none⟩ u0).setCell ⟨b, 1, none⟩ u1).setCell ⟨b, 2, none⟩ u2) g s L c i q :=
  ((h.far_ (p := ⟨b, 0, none⟩) hb hl _).far_ (p := ⟨b, 1, none⟩) hb hl _).far_ (p := ⟨b, 2, none⟩) hb hl _
theorem keep3 (h : KeepBut w W g none) (hb : w.heap.size ≤ b) (u0 u1 u2 : Value) : KeepBut w (((W.setCell ⟨b, 0, none⟩ u0).setCell ⟨b, 1, none⟩ u1).setCell ⟨b, 2, none⟩ u2) g none :=
  keep_new (keep_new (keep_new h hb _) hb _) hb _
theorem below3 (h : Below w0.heap.size w0 W) (hb : w0.heap.size ≤ b) (u0 u1 u2 : Value) : Below w0.heap.size w0 (((W.setCell ⟨b, 0, none⟩ u0).setCell ⟨b, 1, none⟩ u1).setCell ⟨b, 2, none⟩ u2) :=
  ((h.setCell hb _).setCell hb _).setCell hb _
end
/-- For a region whose call throws: nothing is left of the region. -/
theorem by_none {p : Prop} {w : World} (h : p) (_ : wpAny Try.prog (default : Region.Mode) #[] (fun _ _ _ => True) 0 #[] ⟨#[], []⟩ w) : p := h
theorem info29s : (Try.prog.info? 29).map (·.size) = some 3 := by kernel_rfl

theorem literal_ok {w0 w : World} {g : Nat} {s : ByteArray} {L : Value} {c : Src} {i : Nat} {q : List Value} {x : S63} {j : Nat} (h : literalP c i = .ok (x, j)) (hp : IsP w0 w g s L c i q) (hi : i ≤ c.T.length) (hB : Below w0.heap.size w0 w) :
    Calls Try.prog 55 #[.pointer (some ⟨g, 0, none⟩)] w fun e w' => ∃ A cc, e = .returned (.agg #[.int .i64 x.f0, .string x.f1.f0, .slice A x.f1.f1.length cc, .bool x.f2.f0, .string x.f2.f1, .bool x.f3.f0, .string x.f3.f1]) ∧ Kd.R k61 61 w' w.heap.size (fun _ => True) (.slice A x.f1.f1.length cc) x.f1.f1 ∧ IsP w0 w' g s L c j q ∧ KeepBut w w' g none ∧ Below w0.heap.size w0 w' :=
  (literal_calls hp hi hB).mono fun e w' hpost => by
    obtain ⟨v, h1, ⟨A, cc, h2, h2'⟩, h3, h4, h5⟩ := PEnd.ok hpost h
    subst h2
    exact ⟨A, cc, h1, h2', h3, h4, h5⟩
theorem literal_err {w0 w : World} {g : Nat} {s : ByteArray} {L : Value} {c : Src} {i : Nat} {q : List Value} {a : Nat} (h : literalP c i = .error a) (hp : IsP w0 w g s L c i q) (hi : i ≤ c.T.length) (hB : Below w0.heap.size w0 w) :
    Calls Try.prog 55 #[.pointer (some ⟨g, 0, none⟩)] w (ErrEnd w0 w g a) :=
  (literal_calls hp hi hB).mono fun e w' hpost => PEnd.err hpost h

/-- A rule as a value: its lists in blocks from b on. -/
def ruleR (b : Nat) (W : World) (x : S29) (v : Value) : Prop :=
  ∃ v1 v2, v = .agg #[.string x.f0.f0, v1, v2] ∧ Kd.R k61 61 W b (fun _ => True) v1 x.f0.f1 ∧ Kd.R k63 63 W b (fun _ => True) v2 x.f1

theorem ruleR_mk {b : Nat} {W : World} {x : S29} {v1 v2 : Value} (h1 : Kd.R k61 61 W b (fun _ => True) v1 x.f0.f1) (h2 : Kd.R k63 63 W b (fun _ => True) v2 x.f1) : ruleR b W x (.agg #[.string x.f0.f0, v1, v2]) := ⟨v1, v2, rfl, h1, h2⟩

def bodyEnd (c : Src) (m i : Nat) (acc : List S63) (pred : ByteArray) (l1 : List S61) : Except Nat (S29 × Nat) :=
  match bodyL c m i acc with
  | .error a => .error a
  | .ok (bd, i2) => match takeP c i2 [11] with
    | .error a => .error a
    | .ok (_, i3) => .ok (⟨⟨pred, l1⟩, bd⟩, i3)

def RF (w : World) (g b : Nat) (pred : ByteArray) (u : Nat → Value) : Act := ⟨#[.pointer (some ⟨g, 0, none⟩), .string pred, u 2, u 3, .pointer (some ⟨w.heap.size, 0, none⟩), .pointer (some ⟨b, 0, none⟩), .int .i64 11, u 7, u 8, u 9, u 10, u 11, u 12, u 13, u 14, u 15, u 16, u 17, u 18, u 19, u 20, u 21, u 22, u 23, u 24, u 25, u 26, u 27, u 28, u 29, u 30, u 31, u 32, u 33, u 34, u 35, u 36, u 37, u 38, u 39, u 40, u 41, u 42, u 43, u 44, u 45, u 46, u 47, u 48, u 49, u 50, u 51, u 52, u 53, u 54, u 55], []⟩
def RI (w0 w : World) (g : Nat) (s : ByteArray) (L : Value) (c : Src) (q : List Value) (pred : ByteArray) (r : Except Nat (S29 × Nat)) (b : Nat) (l1 : List S61) (v1 : Value) (l n : Nat) (a : Act) (w' : World) : Prop :=
  ∃ (i : Nat) (acc : List S63) (v : Value), (∃ u, a = RF w g b pred u) ∧ l = 0 ∧ n = 256 - acc.length ∧ acc.length < 256 ∧ i ≤ c.T.length ∧ Aside0 (bodyEnd c (256 - acc.length) i acc pred l1 = r) ∧
    Aside0 (Kd.R k61 61 w' w.heap.size (fun k => k ≠ g ∧ k ≠ w.heap.size ∧ k ≠ b) v1 l1) ∧ Aside0 (Kd.R k63 63 w' w.heap.size (fun k => k ≠ g ∧ k ≠ w.heap.size ∧ k ≠ b) v acc) ∧
    Aside0 (w'.heap[w.heap.size]? = some (.cells #[.string ⟨#[]⟩, .slice none 0 0, .slice none 0 0] 29 (0, 0))) ∧ Aside0 (w'.heap[b]? = some (.cells #[.string pred, v1, v] 29 (0, 0))) ∧
    Aside0 (IsP w0 w' g s L c i q) ∧ Aside0 (KeepBut w w' g none) ∧ Aside0 (Below w0.heap.size w0 w')
set_option maxHeartbeats 8000000 in
set_option maxRecDepth 100000 in
theorem rule_calls {w0 w : World} {g : Nat} {s : ByteArray} {L : Value} {c : Src} {i : Nat} {q : List Value} {pred : ByteArray} (hp : IsP w0 w g s L c i q) (hi : i ≤ c.T.length) (hB : Below w0.heap.size w0 w) :
    Calls Try.prog 29 #[.pointer (some ⟨g, 0, none⟩), .string pred] w (PEnd w0 w g s L c q (ruleR w.heap.size) (ruleP c i pred)) := by
  generalize hr : ruleP c i pred = r
  have hgl := hp.lt
  have hol := Aside0.mk hp.own_lt
  have HGE := Aside0.mk hp.ge
  have hge : w0.heap.size ≤ w.heap.size := hB.size
  have hne : w.heap.size ≠ g := Ne.symm (Nat.ne_of_lt hgl)
  have HI := Aside0.mk hi
  have hlen := hp.2.2.2
  have HP := Aside0.mk (hp.alloc (.cells #[.string ⟨#[]⟩, .slice none 0 0, .slice none 0 0] 29))
  have HZ := Aside0.mk (blk_new w (.cells #[.string ⟨#[]⟩, .slice none 0 0, .slice none 0 0] 29))
  have HK := Aside0.mk (keep_alloc (KeepBut.refl w g none) (.cells #[.string ⟨#[]⟩, .slice none 0 0, .slice none 0 0] 29))
  have HB := Aside0.mk (below_alloc hB (.cells #[.string ⟨#[]⟩, .slice none 0 0, .slice none 0 0] 29))
  have HGS := Aside0.mk (show g < (w.alloc (.cells #[.string ⟨#[]⟩, .slice none 0 0, .slice none 0 0] 29)).heap.size ∧ w.heap.size < (w.alloc (.cells #[.string ⟨#[]⟩, .slice none 0 0, .slice none 0 0] 29)).heap.size from ⟨HP.out.lt, blk_lt HZ.out⟩)
  clear hp hB
  unfold ruleP at hr
  cases ha : argsP c i with
  | error a =>
    rw [ha] at hr
    simp only at hr
    have HR := Aside0.mk hr
    have HA := Aside0.mk ha
    clear hr ha
    go_enter Try.func29, Try.ntmps29
    go_wp2_with (first | (go_at_call 53; (with_reducible refine (args_err (w0 := w0) (s := s) (L := L) (q := q) HA.out ?a1 HI.out ?a2).mono ?_); (case a1 => repeat (first | exact HP.out | apply IsP.alloc | apply IsP.drewN | apply IsP.drew | apply IsP.step1)); (case a2 => repeat (first | exact HB.out | apply below_alloc | apply pw_below_drewN | apply below_drew1 | refine below_set ?_ HGE.out)); rintro e w2 ⟨rfl, hk, hb⟩; have HKE := Aside0.mk (KeepBut.trans (by repeat (first | exact HK.out | apply KeepBut.set_ | apply keep_drewN | apply keep_drew | apply keep_alloc)) hk (.inl rfl)); have HBE := Aside0.mk hb; clear hk hb))
    exact ⟨rfl, PEnd.of_err ⟨rfl, HKE.out, HBE.out⟩ HR.out.symm⟩
  | ok r1 =>
    obtain ⟨l1, i0⟩ := r1
    rw [ha] at hr
    simp only at hr
    have HI1 := Aside0.mk (argsP_le hi ha).2
    have HA := Aside0.mk ha
    clear ha
    go_enter Try.func29, Try.ntmps29
    go_upto_region 2 with (first | (go_at_call 53; (with_reducible refine (args_ok (w0 := w0) (s := s) (L := L) (q := q) HA.out ?a1 HI.out ?a2).mono ?_); (case a1 => repeat (first | exact HP.out | apply IsP.alloc | apply IsP.drewN | apply IsP.drew | apply IsP.step1)); (case a2 => repeat (first | exact HB.out | apply below_alloc | apply pw_below_drewN | apply below_drew1 | refine below_set ?_ HGE.out)); rintro e wa ⟨A1, c1, rfl, hv, hp, hk, hb⟩; have nz := KeepBut.blk (o := .cells #[.string ⟨#[]⟩, .slice none 0 0, .slice none 0 0] 29 (0, 0)) hk (by repeat (first | exact HZ.out | refine blk_alloc ?_ _ | refine blk_drewN ?_ _ | refine blk_drew ?_)) hne (by simp); have nk := KeepBut.trans (by repeat (first | exact HK.out | apply KeepBut.set_ | apply keep_drewN | apply keep_drew | apply keep_alloc)) hk (.inl rfl); have hya := hp.lt; have hyb := blk_lt nz; have HZ4 := Aside0.mk (blk_alloc nz (.cells #[.string pred, .slice A1 l1.length c1, .slice none 0 0] 29)); have HZ5 := Aside0.mk (blk_new wa (.cells #[.string pred, .slice A1 l1.length c1, .slice none 0 0] 29)); have nHP := Aside0.mk (hp.alloc (.cells #[.string pred, .slice A1 l1.length c1, .slice none 0 0] 29)); have nHK := Aside0.mk (keep_alloc nk (.cells #[.string pred, .slice A1 l1.length c1, .slice none 0 0] 29)); have nHB := Aside0.mk (below_alloc hb (.cells #[.string pred, .slice A1 l1.length c1, .slice none 0 0] 29)); have HV1 := Aside0.mk (Kd.R_alloc (Kd.R_mono (ok' := fun k => k ≠ g ∧ k ≠ w.heap.size ∧ k ≠ wa.heap.size) (Kd.R_lower (base' := w.heap.size) (Kd.R_bound hv) (keep_size (by repeat (first | exact HK.out | apply KeepBut.set_ | apply keep_drewN | apply keep_drew | apply keep_alloc)))) (fun k hk => ⟨Nat.ne_of_gt (Nat.lt_of_lt_of_le HGS.out.1 hk.2.1), Nat.ne_of_gt (Nat.lt_of_lt_of_le HGS.out.2 hk.2.1), Nat.ne_of_lt hk.2.2.1⟩)) (.cells #[.string pred, .slice A1 l1.length c1, .slice none 0 0] 29)); have HBG := Aside0.mk (show wa.heap.size ≠ g ∧ w.heap.size < wa.heap.size ∧ ∀ k, L.ownBlock = some k → k ≠ wa.heap.size from ⟨Nat.ne_of_gt hya, hyb, fun k hk => Nat.ne_of_lt (hp.own_lt k hk)⟩); clear HP HK HB hv hp hk hb nz nk hya hyb; have HP := nHP; have HK := nHK; have HB := nHB; clear nHP nHK nHB; obtain ⟨p0, p1, p2, p3, p4, p5, p6, p7, pf⟩ := pc HP.out.1; clear p0 p1 p2 p3 p4 p5 p6; obtain ⟨y0, y1, y2, z0, z1, z2⟩ := cells3 HZ5.out))
    generalize wa.alloc (.cells #[.string pred, .slice A1 l1.length c1, .slice none 0 0] 29) = W at *
    generalize wa.heap.size = b at *
    by_cases h13 : (c.at_ i0).k = 13
    · rw [if_pos h13] at hr
      have HA2 := Aside0.mk (show bodyEnd c 256 (i0 + 1) [] pred l1 = r from hr)
      have hilt : i0 < c.T.length := lt_of_kind (by omega)
      have b13 : (((c.at_ i0).k : Int) == 13) = true := beq_iff_eq.2 (by omega)
      clear hr h13
      go_wp2_with (first | (go_at_call 54; (with_reducible refine (kind_calls (w0 := w0) (s := s) (L := L) (q := q) ?k1 HI1.out).mono ?_); (case k1 => repeat (first | exact HP.out | apply IsP.alloc | apply IsP.drewN | apply IsP.drew | apply IsP.step1)); rintro e wk ⟨rfl, ⟨nd, rfl⟩⟩))
      refine wp_scope_labels (RI w0 w g s L c q pred r b l1 (.slice A1 l1.length c1)) ?first ?pass
      case first =>
        intro J hJ hP
        have HPP := Aside0.mk hP
        clear hP hJ
        go_step
        go_wp2
        go_step3
        go_step
        go_step
        refine HPP.out 0 256 _ _ _ ?hI rfl
        refine ⟨i0 + 1, [], .slice none 0 0, ex_frame _ (RF w g b pred) rfl, rfl, rfl, by simp, by omega, HA2, ⟨?_⟩, ⟨?_⟩, ⟨?_⟩, ⟨?_⟩, ⟨?_⟩, ⟨?_⟩, ⟨?_⟩⟩
        · exact Kd.R_far (p := ⟨g, 7, none⟩) (Kd.R_drewN HV1.out nd) (fun _ h => h.1) _
        · exact Kd.R_nil _ _ _ _ _
        · exact blk_far (p := ⟨g, 7, none⟩) (blk_drewN HZ4.out nd) hne _
        · exact blk_far (p := ⟨g, 7, none⟩) (blk_drewN HZ5.out nd) HBG.out.1 _
        · exact (HP.out.drewN nd).step1
        · exact KeepBut.set_ (keep_drewN HK.out nd) 7 _
        · exact (pw_below_drewN HB.out nd).setCell HGE.out _
      case pass =>
        generalize Value.slice A1 l1.length c1 = v1 at *
        clear HA2 HI1 HV1 HZ4 HZ5 HP HK HB p7 pf y0 y1 y2 z0 z1 z2
        rintro l n a w1 ⟨i1, acc, v, ⟨u, rfl⟩, rfl, rfl, hacc, hi1, HA, HV1, HV, HZ4, HZ5, HP, HK, HB⟩
        obtain ⟨A, cc, rfl⟩ := Kd.R_slice HV.out
        have HI1 := Aside0.mk hi1
        refine ⟨_, rfl, fun J hJ0 => ?_⟩
        have hJ := Aside0.mk hJ0
        clear hJ0
        unfold RF
        dsimp only
        obtain ⟨m, hm⟩ : ∃ m, 256 - acc.length = m + 1 := ⟨255 - acc.length, by omega⟩
        have hA := HA.out
        rw [hm] at hA
        unfold bodyEnd bodyL at hA
        clear HA
        obtain ⟨y0, y1, y2, z0, z1, z2⟩ := cells3 HZ5.out
        cases ht : literalP c i1 with
        | error a =>
          rw [ht] at hA
          simp only at hA
          have HR := Aside0.mk hA
          have H := Aside0.mk ht
          clear hA ht
          go_upto_region 5 with (fail)
          go_region_with (first | (go_at_call 55; (with_reducible refine (literal_err (w0 := w0) (s := s) (L := L) (q := q) H.out ?l1 HI1.out ?l2).mono ?_); (case l1 => repeat (first | exact HP.out | apply IsP.alloc | apply IsP.drewN | apply IsP.drew | apply IsP.step1)); (case l2 => repeat (first | exact HB.out | apply below_alloc | apply pw_below_drewN | apply below_drew1 | refine below_set ?_ HGE.out)); rintro e w2 ⟨rfl, hk, hb⟩; have HKE := Aside0.mk (KeepBut.trans (by repeat (first | exact HK.out | apply KeepBut.set_ | apply keep_drewN | apply keep_drew | apply keep_alloc)) hk (.inl rfl)); have HBE := Aside0.mk hb; clear hk hb; dsimp only; refine by_none (w := w2) ⟨rfl, PEnd.of_err ⟨rfl, HKE.out, HBE.out⟩ HR.out.symm⟩ ?_))
          all_goals trivial
        | ok r1 =>
          obtain ⟨x, i2⟩ := r1
          rw [ht] at hA
          simp only at hA
          have HI := Aside0.mk (literalP_le ht).2
          have H := Aside0.mk ht
          clear ht
          have HAK := Aside0.mk (show ∀ k, w1.heap.size ≤ k → (k ≠ g ∧ k ≠ w.heap.size ∧ k ≠ b) ∧ some k ≠ (Value.slice A acc.length cc).ownBlock from fun k hk => ⟨⟨Nat.ne_of_gt (Nat.lt_of_lt_of_le HP.out.lt hk), Nat.ne_of_gt (Nat.lt_of_lt_of_le (blk_lt HZ4.out) hk), Nat.ne_of_gt (Nat.lt_of_lt_of_le (blk_lt HZ5.out) hk)⟩, fun e => by
            obtain ⟨inner, ho⟩ := Kd.R_own HV.out
            have := Go.Proofs.YtdodajpiidkglaaW.PrintWords.own_lt ho k e.symm
            omega⟩)
          go_upto_region 5 with (fail)
          go_cut [27] (fun v27 w4 => ∃ A3 c3 acc2, Aside0 (acc ++ [x] = acc2) ∧ Aside0 (acc2.length = acc.length + 1) ∧ Aside0 (Kd.R k61 61 w4 w.heap.size (fun k => k ≠ g ∧ k ≠ w.heap.size ∧ k ≠ b) v1 l1) ∧ Aside0 (Kd.R k63 63 w4 w.heap.size (fun k => k ≠ g ∧ k ≠ w.heap.size ∧ k ≠ b) (.slice A3 acc2.length c3) acc2) ∧
            Aside0 (w4.heap[w.heap.size]? = some (.cells #[.string ⟨#[]⟩, .slice none 0 0, .slice none 0 0] 29 (0, 0))) ∧ Aside0 (w4.heap[b]? = some (.cells #[.string pred, v1, .slice A3 acc2.length c3] 29 (0, 0))) ∧
            Aside0 (IsP w0 w4 g s L c i2 q) ∧ Aside0 (KeepBut w w4 g none) ∧ Aside0 (Below w0.heap.size w0 w4))
          case first =>
            go_region_law (first | (refine Kd.R_append_step k63 w.heap.size rfl (.tmp 23) (.tmp 26) 27 63 (.agg #[.int .i64 0, .string ⟨#[]⟩, .slice none 0 0, .bool false, .string ⟨#[]⟩, .bool false, .string ⟨#[]⟩]) 96 rfl Try.underlying27 info63 rfl (by decide) (by omega) (.slice A acc.length cc) acc x [.int .i64 x.f0, .string x.f1.f0, .slice Ax x.f1.f1.length cx, .bool x.f2.f0, .string x.f2.f1, .bool x.f3.f0, .string x.f3.f1] (fun k => k ≠ g ∧ k ≠ w.heap.size ∧ k ≠ b) (fun k => w1.heap.size ≤ k) rfl rfl ?aP ?aK ?aF ?aO (Below.refl _ _) ?aS ?aL ?_; (case aP => exact k63_mkM _ _ _ _ (Kd.R_lower HX.out HSZ.out.1)); (case aK => exact HAK.out); (case aF => intro k hk; exact (HAK.out k (Nat.le_trans HSZ.out.2 hk)).1); (case aO => exact HV.out); (case aS => exact HK.out.1); (case aL => omega); intro v3 w3 ho hb hg hat; generalize hq : acc ++ [x] = acc2 at ho; have HQ := Aside0.mk hq; have HL := Aside0.mk (show acc2.length = acc.length + 1 by rw [← hq]; simp); clear hq; have nHV1 := Aside0.mk (Kd.R_mono (Kd.R_grown (Kd.R_apartR HV1.out HV.out (by decide)) hg (fun k hk => hk.2)) (fun k hk => hk.1)); have nHZ4 := Aside0.mk (blk_grown HZ4.out hg (fun e => (HV.out.1 _ e.symm).2.1 rfl)); have nHZ5 := Aside0.mk (blk_grown HZ5.out hg (fun e => (HV.out.1 _ e.symm).2.2 rfl)); have nHP := Aside0.mk (HP.out.grown hg (row_base HV.out) hgl hol.out); have nHK := Aside0.mk (KeepBut.trans HK.out (KeepBut.of_grown hg g) (Kd.R_base2 HV.out)); have nHB := Aside0.mk (below_weaken HB.out hge hb); have nHV := Aside0.mk (ho); clear HV1 HZ4 HZ5 HP HK HB HV; have HV1 := nHV1; have HZ4 := nHZ4; have HZ5 := nHZ5; have HP := nHP; have HK := nHK; have HB := nHB; have HV := nHV; clear nHV1 nHZ4 nHZ5 nHP nHK nHB nHV; clear ho hb hg hat HX HAK; obtain ⟨A3, c3, rfl⟩ := Kd.R_slice HV.out; obtain ⟨y0, y1, y2, z0, z1, z2⟩ := cells3 HZ5.out; have hbl := blk_lt HZ5.out) | (go_simp; go_wp2_with (first | (go_at_call 55; (with_reducible refine (literal_ok (w0 := w0) (s := s) (L := L) (q := q) H.out ?l1 HI1.out ?l2).mono ?_); (case l1 => repeat (first | exact HP.out | apply IsP.alloc | apply IsP.drewN | apply IsP.drew | apply IsP.step1)); (case l2 => repeat (first | exact HB.out | apply below_alloc | apply pw_below_drewN | apply below_drew1 | refine below_set ?_ HGE.out)); rintro e w2 ⟨Ax, cx, rfl, hx, hp, hk, hb⟩; have nHZ4 := Aside0.mk (KeepBut.blk (o := .cells #[.string ⟨#[]⟩, .slice none 0 0, .slice none 0 0] 29 (0, 0)) hk (by repeat (first | exact HZ4.out | refine blk_alloc ?_ _ | refine blk_drewN ?_ _ | refine blk_drew ?_)) hne (by simp)); have nHZ5 := Aside0.mk (KeepBut.blk (o := .cells #[.string pred, v1, .slice A acc.length cc] 29 (0, 0)) hk (by repeat (first | exact HZ5.out | refine blk_alloc ?_ _ | refine blk_drewN ?_ _ | refine blk_drew ?_)) HBG.out.1 (by simp)); have nHV := Aside0.mk (Kd.R_keep (ok := fun k => k ≠ g ∧ k ≠ w.heap.size ∧ k ≠ b) (by repeat (first | exact HV.out | refine Kd.R_drewN ?_ _ | refine Kd.R_drew ?_ | refine Kd.R_alloc ?_ _)) hk (fun _ h => h.1)); have nHV1 := Aside0.mk (Kd.R_keep (ok := fun k => k ≠ g ∧ k ≠ w.heap.size ∧ k ≠ b) (by repeat (first | exact HV1.out | refine Kd.R_drewN ?_ _ | refine Kd.R_drew ?_ | refine Kd.R_alloc ?_ _)) hk (fun _ h => h.1)); have nHK := Aside0.mk (KeepBut.trans (by repeat (first | exact HK.out | apply KeepBut.set_ | apply keep_drewN | apply keep_drew | apply keep_alloc)) hk (.inl rfl)); have nHB := Aside0.mk (hb); have nHP := Aside0.mk (hp); have HX := Aside0.mk (Kd.R_mono (ok' := fun k => w1.heap.size ≤ k) (Kd.R_bound hx) (fun k h => h.2.1)); have HX := Aside0.mk (Kd.R_lower (base' := w1.heap.size) HX.out (Nat.le_refl _)); have HSZ := Aside0.mk (show w.heap.size ≤ w1.heap.size ∧ w1.heap.size ≤ w2.heap.size from ⟨HK.out.1, hk.1⟩); clear hx; clear hk hb hp; clear HZ4 HZ5 HV HV1 HK HB HP; have HZ4 := nHZ4; have HZ5 := nHZ5; have HV := nHV; have HV1 := nHV1; have HK := nHK; have HB := nHB; have HP := nHP; clear nHZ4 nHZ5 nHV nHV1 nHK nHB nHP; obtain ⟨x0, x1, x2, q0, q1, q2⟩ := cells3 HZ5.out; have hxl := blk_lt HZ5.out))))
            all_goals (have nHZ5 := Aside0.mk (blk_put (cs' := #[.string pred, v1, .slice A3 acc2.length c3]) HZ5.out 2 (.slice A3 acc2.length c3) rfl); have nHZ4 := Aside0.mk (blk_far (p := ⟨b, 2, none⟩) HZ4.out (Nat.ne_of_lt HBG.out.2.1) (.slice A3 acc2.length c3)); have nHV1 := Aside0.mk (Kd.R_far (p := ⟨b, 2, none⟩) HV1.out (fun _ h => h.2.2) (.slice A3 acc2.length c3)); have nHV := Aside0.mk (Kd.R_far (p := ⟨b, 2, none⟩) HV.out (fun _ h => h.2.2) (.slice A3 acc2.length c3)); have nHP := Aside0.mk (HP.out.far_ (p := ⟨b, 2, none⟩) HBG.out.1 HBG.out.2.2 (.slice A3 acc2.length c3)); have nHK := Aside0.mk (keep_new (p := ⟨b, 2, none⟩) HK.out (Nat.le_of_lt HBG.out.2.1) (.slice A3 acc2.length c3)); have nHB := Aside0.mk (HB.out.setCell (p := ⟨b, 2, none⟩) (Nat.le_trans hge (Nat.le_of_lt HBG.out.2.1)) (.slice A3 acc2.length c3)); clear HZ5 HZ4 HV1 HV HP HK HB; have HZ5 := nHZ5; have HZ4 := nHZ4; have HV1 := nHV1; have HV := nHV; have HP := nHP; have HK := nHK; have HB := nHB; clear nHZ5 nHZ4 nHV1 nHV nHP nHK nHB; go_step; go_step; go_meet; exact ⟨A3, c3, acc2, HQ, HL, HV1, HV, HZ4, HZ5, HP, HK, HB⟩)
          case rest =>
          obtain ⟨A3, c3, acc2, HQ, HL, HV1, HV, HZ4, HZ5, HP, HK, HB⟩ := hcut
          obtain ⟨p0, p1, p2, p3, p4, p5, p6, p7, pf⟩ := pc HP.out.1
          obtain ⟨y0, y1, y2, z0, z1, z2⟩ := cells3 HZ5.out
          clear p0 p1 p2 p3 p4 p5 p6
          rw [HQ.out] at hA
          have hl := HL.out
          by_cases hgo : (c.at_ i2).k = 10 ∧ m ≠ 0
          · rw [if_pos hgo] at hA
            have HR := Aside0.mk hA
            have hilt : i2 < c.T.length := lt_of_kind (by omega)
            have b10 : (((c.at_ i2).k : Int) == 10) = true := beq_iff_eq.2 (by omega)
            have bl : decide ((acc2.length : Int) < 256) = true := decide_eq_true (by omega)
            have hm2 := Aside0.mk (show 256 - acc2.length = m ∧ acc2.length < 256 by omega)
            have hm3 := Aside0.mk (show 256 - acc2.length < 256 - acc.length by omega)
            clear hA hl hgo hm hacc
            go_wp2_with (first | (go_at_call 54; (with_reducible refine (kind_calls (w0 := w0) (s := s) (L := L) (q := q) ?k1 HI.out).mono ?_); (case k1 => repeat (first | exact HP.out | apply IsP.alloc | apply IsP.drewN | apply IsP.drew | apply IsP.step1)); rintro e wk ⟨rfl, ⟨nd, rfl⟩⟩))
            go_step3
            show J 0 _ _
            refine hJ.out 0 (256 - acc2.length) _ _ hm3.out ⟨i2 + 1, acc2, .slice A3 acc2.length c3, ex_frame _ (RF w g b pred) rfl, rfl, rfl, hm2.out.2, by omega, ⟨?_⟩, ⟨?_⟩, ⟨?_⟩, ⟨?_⟩, ⟨?_⟩, ⟨?_⟩, ⟨?_⟩, ⟨?_⟩⟩
            · rw [hm2.out.1]; unfold bodyEnd; exact HR.out
            · exact Kd.R_far (p := ⟨g, 7, none⟩) (Kd.R_drewN HV1.out nd) (fun _ h => h.1) _
            · exact Kd.R_far (p := ⟨g, 7, none⟩) (Kd.R_drewN HV.out nd) (fun _ h => h.1) _
            · exact blk_far (p := ⟨g, 7, none⟩) (blk_drewN HZ4.out nd) hne _
            · exact blk_far (p := ⟨g, 7, none⟩) (blk_drewN HZ5.out nd) HBG.out.1 _
            · exact (HP.out.drewN nd).step1
            · exact KeepBut.set_ (keep_drewN HK.out nd) 7 _
            · exact (pw_below_drewN HB.out nd).setCell HGE.out _
          · rw [if_neg hgo] at hA
            simp only at hA
            by_cases hk : (c.at_ i2).k = 10
            · have b10 : (((c.at_ i2).k : Int) == 10) = true := beq_iff_eq.2 (by omega)
              have bl : decide ((acc2.length : Int) < 256) = false := decide_eq_false (fun h => hgo ⟨hk, by omega⟩)
              clear hk hl hgo hm hacc
              cases htk : takeP c i2 [11] with
              | error a =>
                rw [htk] at hA
                simp only at hA
                have HR := Aside0.mk hA
                have HT := Aside0.mk htk
                clear hA htk
                go_wp2_with (first | (go_at_call 54; (with_reducible refine (kind_calls (w0 := w0) (s := s) (L := L) (q := q) ?k1 HI.out).mono ?_); (case k1 => repeat (first | exact HP.out | apply IsP.alloc | apply IsP.drewN | apply IsP.drew | apply IsP.step1)); rintro e wk ⟨rfl, ⟨nd, rfl⟩⟩))
                rw [jumps_normal]
                go_step
                clear hJ
                go_wp2_with (fail)
                go_wp2_with (first | (go_at_call 30; (with_reducible refine (take_err (w0 := w0) (s := s) (L := L) (q := q) (h := HT.out) ?h1 ?h2 ?h3 ?h4 ?h5 ?h6).mono ?_); (case h1 => repeat (first | exact HP.out | apply IsP.alloc | apply IsP.drewN | apply IsP.drew | apply IsP.step1)); (case h2 => exact HI.out); (case h3 => repeat (first | exact HB.out | apply below_alloc | apply pw_below_drewN | apply below_drew1 | refine below_set ?_ HGE.out)); (case h4 => repeat (first | exact Wants.of_new (by simp) rfl rfl | apply Wants.drewN)); (case h5 => decide); (case h6 => decide); rintro e w2 ⟨rfl, hk, hb⟩; have HKE := Aside0.mk (KeepBut.trans (by repeat (first | exact HK.out | apply KeepBut.set_ | apply keep_drewN | apply keep_drew | apply keep_alloc)) hk (.inl rfl)); have HBE := Aside0.mk hb; clear hk hb))
                exact ⟨rfl, PEnd.of_err ⟨rfl, HKE.out, HBE.out⟩ HR.out.symm⟩
              | ok r2 =>
                obtain ⟨t, i3⟩ := r2
                rw [htk] at hA
                simp only at hA
                have HR := Aside0.mk hA
                have HT := Aside0.mk htk
                clear hA htk
                go_wp2_with (first | (go_at_call 54; (with_reducible refine (kind_calls (w0 := w0) (s := s) (L := L) (q := q) ?k1 HI.out).mono ?_); (case k1 => repeat (first | exact HP.out | apply IsP.alloc | apply IsP.drewN | apply IsP.drew | apply IsP.step1)); rintro e wk ⟨rfl, ⟨nd, rfl⟩⟩))
                rw [jumps_normal]
                go_step
                clear hJ
                obtain ⟨A1, c1, rfl⟩ := Kd.R_slice HV1.out
                go_wp2_with (fail)
                go_wp2_with (first | (go_at_call 30; (with_reducible refine (take_ok (w0 := w0) (s := s) (L := L) (q := q) (h := HT.out) ?h1 ?h2 ?h3 ?h4 ?h5 ?h6).mono ?_); (case h1 => repeat (first | exact HP.out | apply IsP.alloc | apply IsP.drewN | apply IsP.drew | apply IsP.step1)); (case h2 => exact HI.out); (case h3 => repeat (first | exact HB.out | apply below_alloc | apply pw_below_drewN | apply below_drew1 | refine below_set ?_ HGE.out)); (case h4 => repeat (first | exact Wants.of_new (by simp) rfl rfl | apply Wants.drewN)); (case h5 => decide); (case h6 => decide); rintro e w5 ⟨rfl, hp, hk, hb⟩; have nHZ4 := Aside0.mk (KeepBut.blk (o := .cells #[.string ⟨#[]⟩, .slice none 0 0, .slice none 0 0] 29 (0, 0)) hk (by repeat (first | exact HZ4.out | refine blk_alloc ?_ _ | refine blk_drewN ?_ _ | refine blk_drew ?_)) hne (by simp)); have nHZ5 := Aside0.mk (KeepBut.blk (o := .cells #[.string pred, .slice A1 l1.length c1, .slice A3 acc2.length c3] 29 (0, 0)) hk (by repeat (first | exact HZ5.out | refine blk_alloc ?_ _ | refine blk_drewN ?_ _ | refine blk_drew ?_)) HBG.out.1 (by simp)); have nHV := Aside0.mk (Kd.R_keep (ok := fun k => k ≠ g ∧ k ≠ w.heap.size ∧ k ≠ b) (Kd.R_alloc (Kd.R_drewN HV.out _) _) hk (fun _ h => h.1)); have nHV1 := Aside0.mk (Kd.R_keep (ok := fun k => k ≠ g ∧ k ≠ w.heap.size ∧ k ≠ b) (Kd.R_alloc (Kd.R_drewN HV1.out _) _) hk (fun _ h => h.1)); have nHK := Aside0.mk (KeepBut.trans (by repeat (first | exact HK.out | apply KeepBut.set_ | apply keep_drewN | apply keep_drew | apply keep_alloc)) hk (.inl rfl)); have nHB := Aside0.mk (hb); have nHP := Aside0.mk (hp);  clear hk hb hp; clear HZ4 HZ5 HV HV1 HK HB HP; have HZ4 := nHZ4; have HZ5 := nHZ5; have HV := nHV; have HV1 := nHV1; have HK := nHK; have HB := nHB; have HP := nHP; clear nHZ4 nHZ5 nHV nHV1 nHK nHB nHP; obtain ⟨y0, y1, y2, z0, z1, z2⟩ := cells3 HZ5.out; obtain ⟨d0, d1, d2, e0, e1, e2⟩ := cells3 HZ4.out; have hbl := blk_lt HZ5.out; have hdl := blk_lt HZ4.out))
                exact bodyPost_ret (results_single rfl (.cell w.heap.size 29 _ (0, 0) _ rfl (blk3 HZ4.out) Try.underlying29 rfl info29s .nil)) rfl (PEnd.of_ok ⟨_, rfl, ruleR_mk (x := ⟨⟨pred, l1⟩, acc2⟩) (Kd.R_mono (R3 HV1.out (fun k hk => hk.2.1) _ _ _) (fun _ _ => trivial)) (Kd.R_mono (R3 HV.out (fun k hk => hk.2.1) _ _ _) (fun _ _ => trivial)), isP3 HP.out hne (fun k hk => Nat.ne_of_lt (hol.out k hk)) _ _ _, keep3 HK.out (Nat.le_refl _) _ _ _, below3 HB.out hge _ _ _⟩ HR.out.symm)
            · have b10 : (((c.at_ i2).k : Int) == 10) = false := beq_eq_false_iff_ne.2 (by omega)
              clear hk hl hgo hm hacc
              cases htk : takeP c i2 [11] with
              | error a =>
                rw [htk] at hA
                simp only at hA
                have HR := Aside0.mk hA
                have HT := Aside0.mk htk
                clear hA htk
                go_wp2_with (first | (go_at_call 54; (with_reducible refine (kind_calls (w0 := w0) (s := s) (L := L) (q := q) ?k1 HI.out).mono ?_); (case k1 => repeat (first | exact HP.out | apply IsP.alloc | apply IsP.drewN | apply IsP.drew | apply IsP.step1)); rintro e wk ⟨rfl, ⟨nd, rfl⟩⟩))
                rw [jumps_normal]
                go_step
                clear hJ
                go_wp2_with (fail)
                go_wp2_with (first | (go_at_call 30; (with_reducible refine (take_err (w0 := w0) (s := s) (L := L) (q := q) (h := HT.out) ?h1 ?h2 ?h3 ?h4 ?h5 ?h6).mono ?_); (case h1 => repeat (first | exact HP.out | apply IsP.alloc | apply IsP.drewN | apply IsP.drew | apply IsP.step1)); (case h2 => exact HI.out); (case h3 => repeat (first | exact HB.out | apply below_alloc | apply pw_below_drewN | apply below_drew1 | refine below_set ?_ HGE.out)); (case h4 => repeat (first | exact Wants.of_new (by simp) rfl rfl | apply Wants.drewN)); (case h5 => decide); (case h6 => decide); rintro e w2 ⟨rfl, hk, hb⟩; have HKE := Aside0.mk (KeepBut.trans (by repeat (first | exact HK.out | apply KeepBut.set_ | apply keep_drewN | apply keep_drew | apply keep_alloc)) hk (.inl rfl)); have HBE := Aside0.mk hb; clear hk hb))
                exact ⟨rfl, PEnd.of_err ⟨rfl, HKE.out, HBE.out⟩ HR.out.symm⟩
              | ok r2 =>
                obtain ⟨t, i3⟩ := r2
                rw [htk] at hA
                simp only at hA
                have HR := Aside0.mk hA
                have HT := Aside0.mk htk
                clear hA htk
                go_wp2_with (first | (go_at_call 54; (with_reducible refine (kind_calls (w0 := w0) (s := s) (L := L) (q := q) ?k1 HI.out).mono ?_); (case k1 => repeat (first | exact HP.out | apply IsP.alloc | apply IsP.drewN | apply IsP.drew | apply IsP.step1)); rintro e wk ⟨rfl, ⟨nd, rfl⟩⟩))
                rw [jumps_normal]
                go_step
                clear hJ
                obtain ⟨A1, c1, rfl⟩ := Kd.R_slice HV1.out
                go_wp2_with (fail)
                go_wp2_with (first | (go_at_call 30; (with_reducible refine (take_ok (w0 := w0) (s := s) (L := L) (q := q) (h := HT.out) ?h1 ?h2 ?h3 ?h4 ?h5 ?h6).mono ?_); (case h1 => repeat (first | exact HP.out | apply IsP.alloc | apply IsP.drewN | apply IsP.drew | apply IsP.step1)); (case h2 => exact HI.out); (case h3 => repeat (first | exact HB.out | apply below_alloc | apply pw_below_drewN | apply below_drew1 | refine below_set ?_ HGE.out)); (case h4 => repeat (first | exact Wants.of_new (by simp) rfl rfl | apply Wants.drewN)); (case h5 => decide); (case h6 => decide); rintro e w5 ⟨rfl, hp, hk, hb⟩; have nHZ4 := Aside0.mk (KeepBut.blk (o := .cells #[.string ⟨#[]⟩, .slice none 0 0, .slice none 0 0] 29 (0, 0)) hk (by repeat (first | exact HZ4.out | refine blk_alloc ?_ _ | refine blk_drewN ?_ _ | refine blk_drew ?_)) hne (by simp)); have nHZ5 := Aside0.mk (KeepBut.blk (o := .cells #[.string pred, .slice A1 l1.length c1, .slice A3 acc2.length c3] 29 (0, 0)) hk (by repeat (first | exact HZ5.out | refine blk_alloc ?_ _ | refine blk_drewN ?_ _ | refine blk_drew ?_)) HBG.out.1 (by simp)); have nHV := Aside0.mk (Kd.R_keep (ok := fun k => k ≠ g ∧ k ≠ w.heap.size ∧ k ≠ b) (Kd.R_alloc (Kd.R_drewN HV.out _) _) hk (fun _ h => h.1)); have nHV1 := Aside0.mk (Kd.R_keep (ok := fun k => k ≠ g ∧ k ≠ w.heap.size ∧ k ≠ b) (Kd.R_alloc (Kd.R_drewN HV1.out _) _) hk (fun _ h => h.1)); have nHK := Aside0.mk (KeepBut.trans (by repeat (first | exact HK.out | apply KeepBut.set_ | apply keep_drewN | apply keep_drew | apply keep_alloc)) hk (.inl rfl)); have nHB := Aside0.mk (hb); have nHP := Aside0.mk (hp);  clear hk hb hp; clear HZ4 HZ5 HV HV1 HK HB HP; have HZ4 := nHZ4; have HZ5 := nHZ5; have HV := nHV; have HV1 := nHV1; have HK := nHK; have HB := nHB; have HP := nHP; clear nHZ4 nHZ5 nHV nHV1 nHK nHB nHP; obtain ⟨y0, y1, y2, z0, z1, z2⟩ := cells3 HZ5.out; obtain ⟨d0, d1, d2, e0, e1, e2⟩ := cells3 HZ4.out; have hbl := blk_lt HZ5.out; have hdl := blk_lt HZ4.out))
                exact bodyPost_ret (results_single rfl (.cell w.heap.size 29 _ (0, 0) _ rfl (blk3 HZ4.out) Try.underlying29 rfl info29s .nil)) rfl (PEnd.of_ok ⟨_, rfl, ruleR_mk (x := ⟨⟨pred, l1⟩, acc2⟩) (Kd.R_mono (R3 HV1.out (fun k hk => hk.2.1) _ _ _) (fun _ _ => trivial)) (Kd.R_mono (R3 HV.out (fun k hk => hk.2.1) _ _ _) (fun _ _ => trivial)), isP3 HP.out hne (fun k hk => Nat.ne_of_lt (hol.out k hk)) _ _ _, keep3 HK.out (Nat.le_refl _) _ _ _, below3 HB.out hge _ _ _⟩ HR.out.symm)
    · rw [if_neg h13] at hr
      have b13 : (((c.at_ i0).k : Int) == 13) = false := beq_eq_false_iff_ne.2 (by omega)
      by_cases h11 : (c.at_ i0).k = 11
      · rw [if_pos h11] at hr
        have htk : takeP c i0 [11] = .ok (c.at_ i0, i0 + 1) := by unfold takeP; rw [if_pos (by rw [h11]; decide)]
        have HT := Aside0.mk htk
        have HR := Aside0.mk hr
        have b11 : (((c.at_ i0).k : Int) != 11) = false := bne_eq_false_iff_eq.2 (by omega)
        clear hr h13 h11 htk
        go_wp2_with (first | (go_at_call 54; (with_reducible refine (kind_calls (w0 := w0) (s := s) (L := L) (q := q) ?k1 HI1.out).mono ?_); (case k1 => repeat (first | exact HP.out | apply IsP.alloc | apply IsP.drewN | apply IsP.drew | apply IsP.step1)); rintro e wk ⟨rfl, ⟨nd, rfl⟩⟩) | (go_at_call 30; (with_reducible refine (take_ok (w0 := w0) (s := s) (L := L) (q := q) (h := HT.out) ?h1 ?h2 ?h3 ?h4 ?h5 ?h6).mono ?_); (case h1 => repeat (first | exact HP.out | apply IsP.alloc | apply IsP.drewN | apply IsP.drew | apply IsP.step1)); (case h2 => exact HI1.out); (case h3 => repeat (first | exact HB.out | apply below_alloc | apply pw_below_drewN | apply below_drew1 | refine below_set ?_ HGE.out)); (case h4 => repeat (first | exact Wants.of_new (by simp) rfl rfl | apply Wants.drewN)); (case h5 => decide); (case h6 => decide); rintro e w5 ⟨rfl, hp, hk, hb⟩; have nHZ4 := Aside0.mk (KeepBut.blk (o := .cells #[.string ⟨#[]⟩, .slice none 0 0, .slice none 0 0] 29 (0, 0)) hk (by repeat (first | exact HZ4.out | refine blk_alloc ?_ _ | refine blk_drewN ?_ _ | refine blk_drew ?_)) hne (by simp)); have nHZ5 := Aside0.mk (KeepBut.blk (o := .cells #[.string pred, .slice A1 l1.length c1, .slice none 0 0] 29 (0, 0)) hk (by repeat (first | exact HZ5.out | refine blk_alloc ?_ _ | refine blk_drewN ?_ _ | refine blk_drew ?_)) HBG.out.1 (by simp)); have nHV1 := Aside0.mk (Kd.R_keep (ok := fun k => k ≠ g ∧ k ≠ w.heap.size ∧ k ≠ b) (Kd.R_alloc (Kd.R_drewN HV1.out _) _) hk (fun _ h => h.1)); have nHK := Aside0.mk (KeepBut.trans (by repeat (first | exact HK.out | apply KeepBut.set_ | apply keep_drewN | apply keep_drew | apply keep_alloc)) hk (.inl rfl)); have nHB := Aside0.mk (hb); have nHP := Aside0.mk (hp);  clear hk hb hp; clear HZ4 HZ5 HV1 HK HB HP; have HZ4 := nHZ4; have HZ5 := nHZ5; have HV1 := nHV1; have HK := nHK; have HB := nHB; have HP := nHP; clear nHZ4 nHZ5 nHV1 nHK nHB nHP; obtain ⟨y0, y1, y2, z0, z1, z2⟩ := cells3 HZ5.out; obtain ⟨d0, d1, d2, e0, e1, e2⟩ := cells3 HZ4.out; have hbl := blk_lt HZ5.out; have hdl := blk_lt HZ4.out; have HV := Aside0.mk (Kd.R_nil k63 63 w5 w.heap.size (fun k => k ≠ g ∧ k ≠ w.heap.size ∧ k ≠ b))))
        exact bodyPost_ret (results_single rfl (.cell w.heap.size 29 _ (0, 0) _ rfl (blk3 HZ4.out) Try.underlying29 rfl info29s .nil)) rfl (PEnd.of_ok ⟨_, rfl, ruleR_mk (x := ⟨⟨pred, l1⟩, ([] : List S63)⟩) (Kd.R_mono (R3 HV1.out (fun k hk => hk.2.1) _ _ _) (fun _ _ => trivial)) (Kd.R_mono (R3 HV.out (fun k hk => hk.2.1) _ _ _) (fun _ _ => trivial)), isP3 HP.out hne (fun k hk => Nat.ne_of_lt (hol.out k hk)) _ _ _, keep3 HK.out (Nat.le_refl _) _ _ _, below3 HB.out hge _ _ _⟩ HR.out.symm)
      · rw [if_neg h11] at hr
        have HR := Aside0.mk hr
        have b11 : (((c.at_ i0).k : Int) != 11) = true := bne_iff_ne.2 (by omega)
        clear hr h13 h11
        go_wp2_with (first | (go_at_call 54; (with_reducible refine (kind_calls (w0 := w0) (s := s) (L := L) (q := q) ?k1 HI1.out).mono ?_); (case k1 => repeat (first | exact HP.out | apply IsP.alloc | apply IsP.drewN | apply IsP.drew | apply IsP.step1)); rintro e wk ⟨rfl, ⟨nd, rfl⟩⟩) | (go_at_call 31; (with_reducible refine (stop_calls (w0 := w0) (s := s) (L := L) (q := q) (wl := [11, 13]) ?s1 HI1.out ?s2 ?s3).mono ?_); (case s1 => repeat (first | exact HP.out | apply IsP.alloc | apply IsP.drewN | apply IsP.drew | apply IsP.step1)); (case s2 => repeat (first | exact Wants.of_new (by simp) rfl rfl | apply Wants.drewN)); (case s3 => decide); rintro e w2 ⟨rfl, hb⟩; have HKE := Aside0.mk (KeepBut.trans (by repeat (first | exact HK.out | apply KeepBut.set_ | apply keep_drewN | apply keep_drew | apply keep_alloc)) (KeepBut.of_below hb g none) (.inl rfl)); have HBE := Aside0.mk (below_step (by repeat (first | exact HB.out | apply below_alloc | apply pw_below_drewN | apply below_drew1 | refine below_set ?_ HGE.out)) hb); clear hb; simp only [faultE]))
        exact ⟨rfl, PEnd.of_err ⟨rfl, HKE.out, HBE.out⟩ HR.out.symm⟩
end Go.Proofs.Ytdodajpiidkglaa.K
