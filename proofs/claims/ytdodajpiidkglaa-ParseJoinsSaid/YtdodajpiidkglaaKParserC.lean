/- (*parser).kind, stop, take, term: the walks. Conditions: the parser lies in memory as 'IsP' says. (*parser).take, term: the walks. Conditions: the parser lies in memory as 'IsP' says. (*parser).term, args: the walks. Conditions: the parser lies in memory as 'IsP' says. -/
import Derived.Test.YtdodajpiidkglaaKParserState
import Derived.WalkLawsBesides
import Derived.BigRegion
namespace Go.Proofs.Ytdodajpiidkglaa.K
open Go.RowKit Go.Proofs.YtdodajpiidkglaaW.PrintWords Go.Proofs.YtdodajpiidkglaaW.PrintLast Go.Proofs.YtdodajpiidkglaaW.PrintMore Go.Proofs.Ytdodajpiidkglaa.PAll
set_option linter.unusedVariables false
set_option linter.unusedSimpArgs false

set_option maxHeartbeats 4000000 in
set_option maxRecDepth 100000 in
theorem kind_calls {w0 w : World} {g : Nat} {s : ByteArray} {L : Value} {c : Src} {i : Nat} {q : List Value} (hp : IsP w0 w g s L c i q) (hi : i ≤ c.T.length) :
    Calls Try.prog 54 #[.pointer (some ⟨g, 0, none⟩)] w fun e w' => e = .returned (.int .i64 ((c.at_ i).k : Int)) ∧ Drawn0 w w' := by
  have hlen := hp.2.2.2
  obtain ⟨A, cc, rfl, hC⟩ := hp.tokens
  obtain ⟨p0, p1, p2, p3, p4, p5, p6, p7, pf⟩ := pc hp.1
  by_cases hlt : i < c.T.length
  · obtain ⟨ad, rfl, t0, t1, t2, t3⟩ := at_T71 hC i hlt
    have hd : decide ((i : Int) < (c.T.length : Int)) = true := decide_eq_true (by omega)
    clear hp hC
    go_enter Try.func54, Try.ntmps54
    go_wp2
    go_quiet (fail)
    go_wp2
    go_quiet (fail)
    go_wp2
    go_ret
    exact ⟨rfl, by repeat (first | exact Drawn0.refl _ | apply Drawn0.step)⟩
  · have hk := at_kind (c := c) (i := i) (by omega)
    have HK := Aside0.mk hk
    have hd : decide ((i : Int) < (c.T.length : Int)) = false := decide_eq_false (by omega)
    clear hp hC hk
    go_enter Try.func54, Try.ntmps54
    go_wp2
    go_quiet (fail)
    go_wp2
    go_ret
    exact ⟨by rw [HK.out]; rfl, by repeat (first | exact Drawn0.refl _ | apply Drawn0.step)⟩
theorem cell_lt {W : World} {a : Addr} {u : Value} (h : W.cell? a = some u) : a.block < W.heap.size := by
  rcases Nat.lt_or_ge a.block W.heap.size with h1 | h1
  · exact h1
  · exfalso
    have : W.heap[a.block]? = none := Array.getElem?_eq_none h1
    simp [World.cell?, this] at h
theorem contains_getD {wl : List Nat} {k : Nat} (h : wl.contains k = true) : ∃ m, m < wl.length ∧ wl.getD m 0 = k := by
  rw [List.contains_iff_mem] at h
  obtain ⟨m, hm, e⟩ := List.getElem_of_mem h
  exact ⟨m, hm, by rw [List.getD_eq_getElem?_getD, List.getElem?_eq_getElem hm]; exact e⟩
theorem contains_of {wl : List Nat} {k m : Nat} (hm : m < wl.length) (h : wl.getD m 0 = k) : wl.contains k = true := by
  rw [List.contains_iff_mem, ← h, List.getD_eq_getElem?_getD, List.getElem?_eq_getElem hm]
  exact List.getElem_mem hm
theorem contains_no {wl : List Nat} {k : Nat} (h : ∀ m, m < wl.length → wl.getD m 0 ≠ k) : wl.contains k = false := by
  cases hc : wl.contains k with
  | false => rfl
  | true =>
    obtain ⟨m, hm, e⟩ := contains_getD hc
    exact absurd e (h m hm)

set_option maxHeartbeats 4000000 in
set_option maxRecDepth 100000 in
theorem stop_end {w0 w : World} {g : Nat} {s : ByteArray} {L : Value} {c : Src} {i : Nat} {q : List Value} {v : Value} {wl : List Nat} (hp : IsP w0 w g s L c i q) (hi : i = c.T.length) (hw : Wants w v wl) (hwl : wl.length ≤ 100) :
    Calls Try.prog 31 #[.pointer (some ⟨g, 0, none⟩), v] w fun e w' => e = faultE (stopP c i wl) ∧ Below w.heap.size w w' := by
  have hlen := hp.2.2.2
  obtain ⟨A, cc, rfl, hC⟩ := hp.tokens
  obtain ⟨p0, p1, p2, p3, p4, p5, p6, p7, pf⟩ := pc hp.1
  obtain ⟨A2, c2, rfl, hW⟩ := hw
  have HW := Aside0.mk hW
  have hd : ((i : Int) == (c.T.length : Int)) = true := beq_iff_eq.2 (by omega)
  clear hp hC hW
  by_cases h0 : c.o.k = 0
  · have HS := Aside0.mk (show stopP c i wl = c.far from by unfold stopP; rw [if_pos hi, if_pos h0])
    have ho : ((c.o.k : Int) == 0) = true := beq_iff_eq.2 (by omega)
    clear hi h0
    go_enter Try.func31, Try.ntmps31
    go_wp2
    go_quiet (fail)
    go_wp2
    exact ⟨rfl, by rw [HS.out]; rfl, by repeat (first | exact Below.refl _ _ | apply pw_below_drewN | apply below_drew1)⟩
  · have HS := Aside0.mk (show stopP c i wl = if wl.contains c.o.k then c.far else c.o.a from by unfold stopP; rw [if_pos hi, if_neg h0])
    have ho : ((c.o.k : Int) == 0) = false := beq_eq_false_iff_ne.2 (by omega)
    clear hi h0
    go_enter Try.func31, Try.ntmps31
    go_wp2
    go_quiet (fail)
    go_wp2
    go_loopg [33] wl.length (fun n v33 wc => ∃ j : Nat, j + n = wl.length ∧ v33 = .int .i64 (j : Int) ∧ Aside0 (∀ m, m < j → wl.getD m 0 ≠ c.o.k) ∧ ∃ nq, wc = w.drewN nq)
    case atStart => exact ⟨0, by omega, rfl, ⟨fun m hm => absurd hm (by omega)⟩, by first | exact ⟨_, rfl⟩ | exact ⟨1, rfl⟩⟩
    case round =>
      obtain ⟨j, hj, rfl, HN, nq, rfl⟩ := hrel
      by_cases hjl : j < wl.length
      · have hjb : decide ((j : Int) < (wl.length : Int)) = true := decide_eq_true (by omega)
        obtain ⟨ad, rfl, hc⟩ := HW.out j hjl
        by_cases hk : wl.getD j 0 = c.o.k
        · have hkb : (((wl.getD j 0 : Nat) : Int) == (c.o.k : Int)) = true := beq_iff_eq.2 (by omega)
          have HS2 := Aside0.mk (show stopP c i wl = c.far from by rw [HS.out, if_pos (contains_of hjl hk)])
          clear hk
          generalize wl.getD j 0 = wj at hc hkb
          go_wp2
          exact ⟨rfl, by rw [HS2.out]; rfl, by repeat (first | exact Below.refl _ _ | apply pw_below_drewN | apply below_drew1)⟩
        · have hkb : (((wl.getD j 0 : Nat) : Int) == (c.o.k : Int)) = false := beq_eq_false_iff_ne.2 (by omega)
          have HN2 := Aside0.mk (show ∀ m, m < j + 1 → wl.getD m 0 ≠ c.o.k from fun m hm => by
            by_cases e : m = j
            · rw [e]; exact hk
            · exact HN.out m (by omega))
          clear hk
          generalize wl.getD j 0 = wj at hc hkb
          go_wp2
          go_roundg (wl.length - (j + 1))
          case measure => omega
          case rel => exact ⟨j + 1, by omega, by go_num, HN2, nq, rfl⟩
      · have hjb : decide ((j : Int) < (wl.length : Int)) = false := decide_eq_false (by omega)
        have HS2 := Aside0.mk (show stopP c i wl = c.o.a from by rw [HS.out, contains_no (fun m hm => HN.out m (by omega))]; rfl)
        go_wp2
        exact ⟨rfl, by rw [HS2.out]; rfl, by repeat (first | exact Below.refl _ _ | apply pw_below_drewN | apply below_drew1)⟩
set_option maxHeartbeats 4000000 in
set_option maxRecDepth 100000 in
theorem stop_in {w0 w : World} {g : Nat} {s : ByteArray} {L : Value} {c : Src} {i : Nat} {q : List Value} {v : Value} {wl : List Nat} (hp : IsP w0 w g s L c i q) (hi : i < c.T.length) (hw : Wants w v wl) (hwl : wl.length ≤ 100) :
    Calls Try.prog 31 #[.pointer (some ⟨g, 0, none⟩), v] w fun e w' => e = faultE (stopP c i wl) ∧ Below w.heap.size w w' := by
  have hlen := hp.2.2.2
  obtain ⟨A, cc, rfl, hC⟩ := hp.tokens
  obtain ⟨p0, p1, p2, p3, p4, p5, p6, p7, pf⟩ := pc hp.1
  obtain ⟨A2, c2, rfl, hW⟩ := hw
  have HW := Aside0.mk hW
  obtain ⟨ad, rfl, t0, t1, t2, t3⟩ := at_T71 hC i hi
  have hd : ((i : Int) == (c.T.length : Int)) = false := beq_eq_false_iff_ne.2 (by omega)
  have HS := Aside0.mk (show stopP c i wl = if (c.at_ i).k = 5 ∨ (c.at_ i).k = 6 ∨ (c.at_ i).k = 7 then (if wl.contains 1 then (c.at_ i).e else (c.at_ i).a) else (c.at_ i).a from by unfold stopP; rw [if_neg (by omega)])
  have hlt : decide ((i : Int) < (c.T.length : Int)) = true := decide_eq_true (by omega)
  clear hp hC hW
  change _ = some (Value.int .i64 ((c.at_ i).k : Int)) at t0
  change _ = some (Value.string (c.at_ i).t) at t1
  change _ = some (Value.int .i64 ((c.at_ i).a : Int)) at t2
  change _ = some (Value.int .i64 ((c.at_ i).e : Int)) at t3
  generalize c.at_ i = t at t0 t1 t2 t3 HS
  go_enter Try.func31, Try.ntmps31
  go_wp2
  go_quiet (fail)
  rename_i nq
  have q1 : (w.drewN nq).cell? ⟨g, 1, none⟩ = some (.slice (some ad) c.T.length cc) := p1
  have q7 : (w.drewN nq).cell? ⟨g, 7, none⟩ = some (.int .i64 (i : Int)) := p7
  have u0 : (w.drewN nq).cell? (ad.add (i * 4)) = some (.int .i64 (t.k : Int)) := t0
  have u1 : (w.drewN nq).cell? ⟨(ad.add (i * 4)).block, (ad.add (i * 4)).off + 1, none⟩ = some (.string t.t) := t1
  have u2 : (w.drewN nq).cell? ⟨(ad.add (i * 4)).block, (ad.add (i * 4)).off + 2, none⟩ = some (.int .i64 (t.a : Int)) := t2
  have u3 : (w.drewN nq).cell? ⟨(ad.add (i * 4)).block, (ad.add (i * 4)).off + 3, none⟩ = some (.int .i64 (t.e : Int)) := t3
  have HW4 := Aside0.mk (show ∀ j : Nat, j < wl.length → ∃ ad, A2 = some ad ∧ (w.drewN nq).cell? (ad.add j) = some (.int .i64 ((wl.getD j 0 : Nat) : Int)) from HW.out)
  have HB4 := Aside0.mk (show Below w.heap.size w (w.drewN nq) from pw_below_drewN (Below.refl _ _) nq)
  clear p0 p1 p2 p3 p4 p5 p6 p7 pf t0 t1 t2 t3 HW
  have hgl := cell_lt q1
  have hbl := cell_lt u0
  simp only at hgl
  generalize w.drewN nq = w4 at q1 q7 u0 u1 u2 u3 HW4 HB4 hgl hbl ⊢
  go_wp2
  go_region
  have HT5 := Aside0.mk (show (w4.alloc (.cells #[.int .i64 (t.k : Int), .string t.t, .int .i64 (t.a : Int), .int .i64 (t.e : Int)] 71)).drew.heap[w4.heap.size]? = some (.cells #[.int .i64 (t.k : Int), .string t.t, .int .i64 (t.a : Int), .int .i64 (t.e : Int)] 71) from blk_drew (blk_new w4 _))
  have HW5 := Aside0.mk (show ∀ j : Nat, j < wl.length → ∃ ad, A2 = some ad ∧ (w4.alloc (.cells #[.int .i64 (t.k : Int), .string t.t, .int .i64 (t.a : Int), .int .i64 (t.e : Int)] 71)).drew.cell? (ad.add j) = some (.int .i64 ((wl.getD j 0 : Nat) : Int)) from fun j hj => by
    obtain ⟨ad, e, hu⟩ := HW4.out j hj
    exact ⟨ad, e, cell_keep (below_drew1 (below_alloc (Below.refl _ _) _)) _ _ hu⟩)
  have HB5 := Aside0.mk (show Below w.heap.size w (w4.alloc (.cells #[.int .i64 (t.k : Int), .string t.t, .int .i64 (t.a : Int), .int .i64 (t.e : Int)] 71)).drew from below_drew1 (HB4.out.alloc HB4.out.size _))
  clear q1 q7 u0 u1 u2 u3 HW4 HB4 hgl hbl
  generalize (w4.alloc (.cells #[.int .i64 (t.k : Int), .string t.t, .int .i64 (t.a : Int), .int .i64 (t.e : Int)] 71)).drew = w5 at HT5 HW5 HB5 ⊢
  generalize w4.heap.size = g6 at HT5 ⊢
  have ht := HT5.out
  have k0 := blk_cell ht 0
  have k1 := blk_cell ht 1
  have k2 := blk_cell ht 2
  have k3 := blk_cell ht 3
  clear ht
  go_step
  go_step
  by_cases hres : t.k = 5 ∨ t.k = 6 ∨ t.k = 7
  · have hS := HS.out
    rw [if_pos hres] at hS
    have HS1 := Aside0.mk hS
    clear hS HS
    obtain h5 | h5 | h5 := hres
    · have b5 : ((t.k : Int) == 5) = true := beq_iff_eq.2 (by omega)
      clear h5
      go_wp2
      go_loopg [76] wl.length (fun n v76 wc => ∃ j : Nat, j + n = wl.length ∧ v76 = .int .i64 (j : Int) ∧ Aside0 (∀ m, m < j → wl.getD m 0 ≠ 1) ∧ wc = w5)
      case atStart => exact ⟨0, by omega, rfl, ⟨fun m hm => absurd hm (by omega)⟩, rfl⟩
      case round =>
        obtain ⟨j, hj, rfl, HN, rfl⟩ := hrel
        by_cases hjl : j < wl.length
        · have hjb : decide ((j : Int) < (wl.length : Int)) = true := decide_eq_true (by omega)
          obtain ⟨ad, rfl, hc⟩ := HW5.out j hjl
          by_cases hk : wl.getD j 0 = 1
          · have hkb : (((wl.getD j 0 : Nat) : Int) == 1) = true := beq_iff_eq.2 (by omega)
            have HS2 := Aside0.mk (show stopP c i wl = t.e from by rw [HS1.out, if_pos (contains_of hjl hk)])
            clear hk
            generalize wl.getD j 0 = wj at hc hkb
            go_wp2
            exact ⟨rfl, by rw [HS2.out]; rfl, HB5.out⟩
          · have hkb : (((wl.getD j 0 : Nat) : Int) == 1) = false := beq_eq_false_iff_ne.2 (by omega)
            have HN2 := Aside0.mk (show ∀ m, m < j + 1 → wl.getD m 0 ≠ 1 from fun m hm => by
              by_cases e : m = j
              · rw [e]; exact hk
              · exact HN.out m (by omega))
            clear hk
            generalize wl.getD j 0 = wj at hc hkb
            go_wp2
            go_roundg (wl.length - (j + 1))
            case measure => omega
            case rel => exact ⟨j + 1, by omega, by go_num, HN2, rfl⟩
        · have hjb : decide ((j : Int) < (wl.length : Int)) = false := decide_eq_false (by omega)
          have HS2 := Aside0.mk (show stopP c i wl = t.a from by rw [HS1.out, contains_no (fun m hm => HN.out m (by omega))]; rfl)
          go_wp2
          exact ⟨rfl, by rw [HS2.out]; rfl, HB5.out⟩
    · have b5 : ((t.k : Int) == 5) = false := beq_eq_false_iff_ne.2 (by omega)
      have b6 : ((t.k : Int) == 6) = true := beq_iff_eq.2 (by omega)
      clear h5
      go_wp2
      go_loopg [76] wl.length (fun n v76 wc => ∃ j : Nat, j + n = wl.length ∧ v76 = .int .i64 (j : Int) ∧ Aside0 (∀ m, m < j → wl.getD m 0 ≠ 1) ∧ wc = w5)
      case atStart => exact ⟨0, by omega, rfl, ⟨fun m hm => absurd hm (by omega)⟩, rfl⟩
      case round =>
        obtain ⟨j, hj, rfl, HN, rfl⟩ := hrel
        by_cases hjl : j < wl.length
        · have hjb : decide ((j : Int) < (wl.length : Int)) = true := decide_eq_true (by omega)
          obtain ⟨ad, rfl, hc⟩ := HW5.out j hjl
          by_cases hk : wl.getD j 0 = 1
          · have hkb : (((wl.getD j 0 : Nat) : Int) == 1) = true := beq_iff_eq.2 (by omega)
            have HS2 := Aside0.mk (show stopP c i wl = t.e from by rw [HS1.out, if_pos (contains_of hjl hk)])
            clear hk
            generalize wl.getD j 0 = wj at hc hkb
            go_wp2
            exact ⟨rfl, by rw [HS2.out]; rfl, HB5.out⟩
          · have hkb : (((wl.getD j 0 : Nat) : Int) == 1) = false := beq_eq_false_iff_ne.2 (by omega)
            have HN2 := Aside0.mk (show ∀ m, m < j + 1 → wl.getD m 0 ≠ 1 from fun m hm => by
              by_cases e : m = j
              · rw [e]; exact hk
              · exact HN.out m (by omega))
            clear hk
            generalize wl.getD j 0 = wj at hc hkb
            go_wp2
            go_roundg (wl.length - (j + 1))
            case measure => omega
            case rel => exact ⟨j + 1, by omega, by go_num, HN2, rfl⟩
        · have hjb : decide ((j : Int) < (wl.length : Int)) = false := decide_eq_false (by omega)
          have HS2 := Aside0.mk (show stopP c i wl = t.a from by rw [HS1.out, contains_no (fun m hm => HN.out m (by omega))]; rfl)
          go_wp2
          exact ⟨rfl, by rw [HS2.out]; rfl, HB5.out⟩
    · have b5 : ((t.k : Int) == 5) = false := beq_eq_false_iff_ne.2 (by omega)
      have b6 : ((t.k : Int) == 6) = false := beq_eq_false_iff_ne.2 (by omega)
      have b7 : ((t.k : Int) == 7) = true := beq_iff_eq.2 (by omega)
      clear h5
      go_wp2
      go_loopg [76] wl.length (fun n v76 wc => ∃ j : Nat, j + n = wl.length ∧ v76 = .int .i64 (j : Int) ∧ Aside0 (∀ m, m < j → wl.getD m 0 ≠ 1) ∧ wc = w5)
      case atStart => exact ⟨0, by omega, rfl, ⟨fun m hm => absurd hm (by omega)⟩, rfl⟩
      case round =>
        obtain ⟨j, hj, rfl, HN, rfl⟩ := hrel
        by_cases hjl : j < wl.length
        · have hjb : decide ((j : Int) < (wl.length : Int)) = true := decide_eq_true (by omega)
          obtain ⟨ad, rfl, hc⟩ := HW5.out j hjl
          by_cases hk : wl.getD j 0 = 1
          · have hkb : (((wl.getD j 0 : Nat) : Int) == 1) = true := beq_iff_eq.2 (by omega)
            have HS2 := Aside0.mk (show stopP c i wl = t.e from by rw [HS1.out, if_pos (contains_of hjl hk)])
            clear hk
            generalize wl.getD j 0 = wj at hc hkb
            go_wp2
            exact ⟨rfl, by rw [HS2.out]; rfl, HB5.out⟩
          · have hkb : (((wl.getD j 0 : Nat) : Int) == 1) = false := beq_eq_false_iff_ne.2 (by omega)
            have HN2 := Aside0.mk (show ∀ m, m < j + 1 → wl.getD m 0 ≠ 1 from fun m hm => by
              by_cases e : m = j
              · rw [e]; exact hk
              · exact HN.out m (by omega))
            clear hk
            generalize wl.getD j 0 = wj at hc hkb
            go_wp2
            go_roundg (wl.length - (j + 1))
            case measure => omega
            case rel => exact ⟨j + 1, by omega, by go_num, HN2, rfl⟩
        · have hjb : decide ((j : Int) < (wl.length : Int)) = false := decide_eq_false (by omega)
          have HS2 := Aside0.mk (show stopP c i wl = t.a from by rw [HS1.out, contains_no (fun m hm => HN.out m (by omega))]; rfl)
          go_wp2
          exact ⟨rfl, by rw [HS2.out]; rfl, HB5.out⟩
  · have hS := HS.out
    rw [if_neg hres] at hS
    have HS1 := Aside0.mk hS
    clear hS HS
    have b5 : ((t.k : Int) == 5) = false := beq_eq_false_iff_ne.2 (by omega)
    have b6 : ((t.k : Int) == 6) = false := beq_eq_false_iff_ne.2 (by omega)
    have b7 : ((t.k : Int) == 7) = false := beq_eq_false_iff_ne.2 (by omega)
    clear hres
    go_wp2
    exact ⟨rfl, by rw [HS1.out]; rfl, HB5.out⟩
end Go.Proofs.Ytdodajpiidkglaa.K

namespace Go.Proofs.Ytdodajpiidkglaa.K
open Go.RowKit Go.Proofs.YtdodajpiidkglaaW.PrintWords Go.Proofs.YtdodajpiidkglaaW.PrintLast Go.Proofs.YtdodajpiidkglaaW.PrintMore Go.Proofs.Ytdodajpiidkglaa.PAll
set_option linter.unusedVariables false
set_option linter.unusedSimpArgs false

/-- The end of a call that may throw: what it answers, or the fault; the parser's block is all of the elder ones that it may turn. -/
def PEnd (w0 w : World) (g : Nat) (s : ByteArray) (L : Value) (c : Src) (q : List Value) {α : Type} (R : World → α → Value → Prop) (r : Except Nat (α × Nat)) (e : Ending) (w' : World) : Prop :=
  KeepBut w w' g none ∧ Below w0.heap.size w0 w' ∧ match r with
  | .ok (x, j) => ∃ v, e = .returned v ∧ R w' x v ∧ IsP w0 w' g s L c j q
  | .error a => e = faultE a

theorem stop_calls {w0 w : World} {g : Nat} {s : ByteArray} {L : Value} {c : Src} {i : Nat} {q : List Value} {v : Value} {wl : List Nat} (hp : IsP w0 w g s L c i q) (hi : i ≤ c.T.length) (hw : Wants w v wl) (hwl : wl.length ≤ 100) :
    Calls Try.prog 31 #[.pointer (some ⟨g, 0, none⟩), v] w fun e w' => e = faultE (stopP c i wl) ∧ Below w.heap.size w w' := by
  rcases Nat.lt_or_ge i c.T.length with h | h
  · exact stop_in hp h hw hwl
  · exact stop_end hp (by omega) hw hwl

theorem keep_new {w w1 : World} {g : Nat} {p : Addr} (h : KeepBut w w1 g none) (hp : w.heap.size ≤ p.block) (u : Value) : KeepBut w (w1.setCell p u) g none :=
  ⟨by simpa [World.setCell] using h.1, fun i hi hg hr => (Below.heap_setCell w1 p u i (by omega)).trans (h.2 i hi hg hr)⟩

def TakePost (w0 w : World) (g : Nat) (s : ByteArray) (L : Value) (c : Src) (i : Nat) (q : List Value) (wl : List Nat) (e : Ending) (w' : World) : Prop :=
  PEnd w0 w g s L c q (fun _ t v => v = .agg #[.int .i64 (t.k : Int), .string t.t, .int .i64 (t.a : Int), .int .i64 (t.e : Int)]) (takeP c i wl) e w'

set_option maxHeartbeats 4000000 in
set_option maxRecDepth 100000 in
theorem take_calls {w0 w : World} {g : Nat} {s : ByteArray} {L : Value} {c : Src} {i : Nat} {q : List Value} {v : Value} {wl : List Nat} (hp : IsP w0 w g s L c i q) (hi : i ≤ c.T.length) (hB : Below w0.heap.size w0 w) (hw : Wants w v wl) (hwl : wl.length ≤ 100) (hz : wl.contains 0 = false) :
    Calls Try.prog 30 #[.pointer (some ⟨g, 0, none⟩), v] w (TakePost w0 w g s L c i q wl) := by
  obtain ⟨A2, c2, rfl, hW⟩ := hw
  have HW := Aside0.mk hW
  have HP := Aside0.mk hp
  have HB0 := Aside0.mk hB
  have HI := Aside0.mk hi
  clear hW hp hB
  go_enter Try.func30, Try.ntmps30
  go_wp2
  go_loopg [9] wl.length (fun n v9 wc => ∃ j : Nat, j + n = wl.length ∧ v9 = .int .i64 (j : Int) ∧ Aside0 (∀ m, m < j → wl.getD m 0 ≠ (c.at_ i).k) ∧ Aside0 (wc.heap[w.heap.size]? = some (.cells #[.int .i64 0, .string ⟨#[]⟩, .int .i64 0, .int .i64 0] 71 (0, 0))) ∧ Aside0 (Below w.heap.size w wc))
  case atStart => exact ⟨0, by omega, rfl, ⟨fun m hm => absurd hm (by omega)⟩, ⟨blk_new w _⟩, ⟨(Below.refl _ _).alloc (Nat.le_refl _) _⟩⟩
  case round =>
    obtain ⟨j, hj, rfl, HN, HZ, HB⟩ := hrel
    have HP2 := Aside0.mk (HP.out.below HB.out)
    by_cases hjl : j < wl.length
    · have hjb : decide ((j : Int) < (wl.length : Int)) = true := decide_eq_true (by omega)
      obtain ⟨ad, rfl, hc0⟩ := HW.out j hjl
      have hc := cell_keep HB.out _ _ hc0
      clear hc0
      by_cases hk : wl.getD j 0 = (c.at_ i).k
      · have hkb : (((c.at_ i).k : Int) == ((wl.getD j 0 : Nat) : Int)) = true := beq_iff_eq.2 (by omega)
        have HT := Aside0.mk (show takeP c i wl = .ok (c.at_ i, i + 1) from by unfold takeP; rw [if_pos (contains_of hjl hk)])
        have hilt : i < c.T.length := lt_of_kind (fun e => by
          have h0 := contains_of hjl (hk.trans e)
          rw [hz] at h0
          cases h0)
        clear hk
        generalize wl.getD j 0 = wj at hc hkb
        go_upto_region 5 with (go_at_call 54; (with_reducible refine (kind_calls HP2.out HI.out).mono ?_); rintro e w' ⟨rfl, ⟨nd, rfl⟩⟩)
        have HP3 := Aside0.mk (HP2.out.drewN nd)
        have HZ3 := Aside0.mk (blk_drewN HZ.out nd)
        have HB3 := Aside0.mk (pw_below_drewN HB.out nd)
        generalize wr.drewN nd = w3 at HP3 HZ3 HB3 ⊢
        obtain ⟨p0, p1, p2, p3, p4, p5, p6, p7, pf⟩ := pc HP3.out.1
        have hlen := HP3.out.2.2.2
        have hi2 : (i : Int) ≤ 2147483647 := by omega
        have hgl := HP3.out.lt
        have hne : g ≠ w.heap.size := Nat.ne_of_lt HP.out.lt
        go_wp2
        have HP4 := Aside0.mk (HP3.out.step (i + 1) ((i : Int) + 1) (by omega))
        have HZ4 := Aside0.mk (blk_far (p := ⟨g, 7, none⟩) HZ3.out (Ne.symm hne) (.int .i64 ((i : Int) + 1)))
        have HK4 := Aside0.mk (KeepBut.set_ (KeepBut.of_below HB3.out g none) 7 (.int .i64 ((i : Int) + 1)))
        have HB4 := Aside0.mk ((HB0.out.trans (HB3.out.mono HB0.out.size)).setCell (p := ⟨g, 7, none⟩) HP.out.ge (.int .i64 ((i : Int) + 1)))
        clear HP3 HZ3 HB3 p0 p1 p2 p3 p4 p5 p6 p7 pf hgl
        generalize w3.setCell ⟨g, 7, none⟩ (.int .i64 ((i : Int) + 1)) = w4 at HP4 HZ4 HK4 HB4 ⊢
        obtain ⟨AL, cL, rfl, hC⟩ := HP4.out.tokens
        obtain ⟨p0, p1, p2, p3, p4, p5, p6, p7, pf⟩ := pc HP4.out.1
        obtain ⟨ad, rfl, t0, t1, t2, t3⟩ := at_T71 hC i hilt
        change _ = some (Value.int .i64 ((c.at_ i).k : Int)) at t0
        change _ = some (Value.string (c.at_ i).t) at t1
        change _ = some (Value.int .i64 ((c.at_ i).a : Int)) at t2
        change _ = some (Value.int .i64 ((c.at_ i).e : Int)) at t3
        generalize c.at_ i = t at t0 t1 t2 t3 HT
        have hz4 := HZ4.out
        have c0 := blk_cell hz4 0
        have c1 := blk_cell hz4 1
        have c2' := blk_cell hz4 2
        have c3 := blk_cell hz4 3
        have f0 := blk_frozen hz4 0
        have f1 := blk_frozen hz4 1
        have f2 := blk_frozen hz4 2
        have f3 := blk_frozen hz4 3
        clear hz4 hC
        have hlt2 : decide ((i : Int) < (c.T.length : Int)) = true := decide_eq_true (by omega)
        have p7' : w4.cell? ⟨g, 7, none⟩ = some (.int .i64 ((i : Int) + 1)) := p7
        clear p7
        go_region
        go_wp2
        have hown := HP.out.own_lt
        have hge : w0.heap.size ≤ w.heap.size := HB0.out.size
        refine bodyPost_ret (results_single rfl (.cell w.heap.size 71 _ (0, 0) _ rfl (blk_drew (blk4_set HZ4.out _ _ _ _)) Try.underlying71 rfl info71 .nil)) rfl ?_
        unfold TakePost PEnd
        rw [HT.out]
        refine ⟨keep_drew (keep_new (keep_new (keep_new (keep_new HK4.out (Nat.le_refl _) _) (Nat.le_refl _) _) (Nat.le_refl _) _) (Nat.le_refl _) _), below_drew1 ((((HB4.out.setCell hge _).setCell hge _).setCell hge _).setCell hge _), _, rfl, rfl, ?_⟩
        exact ((((HP4.out.far_ (p := ⟨w.heap.size, 0, none⟩) (Ne.symm hne) (fun k hk => Nat.ne_of_lt (hown k hk)) _).far_ (p := ⟨w.heap.size, 1, none⟩) (Ne.symm hne) (fun k hk => Nat.ne_of_lt (hown k hk)) _).far_ (p := ⟨w.heap.size, 2, none⟩) (Ne.symm hne) (fun k hk => Nat.ne_of_lt (hown k hk)) _).far_ (p := ⟨w.heap.size, 3, none⟩) (Ne.symm hne) (fun k hk => Nat.ne_of_lt (hown k hk)) _).drew
      · have hkb : (((c.at_ i).k : Int) == ((wl.getD j 0 : Nat) : Int)) = false := beq_eq_false_iff_ne.2 (by omega)
        have HN2 := Aside0.mk (show ∀ m, m < j + 1 → wl.getD m 0 ≠ (c.at_ i).k from fun m hm => by
          by_cases e : m = j
          · rw [e]; exact hk
          · exact HN.out m (by omega))
        clear hk
        generalize wl.getD j 0 = wj at hc hkb
        go_wp2_with (go_at_call 54; (with_reducible refine (kind_calls HP2.out HI.out).mono ?_); rintro e w' ⟨rfl, ⟨nd, rfl⟩⟩)
        go_roundg (wl.length - (j + 1))
        case measure => omega
        case rel => exact ⟨j + 1, by omega, by go_num, HN2, ⟨blk_drewN HZ.out nd⟩, ⟨pw_below_drewN HB.out nd⟩⟩
    · have hjb : decide ((j : Int) < (wl.length : Int)) = false := decide_eq_false (by omega)
      have HT := Aside0.mk (show takeP c i wl = .error (stopP c i wl) from by unfold takeP; rw [contains_no (fun m hm => HN.out m (by omega))]; rfl)
      have HWn := Aside0.mk (show Wants wr (.slice A2 wl.length c2) wl from Wants.below ⟨A2, c2, rfl, HW.out⟩ (fun ad j u hu => cell_keep HB.out _ _ hu))
      go_wp2_with (go_at_call 31; (with_reducible refine (stop_calls HP2.out HI.out HWn.out hwl).mono ?_); rintro e w' ⟨rfl, hb⟩; simp only [faultE])
      refine ⟨rfl, ?_⟩
      unfold TakePost PEnd
      rw [HT.out]
      exact ⟨KeepBut.of_below (HB.out.trans (hb.mono HB.out.size)) g none, HB0.out.trans ((HB.out.trans (hb.mono HB.out.size)).mono HB0.out.size), rfl⟩
end Go.Proofs.Ytdodajpiidkglaa.K

namespace Go.Proofs.Ytdodajpiidkglaa.K
open Go.RowKit Go.Proofs.YtdodajpiidkglaaW.PrintWords Go.Proofs.YtdodajpiidkglaaW.PrintLast Go.Proofs.YtdodajpiidkglaaW.PrintMore Go.Proofs.Ytdodajpiidkglaa.PAll
set_option linter.unusedVariables false
set_option linter.unusedSimpArgs false

def OkEnd (w0 w : World) (g : Nat) (s : ByteArray) (L : Value) (c : Src) (q : List Value) {α : Type} (R : World → α → Value → Prop) (x : α) (j : Nat) (e : Ending) (w' : World) : Prop :=
  ∃ v, e = .returned v ∧ R w' x v ∧ IsP w0 w' g s L c j q ∧ KeepBut w w' g none ∧ Below w0.heap.size w0 w'
def ErrEnd (w0 w : World) (g a : Nat) (e : Ending) (w' : World) : Prop := e = .panicked [{ v := faultV a, recovered := false }] ∧ KeepBut w w' g none ∧ Below w0.heap.size w0 w'

section
variable {w0 w : World} {g : Nat} {s : ByteArray} {L : Value} {c : Src} {i : Nat} {q : List Value} {α : Type} {R : World → α → Value → Prop} {r : Except Nat (α × Nat)} {e : Ending} {w' : World}
theorem PEnd.ok {x : α} {j : Nat} (h : PEnd w0 w g s L c q R r e w') (hr : r = .ok (x, j)) : OkEnd w0 w g s L c q R x j e w' := by
  subst hr
  obtain ⟨h1, h2, v, h3, h4, h5⟩ := h
  exact ⟨v, h3, h4, h5, h1, h2⟩
theorem PEnd.err {a : Nat} (h : PEnd w0 w g s L c q R r e w') (hr : r = .error a) : ErrEnd w0 w g a e w' := by
  subst hr
  obtain ⟨h1, h2, h3⟩ := h
  exact ⟨h3, h1, h2⟩
theorem PEnd.of_ok {x : α} {j : Nat} (h : OkEnd w0 w g s L c q R x j e w') (hr : r = .ok (x, j)) : PEnd w0 w g s L c q R r e w' := by
  subst hr
  obtain ⟨v, h1, h2, h3, h4, h5⟩ := h
  exact ⟨h4, h5, v, h1, h2, h3⟩
theorem PEnd.of_err {a : Nat} (h : ErrEnd w0 w g a e w') (hr : r = .error a) : PEnd w0 w g s L c q R r e w' := by
  subst hr
  exact ⟨h.2.1, h.2.2, h.1⟩
end

theorem take_ok {w0 w : World} {g : Nat} {s : ByteArray} {L : Value} {c : Src} {i : Nat} {q : List Value} {v : Value} {wl : List Nat} {t : Tok} {j : Nat} (h : takeP c i wl = .ok (t, j)) (hp : IsP w0 w g s L c i q) (hi : i ≤ c.T.length) (hB : Below w0.heap.size w0 w) (hw : Wants w v wl) (hwl : wl.length ≤ 100) (hz : wl.contains 0 = false) :
    Calls Try.prog 30 #[.pointer (some ⟨g, 0, none⟩), v] w fun e w' => e = .returned (.agg #[.int .i64 (t.k : Int), .string t.t, .int .i64 (t.a : Int), .int .i64 (t.e : Int)]) ∧ IsP w0 w' g s L c j q ∧ KeepBut w w' g none ∧ Below w0.heap.size w0 w' :=
  (take_calls hp hi hB hw hwl hz).mono fun e w' hpost => by
    obtain ⟨v, h1, rfl, h3, h4, h5⟩ := PEnd.ok hpost h
    exact ⟨h1, h3, h4, h5⟩
theorem take_err {w0 w : World} {g : Nat} {s : ByteArray} {L : Value} {c : Src} {i : Nat} {q : List Value} {v : Value} {wl : List Nat} {a : Nat} (h : takeP c i wl = .error a) (hp : IsP w0 w g s L c i q) (hi : i ≤ c.T.length) (hB : Below w0.heap.size w0 w) (hw : Wants w v wl) (hwl : wl.length ≤ 100) (hz : wl.contains 0 = false) :
    Calls Try.prog 30 #[.pointer (some ⟨g, 0, none⟩), v] w (ErrEnd w0 w g a) :=
  (take_calls hp hi hB hw hwl hz).mono fun e w' hpost => PEnd.err hpost h
theorem Wants.of_new {W : World} {t n m cc : Nat} {wl : List Nat} {cells : Array Value} (hn : W.heap.size = n) (hm : m = wl.length) (hc : cells = (wl.map (fun k : Nat => Value.int .i64 (k : Int))).toArray) :
    Wants (W.alloc (.cells cells t)) (.slice (some ⟨n, 0, none⟩) m cc) wl := by
  subst hm hc hn
  refine Wants.of_block (blk_new W _) fun j hj => ?_
  simp [hj]
theorem blk_new' {w : World} {o : Obj} {n : Nat} (h : w.heap.size = n) : (w.alloc o).heap[n]? = some o := by subst h; exact blk_new w o
theorem Wants.drewN {W : World} {v : Value} {wl : List Nat} {n : Nat} (h : Wants W v wl) : Wants (W.drewN n) v wl := h

theorem nbeq (a b : Nat) : ((a : Int) == (b : Int)) = (a == b) := by
  by_cases h : a = b
  · subst h; simp
  · rw [beq_eq_false_iff_ne.2 h]; exact beq_eq_false_iff_ne.2 (by omega)
theorem info61s : (Try.prog.info? 61).map (·.size) = some 2 := by kernel_rfl
def termR (_ : World) (x : S61) (v : Value) : Prop := v = .agg #[.bool x.f0, .string x.f1]

set_option maxHeartbeats 4000000 in
set_option maxRecDepth 100000 in
theorem term_ok {w0 w : World} {g : Nat} {s : ByteArray} {L : Value} {c : Src} {i : Nat} {q : List Value} {x : S61} {j : Nat} (h : termP c i = .ok (x, j)) (hp : IsP w0 w g s L c i q) (hi : i ≤ c.T.length) (hB : Below w0.heap.size w0 w) :
    Calls Try.prog 74 #[.pointer (some ⟨g, 0, none⟩)] w fun e w' => e = .returned (.agg #[.bool x.f0, .string x.f1]) ∧ IsP w0 w' g s L c j q ∧ KeepBut w w' g none ∧ Below w0.heap.size w0 w' := by
  have HP := Aside0.mk hp
  have HB := Aside0.mk hB
  clear hp hB
  cases ht : takeP c i [2, 1, 3, 4] with
  | error a => exfalso; unfold termP at h; rw [ht] at h; cases h
  | ok r =>
    obtain ⟨t, j'⟩ := r
    unfold termP at h
    rw [ht] at h
    simp only [Except.ok.injEq, Prod.mk.injEq] at h
    obtain ⟨rfl, rfl⟩ := h
    have H := Aside0.mk ht
    clear ht
    go_enter Try.func74, Try.ntmps74
    go_wp2_with (go_at_call 30; (with_reducible refine (take_ok (w0 := w0) (s := s) (L := L) (q := q) (h := H.out) ?h1 ?h2 ?h3 ?h4 ?h5 ?h6).mono ?_); (case h1 => repeat (first | exact HP.out | apply IsP.alloc | apply IsP.drewN | apply IsP.drew)); (case h2 => omega); (case h3 => repeat (first | exact HB.out | apply below_alloc | apply pw_below_drewN | apply below_drew1)); (case h4 => repeat (first | exact Wants.of_new (by simp) rfl rfl | apply Wants.drewN)); (case h5 => decide); (case h6 => decide); rintro e w' ⟨rfl, hp, hk, hb⟩; have hz := KeepBut.blk hk (blk_alloc (blk_new w _) _) (Ne.symm (Nat.ne_of_lt HP.out.lt)) (by simp); have hzl := blk_lt hz; have c0 := blk_cell hz 0; have c1 := blk_cell hz 1; have f0 := blk_frozen hz 0; have f1 := blk_frozen hz 1; have HZ := Aside0.mk hz; have HP1 := Aside0.mk hp; have HK1 := Aside0.mk hk; have HB1 := Aside0.mk hb; clear hz hp hk hb)
    have hown := HP.out.own_lt
    have hge : w0.heap.size ≤ w.heap.size := HB.out.size
    have hne : w.heap.size ≠ g := Ne.symm (Nat.ne_of_lt HP.out.lt)
    refine bodyPost_ret (results_single rfl (.cell w.heap.size 61 _ (0, 0) _ rfl (blk_alloc (blk_put (blk_put HZ.out 0 _ rfl) 1 _ rfl) _) Try.underlying61 rfl info61s .nil)) rfl ⟨by rw [← nbeq]; rfl, ?_, ?_, ?_⟩
    · exact ((HP1.out.far_ (p := ⟨w.heap.size, 0, none⟩) hne (fun k hk => Nat.ne_of_lt (hown k hk)) _).far_ (p := ⟨w.heap.size, 1, none⟩) hne (fun k hk => Nat.ne_of_lt (hown k hk)) _).alloc _
    · exact keep_alloc (keep_new (keep_new (KeepBut.trans (KeepBut.of_below (((Below.refl _ _).alloc (Nat.le_refl _) _).alloc (by simp) _) g none) HK1.out (.inl rfl)) (Nat.le_refl _) _) (Nat.le_refl _) _) _
    · exact ((HB1.out.setCell hge _).setCell hge _).alloc (by have := HB1.out.size; simpa using this) _

set_option maxHeartbeats 4000000 in
set_option maxRecDepth 100000 in
theorem term_err {w0 w : World} {g : Nat} {s : ByteArray} {L : Value} {c : Src} {i : Nat} {q : List Value} {a : Nat} (h : termP c i = .error a) (hp : IsP w0 w g s L c i q) (hi : i ≤ c.T.length) (hB : Below w0.heap.size w0 w) :
    Calls Try.prog 74 #[.pointer (some ⟨g, 0, none⟩)] w (ErrEnd w0 w g a) := by
  have HP := Aside0.mk hp
  have HB := Aside0.mk hB
  clear hp hB
  cases ht : takeP c i [2, 1, 3, 4] with
  | ok r => exfalso; unfold termP at h; rw [ht] at h; cases h
  | error a' =>
    unfold termP at h
    rw [ht] at h
    simp only [Except.error.injEq] at h
    obtain rfl := h
    have H := Aside0.mk ht
    clear ht
    go_enter Try.func74, Try.ntmps74
    go_wp2_with (go_at_call 30; (with_reducible refine (take_err (w0 := w0) (s := s) (L := L) (q := q) (h := H.out) ?h1 ?h2 ?h3 ?h4 ?h5 ?h6).mono ?_); (case h1 => repeat (first | exact HP.out | apply IsP.alloc | apply IsP.drewN | apply IsP.drew)); (case h2 => omega); (case h3 => repeat (first | exact HB.out | apply below_alloc | apply pw_below_drewN | apply below_drew1)); (case h4 => repeat (first | exact Wants.of_new (by simp) rfl rfl | apply Wants.drewN)); (case h5 => decide); (case h6 => decide); rintro e w' ⟨rfl, hk, hb⟩; have HK1 := Aside0.mk hk; have HB1 := Aside0.mk hb; clear hk hb)
    exact ⟨rfl, rfl, KeepBut.trans (KeepBut.of_below (((Below.refl _ _).alloc (Nat.le_refl _) _).alloc (by simp) _) g none) HK1.out (.inl rfl), HB1.out⟩
end Go.Proofs.Ytdodajpiidkglaa.K
