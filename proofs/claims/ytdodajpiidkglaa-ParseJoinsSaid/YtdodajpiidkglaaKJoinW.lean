/- inklinglaw08.ParseJoins: the walk. Condition: the two texts have a machine's sizes. -/
import Derived.Test.YtdodajpiidkglaaKJoins
import Derived.Deep.RegionHeld3
namespace Go.Proofs.Ytdodajpiidkglaa.K
open Go.RowKit Go.Proofs.YtdodajpiidkglaaW.PrintWords Go.Proofs.YtdodajpiidkglaaW.PrintLast Go.Proofs.YtdodajpiidkglaaW.PrintMore Go.Proofs.Ytdodajpiidkglaa.PAll
set_option linter.unusedVariables false
set_option linter.unusedSimpArgs false
theorem long_calls (s : ByteArray) {b : Bool} (h : decide ((s.size : Int) > 20000) = b) (w : World) : Calls Try.prog 7 #[.string s] w fun e w' => e = .returned (.bool b) ∧ Drawn0 w w' :=
  inklinglaw08_long.calls s b w (by unfold inklinglaw08_long.f; rw [h])
theorem read_err {s : ByteArray} {a : Nat} (h : programP s = .error a) (hs : s.size ≤ 2147483647) (w : World) : Calls Try.prog 14 #[.string s] w fun e w' =>
    Below w.heap.size w w' ∧ e = .returned (.tuple #[.agg #[.slice none 0 0, .slice none 0 0, .slice none 0 0], .agg #[.slice none 0 0, .slice none 0 0, .slice none 0 0], .int .i64 (a : Int), .int .i64 11]) := by
  refine (program_calls s hs w).mono fun e w' hp => ?_
  unfold ProgPost at hp
  rw [h] at hp
  exact hp
theorem read_ok {s : ByteArray} {l : List Stm} (h : programP s = .ok l) {L0 : List S86} {L1 : List S88} {L2 : List S29} {L3 L4 L5 : List Int} (e0 : insOf l = L0) (e1 : outsOf l = L1) (e2 : rulesOf l = L2) (e3 : insAt l = L3) (e4 : outsAt l = L4) (e5 : rulesAt l = L5)
    (hs : s.size ≤ 2147483647) (w : World) : Calls Try.prog 14 #[.string s] w fun e w' =>
    Below w.heap.size w w' ∧ ∃ a0 c0 a1 c1 a2 c2 a3 c3 a4 c4 a5 c5, e = .returned (.tuple #[.agg #[.slice a0 L0.length c0, .slice a1 L1.length c1, .slice a2 L2.length c2], .agg #[.slice a3 L3.length c3, .slice a4 L4.length c4, .slice a5 L5.length c5], .int .i64 0, .int .i64 0]) ∧
      (Kd.F k86 w' (fun k => k < w'.heap.size) a0 L0.length L0 ∧ Kd.F k88 w' (fun k => k < w'.heap.size) a1 L1.length L1 ∧ Kd.F k29 w' (fun k => k < w'.heap.size) a2 L2.length L2) ∧
      (Kd.F (Kd.int .i64) w' (fun k => k < w'.heap.size) a3 L3.length L3 ∧ Kd.F (Kd.int .i64) w' (fun k => k < w'.heap.size) a4 L4.length L4 ∧ Kd.F (Kd.int .i64) w' (fun k => k < w'.heap.size) a5 L5.length L5) ∧ (L3.length ≤ c3 ∧ L4.length ≤ c4 ∧ L5.length ≤ c5) := by
  subst e0 e1 e2 e3 e4 e5
  refine (program_calls s hs w).mono fun e w' hp => ?_
  unfold ProgPost at hp
  rw [h] at hp
  obtain ⟨hb, own, v0, v1, v2, v3, v4, v5, he, r0, r1, r2, r3, r4, r5⟩ := hp
  obtain ⟨a0, c0, rfl⟩ := Kd.R_slice r0
  obtain ⟨a1, c1, rfl⟩ := Kd.R_slice r1
  obtain ⟨a2, c2, rfl⟩ := Kd.R_slice r2
  obtain ⟨a3, c3, rfl⟩ := Kd.R_slice r3
  obtain ⟨a4, c4, rfl⟩ := Kd.R_slice r4
  obtain ⟨a5, c5, rfl⟩ := Kd.R_slice r5
  exact ⟨hb, a0, c0, a1, c1, a2, c2, a3, c3, a4, c4, a5, c5, he, ⟨Kd.F_mono (Kd.F_bound (Kd.R_F r0)) (fun _ hk => hk.2), Kd.F_mono (Kd.F_bound (Kd.R_F r1)) (fun _ hk => hk.2), Kd.F_mono (Kd.F_bound (Kd.R_F r2)) (fun _ hk => hk.2)⟩, ⟨Kd.F_mono (Kd.F_bound (Kd.R_F r3)) (fun _ hk => hk.2), Kd.F_mono (Kd.F_bound (Kd.R_F r4)) (fun _ hk => hk.2), Kd.F_mono (Kd.F_bound (Kd.R_F r5)) (fun _ hk => hk.2)⟩, (Kd.R_reads' r3).2.1, (Kd.R_reads' r4).2.1, (Kd.R_reads' r5).2.1⟩
theorem read_any (s : ByteArray) (hs : s.size ≤ 2147483647) (w : World) : Calls Try.prog 14 #[.string s] w fun e w' =>
    Below w.heap.size w w' ∧ ∃ a0 n0 c0 a1 n1 c1 a2 n2 c2 a3 n3 c3 a4 n4 c4 a5 n5 c5 x y, e = .returned (.tuple #[.agg #[.slice a0 n0 c0, .slice a1 n1 c1, .slice a2 n2 c2], .agg #[.slice a3 n3 c3, .slice a4 n4 c4, .slice a5 n5 c5], .int .i64 x, .int .i64 y]) := by
  cases hp : programP s with
  | error a => exact (read_err hp hs w).mono fun e w' h => ⟨h.1, _, _, _, _, _, _, _, _, _, _, _, _, _, _, _, _, _, _, _, _, h.2⟩
  | ok l =>
    refine (read_ok hp rfl rfl rfl rfl rfl rfl hs w).mono fun e w' h => ?_
    obtain ⟨hb, a0, c0, a1, c1, a2, c2, a3, c3, a4, c4, a5, c5, he, _⟩ := h
    exact ⟨hb, _, _, _, _, _, _, _, _, _, _, _, _, _, _, _, _, _, _, _, _, he⟩
theorem moved_true (s : ByteArray) {w : World} {L1 L2 : List Int} {A1 A2 : Option Addr} {c1 c2 B : Nat} (hl : Low B L2) (hz : B ≤ 1000000000 ∧ s.size + 1 ≤ 1000000000) (hn : L1.length ≤ 1000000000) (hm : L2.length ≤ 1000000000)
    (h1 : Kd.C (Kd.int .i64) w A1 L1.length L1) (k1 : L1.length ≤ c1) (h2 : Kd.C (Kd.int .i64) w A2 L2.length L2) (k2 : L2.length ≤ c2) :
    Calls Try.prog 15 #[.slice A1 L1.length c1, .slice A2 L2.length c2, .int .i64 ((s.size : Int) + 1)] w fun e w' => ∃ A c, e = .returned (.slice A (L1.length + L2.length) c) ∧
      Kd.R (Kd.int .i64) 3 w' w.heap.size (fun _ => True) (.slice A (L1.length + L2.length) c) (L1 ++ L2.map (fun x => x + ((s.size + 1 : Nat) : Int))) ∧ Below w.heap.size w w' := by
  refine (inklinglaw08_moved.calls (L2.length + 1) A1 c1 L1 A2 c2 L2 ((s.size + 1 : Nat) : Int) _ w h1 k1 h2 k2 (moved_f L1 L2 (s.size + 1) B hl hz.1 hz.2 hn hm)).mono fun e w' h => ?_
  obtain ⟨v, he, hr, hb⟩ := h
  obtain ⟨A, c, rfl⟩ := Kd.R_slice hr
  rw [List.length_append, List.length_map] at he hr
  exact ⟨A, c, he, hr, hb⟩
theorem places_true {w : World} {L0 L1 L2 : List Int} {A0 A1 A2 B0 B1 B2 : Option Addr} {a0 a1 a2 b0 b1 b2 n0 n1 n2 : Nat} (e0 : L0.length = n0) (e1 : L1.length = n1) (e2 : L2.length = n2) (hz : n0 ≤ 1000000000 ∧ n1 ≤ 1000000000 ∧ n2 ≤ 1000000000)
    (ha : Kd.C (Kd.int .i64) w A0 L0.length L0 ∧ Kd.C (Kd.int .i64) w A1 L1.length L1 ∧ Kd.C (Kd.int .i64) w A2 L2.length L2) (ka : L0.length ≤ a0 ∧ L1.length ≤ a1 ∧ L2.length ≤ a2)
    (hb : Kd.C (Kd.int .i64) w B0 L0.length L0 ∧ Kd.C (Kd.int .i64) w B1 L1.length L1 ∧ Kd.C (Kd.int .i64) w B2 L2.length L2) (kb : L0.length ≤ b0 ∧ L1.length ≤ b1 ∧ L2.length ≤ b2) :
    Calls Try.prog 17 #[.agg #[.slice A0 n0 a0, .slice A1 n1 a1, .slice A2 n2 a2], .agg #[.slice B0 n0 b0, .slice B1 n1 b1, .slice B2 n2 b2]] w (TrueEnd w) := by
  subst e0 e1 e2
  refine (inklinglaw08_places.calls _ A0 a0 L0 A1 a1 L1 A2 a2 L2 B0 b0 L0 B1 b1 L1 B2 b2 L2 true w ha.1 ka.1 ha.2.1 ka.2.1 ha.2.2 ka.2.2 hb.1 kb.1 hb.2.1 kb.2.1 hb.2.2 kb.2.2 (places_f L0 L1 L2 hz.1 hz.2.1 hz.2.2)).mono fun e w' h => h
theorem join_size (s t : ByteArray) : (s ++ ⟨#[10]⟩ ++ t).size = s.size + t.size + 1 := by
  have := (join_data s t).size
  omega

set_option maxHeartbeats 8000000 in
set_option maxRecDepth 100000 in
theorem joins_long {s t : ByteArray} (hs : s.size ≤ 140737488351232) (ht : t.size ≤ 140737488351232) (hl : 20000 < s.size ∨ 20000 < t.size) (w : World) : Calls Try.prog 4 #[.string s, .string t] w (TrueEnd w) := by
  by_cases h1 : 20000 < s.size
  · have hd : decide ((s.size : Int) > 20000) = true := decide_eq_true (by omega)
    go_enter Try.func4, Try.ntmps4
    go_wp2_with (first | (go_at_call 7; (with_reducible refine (long_calls s hd _).mono ?_); rintro e wa ⟨rfl, ⟨na, rfl⟩⟩) | (go_at_call 8; (with_reducible refine (works_calls _).mono ?_); rintro e wk ⟨rfl, hb⟩; have HBW := Aside0.mk hb; clear hb))
    go_ret
    exact ⟨rfl, below_step (below_drewN (Below.refl _ w) _) HBW.out⟩
  · have h2 : 20000 < t.size := by omega
    have hd : decide ((s.size : Int) > 20000) = false := decide_eq_false (by omega)
    have hd2 : decide ((t.size : Int) > 20000) = true := decide_eq_true (by omega)
    go_enter Try.func4, Try.ntmps4
    go_wp2_with (first | (go_at_call 7; (with_reducible refine (long_calls s hd _).mono ?_); rintro e wa ⟨rfl, ⟨na, rfl⟩⟩) | (go_at_call 7; (with_reducible refine (long_calls t hd2 _).mono ?_); rintro e wb ⟨rfl, ⟨nb, rfl⟩⟩) | (go_at_call 8; (with_reducible refine (works_calls _).mono ?_); rintro e wk ⟨rfl, hb⟩; have HBW := Aside0.mk hb; clear hb))
    go_ret
    exact ⟨rfl, below_step (below_drewN (Below.refl _ w) _) HBW.out⟩
set_option maxHeartbeats 8000000 in
set_option maxRecDepth 100000 in
theorem joins_err {s t : ByteArray} (hs : s.size ≤ 20000) (ht : t.size ≤ 20000) {a : Nat} (hp : programP s = .error a) (w : World) : Calls Try.prog 4 #[.string s, .string t] w (TrueEnd w) := by
  have hd : decide ((s.size : Int) > 20000) = false := decide_eq_false (by omega)
  have hd2 : decide ((t.size : Int) > 20000) = false := decide_eq_false (by omega)
  have hsz : s.size ≤ 2147483647 := by omega
  have htz : t.size ≤ 2147483647 := by omega
  have HP := Aside0.mk hp
  clear hp
  have hJz : (s ++ ⟨#[10]⟩ ++ t).size ≤ 2147483647 := by rw [join_size]; omega
  go_enter Try.func4, Try.ntmps4
  go_upto_region 3 with (first | (go_at_call 7; (with_reducible refine (long_calls s hd _).mono ?_); rintro e wa ⟨rfl, ⟨na, rfl⟩⟩) | (go_at_call 7; (with_reducible refine (long_calls t hd2 _).mono ?_); rintro e wb ⟨rfl, ⟨nb, rfl⟩⟩))
  go_upto_region 4 with (first | (go_at_call 14; (with_reducible refine (read_err (s := s) HP.out hsz _).mono ?_); rintro e w1 ⟨hb, rfl⟩; have HB1 := Aside0.mk hb; have hz1 := hb.size; clear hb))
  go_upto_region 5 with (first | (go_at_call 14; (with_reducible refine (read_any t htz _).mono ?_); rintro e w2 ⟨hb, p2a, p2b, p2c, p2d, p2e, p2f, p2g, p2h, p2i, p2j, p2k, p2l, p2m, p2n, p2o, p2p, p2q, p2r, p2x, p2y, rfl⟩; have HB2 := Aside0.mk hb; have hz2 := hb.size; clear hb))
  go_upto_region 6 with (first | (go_at_call 14; (with_reducible refine (read_any (s ++ ⟨#[10]⟩ ++ t) hJz _).mono ?_); rintro e w3 ⟨hb, p3a, p3b, p3c, p3d, p3e, p3f, p3g, p3h, p3i, p3j, p3k, p3l, p3m, p3n, p3o, p3p, p3q, p3r, p3x, p3y, rfl⟩; have HB3 := Aside0.mk hb; have hz3 := hb.size; clear hb))
  go_wp2_with (first | (go_at_call 12; (with_reducible refine (num_calls _ _).mono ?_); rintro e wn ⟨rfl, rfl⟩) | (go_at_call 8; (with_reducible refine (works_calls _).mono ?_); rintro e wk ⟨rfl, hb⟩; have HBW := Aside0.mk hb; clear hb))
  go_ret
  exact ⟨rfl, below_step (below_alloc (below_alloc (below_step (below_alloc (below_alloc (below_step (below_alloc (below_alloc (below_step (below_drewN (Below.refl _ w) _) HB1.out) _) _) HB2.out) _) _) HB3.out) _) _) HBW.out⟩
set_option maxHeartbeats 8000000 in
set_option maxRecDepth 100000 in
theorem joins_half {s t : ByteArray} (hs : s.size ≤ 20000) (ht : t.size ≤ 20000) {l1 : List Stm} (hp : programP s = .ok l1) {a : Nat} (hq : programP t = .error a) (w : World) : Calls Try.prog 4 #[.string s, .string t] w (TrueEnd w) := by
  have hd : decide ((s.size : Int) > 20000) = false := decide_eq_false (by omega)
  have hd2 : decide ((t.size : Int) > 20000) = false := decide_eq_false (by omega)
  have hsz : s.size ≤ 2147483647 := by omega
  have htz : t.size ≤ 2147483647 := by omega
  have haz : a ≤ 40000 := by have := error_at hq; omega
  have HJ := Aside0.mk ((join_law (join_data s t) hp).1 a hq)
  have HP := Aside0.mk hp
  have HQ := Aside0.mk hq
  clear hp hq
  have hJz : (s ++ ⟨#[10]⟩ ++ t).size ≤ 2147483647 := by rw [join_size]; omega
  go_enter Try.func4, Try.ntmps4
  go_upto_region 3 with (first | (go_at_call 7; (with_reducible refine (long_calls s hd _).mono ?_); rintro e wa ⟨rfl, ⟨na, rfl⟩⟩) | (go_at_call 7; (with_reducible refine (long_calls t hd2 _).mono ?_); rintro e wb ⟨rfl, ⟨nb, rfl⟩⟩))
  go_upto_region 4 with (first | (go_at_call 14; (with_reducible refine (read_ok (s := s) HP.out rfl rfl rfl rfl rfl rfl hsz _).mono ?_); rintro e w1 ⟨hb, p1a, p1b, p1c, p1d, p1e, p1f, p1g, p1h, p1i, p1j, p1k, p1l, rfl, hf, hc, hl⟩; have HB1 := Aside0.mk hb; have HF1 := Aside0.mk hf; have HC1 := Aside0.mk hc; have HL1 := Aside0.mk hl; have hz1 := hb.size; clear hb hf hc hl))
  go_upto_region 5 with (first | (go_at_call 14; (with_reducible refine (read_err (s := t) HQ.out htz _).mono ?_); rintro e w2 ⟨hb, rfl⟩; have HB2 := Aside0.mk hb; have hz2 := hb.size; clear hb))
  go_upto_region 6 with (first | (go_at_call 14; (with_reducible refine (read_err (s := (s ++ ⟨#[10]⟩ ++ t)) HJ.out hJz _).mono ?_); rintro e w3 ⟨hb, rfl⟩; have HB3 := Aside0.mk hb; have hz3 := hb.size; clear hb))
  go_wp2_with (first | (go_at_call 12; (with_reducible refine (num_calls _ _).mono ?_); rintro e wn ⟨rfl, rfl⟩) | (go_at_call 8; (with_reducible refine (works_calls _).mono ?_); rintro e wk ⟨rfl, hb⟩; have HBW := Aside0.mk hb; clear hb) | (go_at_call 14; (with_reducible refine (read_err (s := t) HQ.out htz _).mono ?_); rintro e w4 ⟨hb, rfl⟩; have HB4 := Aside0.mk hb; have hz4 := hb.size; clear hb))
  go_ret
  exact ⟨rfl, below_step (below_alloc (below_alloc (below_step (below_alloc (below_alloc (below_step (below_alloc (below_alloc (below_step (below_alloc (below_alloc (below_step (below_drewN (Below.refl _ w) _) HB1.out) _) _) HB2.out) _) _) HB3.out) _) _) HB4.out) _) _) HBW.out⟩
set_option maxHeartbeats 8000000 in
set_option maxRecDepth 100000 in
theorem joins_both {s t : ByteArray} (hs : s.size ≤ 20000) (ht : t.size ≤ 20000) {l1 : List Stm} (hp : programP s = .ok l1) {l2 : List Stm} (hq : programP t = .ok l2) (w : World) : Calls Try.prog 4 #[.string s, .string t] w (TrueEnd w) := by
  have hd : decide ((s.size : Int) > 20000) = false := decide_eq_false (by omega)
  have hd2 : decide ((t.size : Int) > 20000) = false := decide_eq_false (by omega)
  have hsz : s.size ≤ 2147483647 := by omega
  have htz : t.size ≤ 2147483647 := by omega
  have hJz : (s ++ ⟨#[10]⟩ ++ t).size ≤ 2147483647 := by rw [join_size]; omega
  have HJ := Aside0.mk ((join_law (join_data s t) hp).2 l2 hq)
  have HPS := Aside0.mk (prog_both HJ.out hJz)
  have HLO := Aside0.mk (low_at (programP_at hq))
  obtain ⟨n0, n1, n2, n3, n4, n5⟩ := join_lens hp hs
  obtain ⟨m0, m1, m2, m3, m4, m5⟩ := join_lens hq ht
  have HP := Aside0.mk hp
  have HQ := Aside0.mk hq
  clear hp hq
  go_enter Try.func4, Try.ntmps4
  go_upto_region 3 with (first | (go_at_call 7; (with_reducible refine (long_calls s hd _).mono ?_); rintro e wa ⟨rfl, ⟨na, rfl⟩⟩) | (go_at_call 7; (with_reducible refine (long_calls t hd2 _).mono ?_); rintro e wb ⟨rfl, ⟨nb, rfl⟩⟩))
  go_upto_region 4 with (first | (go_at_call 14; (with_reducible refine (read_ok (s := s) HP.out rfl rfl rfl rfl rfl rfl hsz _).mono ?_); rintro e w1 ⟨hb, p1a, p1b, p1c, p1d, p1e, p1f, p1g, p1h, p1i, p1j, p1k, p1l, rfl, hf, hc, hl⟩; have HB1 := Aside0.mk hb; have HF1 := Aside0.mk hf; have HC1 := Aside0.mk hc; have HL1 := Aside0.mk hl; have hz1 := hb.size; clear hb hf hc hl))
  go_upto_region 5 with (first | (go_at_call 14; (with_reducible refine (read_ok (s := t) HQ.out rfl rfl rfl rfl rfl rfl htz _).mono ?_); rintro e w2 ⟨hb, p2a, p2b, p2c, p2d, p2e, p2f, p2g, p2h, p2i, p2j, p2k, p2l, rfl, hf, hc, hl⟩; have HB2 := Aside0.mk hb; have HF2 := Aside0.mk hf; have HC2 := Aside0.mk hc; have HL2 := Aside0.mk hl; have hz2 := hb.size; clear hb hf hc hl))
  go_upto_region 11 with (first | (go_at_call 14; (with_reducible refine (read_ok (s := (s ++ ⟨#[10]⟩ ++ t)) HJ.out (insOf_join _ _ _) (outsOf_join _ _ _) (rulesOf_join _ _ _) (insAt_join _ _ _) (outsAt_join _ _ _) (rulesAt_join _ _ _) hJz _).mono ?_); rintro e w3 ⟨hb, p3a, p3b, p3c, p3d, p3e, p3f, p3g, p3h, p3i, p3j, p3k, p3l, rfl, hf, hc, hl⟩; have HB3 := Aside0.mk hb; have HF3 := Aside0.mk hf; have HC3 := Aside0.mk hc; have HL3 := Aside0.mk hl; have hz3 := hb.size; clear hb hf hc hl) | (go_at_call 12; (with_reducible refine (num_calls _ _).mono ?_); rintro e wn ⟨rfl, rfl⟩))
  go_upto_region 13 with (fail)
  obtain ⟨z1, y1, y2, X1⟩ := pair_heap HB2.out
  obtain ⟨z2, y3, y4, X2⟩ := pair_heap HB3.out
  generalize hW : World.alloc (World.alloc (World.alloc (World.alloc w3 _) _) _) _ = W0
  obtain ⟨zq, XQ, q1, q2, q3, q4⟩ := quad_heap w3 _ _ _ _ W0 hW.symm
  have K1 := Aside0.mk (blk_below (blk_below y1 X2) XQ)
  have K2 := Aside0.mk (blk_below (blk_below y2 X2) XQ)
  have K3 := Aside0.mk (blk_below y3 XQ)
  have K4 := Aside0.mk (blk_below y4 XQ)
  have K5 := Aside0.mk q1
  have K6 := Aside0.mk q2
  have F1 := Aside0.mk (And.intro (Kd.F_below (Kd.F_below (Kd.F_below HF1.out.1 X1) X2) XQ) (And.intro (Kd.F_below (Kd.F_below (Kd.F_below HF1.out.2.1 X1) X2) XQ) (Kd.F_below (Kd.F_below (Kd.F_below HF1.out.2.2 X1) X2) XQ)))
  have F2 := Aside0.mk (And.intro (Kd.F_below (Kd.F_below HF2.out.1 X2) XQ) (And.intro (Kd.F_below (Kd.F_below HF2.out.2.1 X2) XQ) (Kd.F_below (Kd.F_below HF2.out.2.2 X2) XQ)))
  have F3 := Aside0.mk (And.intro (Kd.F_below HF3.out.1 XQ) (And.intro (Kd.F_below HF3.out.2.1 XQ) (Kd.F_below HF3.out.2.2 XQ)))
  have C1 := Aside0.mk (And.intro (Kd.F_below (Kd.F_below (Kd.F_below HC1.out.1 X1) X2) XQ) (And.intro (Kd.F_below (Kd.F_below (Kd.F_below HC1.out.2.1 X1) X2) XQ) (Kd.F_below (Kd.F_below (Kd.F_below HC1.out.2.2 X1) X2) XQ)))
  have C2 := Aside0.mk (And.intro (Kd.F_below (Kd.F_below HC2.out.1 X2) XQ) (And.intro (Kd.F_below (Kd.F_below HC2.out.2.1 X2) XQ) (Kd.F_below (Kd.F_below HC2.out.2.2 X2) XQ)))
  have C3 := Aside0.mk (And.intro (Kd.F_below HC3.out.1 XQ) (And.intro (Kd.F_below HC3.out.2.1 XQ) (Kd.F_below HC3.out.2.2 XQ)))
  have HB0 := Aside0.mk (below_step (below_step (below_step (below_step (below_drewN (Below.refl _ w) _) HB1.out) X1) X2) XQ)
  have zw := HB0.out.size
  have z0 : w.heap.size ≤ w1.heap.size := HB1.out.size
  clear HB1 HB2 HB3 HF1 HF2 HF3 HC1 HC2 HC3 y1 y2 y3 y4 X1 X2 XQ q1 q2 hW
  clear hz1 hz2 hz3
  have BX := Aside0.mk (Boxes.mk (Below.refl _ W0) (by omega) q3 q4)
  clear q3 q4
  generalize hg1 : w1.heap.size = g1 at *
  generalize hg2 : w2.heap.size = g2 at *
  generalize hg3 : w3.heap.size = g3 at *
  generalize hgg : g3 + 1 + 1 = g at *
  have hgW := Aside0.mk (show g + 2 ≤ W0.heap.size from by omega)
  have hl1 : g1 < g := by omega
  have hl2 : g2 < g := by omega
  have hl3 : g3 < g := by omega
  have hl4 : g3 + 1 < g := by omega
  have hl5 : g1 + 1 < g := by omega
  have hl6 : g2 + 1 < g := by omega
  clear hgg zq
  obtain ⟨f0, f1, f2⟩ := trio (BX.out.blk hl1 K1.out)
  obtain ⟨e0, e1, e2⟩ := trio (BX.out.blk hl2 K3.out)
  obtain ⟨r0, r1, r2⟩ := triof BX.out.b
  have hrm := BX.out.room
  obtain ⟨s0, s1, s2⟩ := trio BX.out.b
  have new1 := World.new_ne W0 _ f0
  have new2 := World.new_ne W0 _ e0
  have FA := Aside0.mk (Kd.F_mono (Kd.F_step F1.out.1 (fun k hk _ => BX.out.below.block k (Nat.lt_trans hk hl1))) (ok' := fun k => k < g) (fun k hk => Nat.lt_trans hk hl1))
  have FB := Aside0.mk (Kd.F_mono (Kd.F_step F2.out.1 (fun k hk _ => BX.out.below.block k (Nat.lt_trans hk hl2))) (ok' := fun k => k < g) (fun k hk => Nat.lt_trans hk hl2))
  go_region_held3 (fun w' => w'.cell? ⟨g1, 0, none⟩ = some (.slice p1a (insOf l1).length p1b) ∧ w'.cell? ⟨g2, 0, none⟩ = some (.slice p2a (insOf l2).length p2b)) (first | go_keep | exact ⟨(HBa.out.cell (by show g1 < _; omega)).trans f0, (HBa.out.cell (by show g2 < _; omega)).trans e0⟩ | exact ⟨(HBb.out.cell (by show g1 < _; omega)).trans f0, (HBb.out.cell (by show g2 < _; omega)).trans e0⟩ | exact ⟨(((HBb.out.mono (show g ≤ _ by omega)).setCell (p := ⟨g, 0, none⟩) (Nat.le_refl _) _).cell hl1).trans f0, (((HBb.out.mono (show g ≤ _ by omega)).setCell (p := ⟨g, 0, none⟩) (Nat.le_refl _) _).cell hl2).trans e0⟩ | fail) (first | (refine Kd.N_append_rows_step k86 (w0 := W0) W0.heap.size rfl (.tmp 83) (.tmp 85) 38 86 (.agg #[.string ⟨#[]⟩, .int .i64 0, .string ⟨#[]⟩]) 40 rfl Try.underlying38 info86 rfl (by decide) (by omega) (.slice (some ⟨W0.heap.size, 0, none⟩) 0 0) [] (insOf l1) p1a (insOf l1).length p1b (fun k => k ≠ g ∧ k ≠ g + 1) (fun k => k < g) rfl rfl (lit_N k86 86 W0.drew (base := W0.heap.size) (Nat.le_refl _) ⟨by show W0.heap.size ≠ g; omega, by show W0.heap.size ≠ g + 1; omega⟩) (Kd.F_alloc (Kd.F_drew FA.out) _) (fun k hk => ⟨⟨by omega, by omega⟩, fun e => by simp [Value.ownBlock] at e; omega⟩) (fun k hk => by have h1 : W0.heap.size ≤ k := Nat.le_trans (below_alloc (below_drew (Below.refl W0.heap.size W0)) _).size hk; exact ⟨by omega, by omega⟩) (below_alloc (below_drew (Below.refl _ W0)) _) ((below_alloc (below_drew (Below.refl W0.heap.size W0)) _).size) (by simp only [List.length_nil]; omega) ?_; intro va wa ho hb hg hat; rw [List.nil_append] at ho; have HNa := Aside0.mk ho; have HBa := Aside0.mk hb; have hza := hb.size; clear ho hb hg hat) | (refine Kd.N_append_rows_step k86 (w0 := W0) W0.heap.size rfl (.tmp 86) (.tmp 88) 38 86 (.agg #[.string ⟨#[]⟩, .int .i64 0, .string ⟨#[]⟩]) 40 rfl Try.underlying38 info86 rfl (by decide) (by omega) va (insOf l1) (insOf l2) p2a (insOf l2).length p2b (fun k => k ≠ g ∧ k ≠ g + 1) (fun k => k < g) rfl rfl (HNa.out) (Kd.F_step FB.out (fun k hk _ => HBa.out.block k (by omega))) (fun k hk => ⟨⟨by omega, by omega⟩, fun e => by have := Kd.N_base HNa.out k e.symm; omega⟩) (fun k hk => ⟨by omega, by omega⟩) (HBa.out) (hza) (by omega) ?_; intro vb wb ho hb hg hat; obtain ⟨Aq0, cq0, ev⟩ := Kd.N_slice ho; rw [List.length_append] at ev; subst ev; have HNb := Aside0.mk ho; have HBb := Aside0.mk hb; have hzb := hb.size; have BXb := Boxes.step BX.out hb; obtain ⟨t0, t1, t2⟩ := trio BXb.b; obtain ⟨i0, i1, i2⟩ := triof BXb.b; clear BXb ho hb hg hat))
  have BY := Aside0.mk ((Boxes.step BX.out HBb.out).put0 (.slice Aq0 ((insOf l1).length + (insOf l2).length) cq0))
  have NN0 := Aside0.mk (Kd.N_far (p := ⟨g, 0, none⟩) (Kd.N_lower HNb.out (show g ≤ _ by omega)) (fun k hk => hk.1) (.slice Aq0 ((insOf l1).length + (insOf l2).length) cq0))
  clear BX FA FB HNa HBa HNb HBb new1 new2 f0 f1 f2 e0 e1 e2 r0 r1 r2 s0 s1 s2 t0 t1 t2 i0 i1 i2 hza hzb hrm
  have BX := BY
  clear BY
  go_upto_region 14 with (fail)
  generalize hWn : World.setCell wb _ _ = W1 at *
  clear hWn
  obtain ⟨f0, f1, f2⟩ := trio (BX.out.blk hl1 K1.out)
  obtain ⟨e0, e1, e2⟩ := trio (BX.out.blk hl2 K3.out)
  obtain ⟨r0, r1, r2⟩ := triof BX.out.b
  have hrm := BX.out.room
  obtain ⟨s0, s1, s2⟩ := trio BX.out.b
  have new1 := World.new_ne W1 _ f1
  have new2 := World.new_ne W1 _ e1
  have FA := Aside0.mk (Kd.F_mono (Kd.F_step F1.out.2.1 (fun k hk _ => BX.out.below.block k (Nat.lt_trans hk hl1))) (ok' := fun k => k < g) (fun k hk => Nat.lt_trans hk hl1))
  have FB := Aside0.mk (Kd.F_mono (Kd.F_step F2.out.2.1 (fun k hk _ => BX.out.below.block k (Nat.lt_trans hk hl2))) (ok' := fun k => k < g) (fun k hk => Nat.lt_trans hk hl2))
  go_region_held3 (fun w' => w'.cell? ⟨g1, 1, none⟩ = some (.slice p1c (outsOf l1).length p1d) ∧ w'.cell? ⟨g2, 1, none⟩ = some (.slice p2c (outsOf l2).length p2d)) (first | go_keep | exact ⟨(HBa.out.cell (by show g1 < _; omega)).trans f1, (HBa.out.cell (by show g2 < _; omega)).trans e1⟩ | exact ⟨(HBb.out.cell (by show g1 < _; omega)).trans f1, (HBb.out.cell (by show g2 < _; omega)).trans e1⟩ | exact ⟨(((HBb.out.mono (show g ≤ _ by omega)).setCell (p := ⟨g, 1, none⟩) (Nat.le_refl _) _).cell hl1).trans f1, (((HBb.out.mono (show g ≤ _ by omega)).setCell (p := ⟨g, 1, none⟩) (Nat.le_refl _) _).cell hl2).trans e1⟩ | fail) (first | (refine Kd.N_append_rows_step k88 (w0 := W1) W1.heap.size rfl (.tmp 91) (.tmp 93) 39 88 (.agg #[.string ⟨#[]⟩, .int .i64 0]) 24 rfl Try.underlying39 info88 rfl (by decide) (by omega) (.slice (some ⟨W1.heap.size, 0, none⟩) 0 0) [] (outsOf l1) p1c (outsOf l1).length p1d (fun k => k ≠ g ∧ k ≠ g + 1) (fun k => k < g) rfl rfl (lit_N k88 88 W1.drew (base := W1.heap.size) (Nat.le_refl _) ⟨by show W1.heap.size ≠ g; omega, by show W1.heap.size ≠ g + 1; omega⟩) (Kd.F_alloc (Kd.F_drew FA.out) _) (fun k hk => ⟨⟨by omega, by omega⟩, fun e => by simp [Value.ownBlock] at e; omega⟩) (fun k hk => by have h1 : W1.heap.size ≤ k := Nat.le_trans (below_alloc (below_drew (Below.refl W1.heap.size W1)) _).size hk; exact ⟨by omega, by omega⟩) (below_alloc (below_drew (Below.refl _ W1)) _) ((below_alloc (below_drew (Below.refl W1.heap.size W1)) _).size) (by simp only [List.length_nil]; omega) ?_; intro va wa ho hb hg hat; rw [List.nil_append] at ho; have HNa := Aside0.mk ho; have HBa := Aside0.mk hb; have hza := hb.size; clear ho hb hg hat) | (refine Kd.N_append_rows_step k88 (w0 := W1) W1.heap.size rfl (.tmp 94) (.tmp 96) 39 88 (.agg #[.string ⟨#[]⟩, .int .i64 0]) 24 rfl Try.underlying39 info88 rfl (by decide) (by omega) va (outsOf l1) (outsOf l2) p2c (outsOf l2).length p2d (fun k => k ≠ g ∧ k ≠ g + 1) (fun k => k < g) rfl rfl (HNa.out) (Kd.F_step FB.out (fun k hk _ => HBa.out.block k (by omega))) (fun k hk => ⟨⟨by omega, by omega⟩, fun e => by have := Kd.N_base HNa.out k e.symm; omega⟩) (fun k hk => ⟨by omega, by omega⟩) (HBa.out) (hza) (by omega) ?_; intro vb wb ho hb hg hat; obtain ⟨Aq1, cq1, ev⟩ := Kd.N_slice ho; rw [List.length_append] at ev; subst ev; have HNb := Aside0.mk ho; have HBb := Aside0.mk hb; have hzb := hb.size; have BXb := Boxes.step BX.out hb; obtain ⟨t0, t1, t2⟩ := trio BXb.b; obtain ⟨i0, i1, i2⟩ := triof BXb.b; clear BXb ho hb hg hat))
  have BY := Aside0.mk ((Boxes.step BX.out HBb.out).put1 (.slice Aq1 ((outsOf l1).length + (outsOf l2).length) cq1))
  have NN1 := Aside0.mk (Kd.N_far (p := ⟨g, 1, none⟩) (Kd.N_lower HNb.out (show g ≤ _ by omega)) (fun k hk => hk.1) (.slice Aq1 ((outsOf l1).length + (outsOf l2).length) cq1))
  replace NN0 := Aside0.mk (Kd.N_far (p := ⟨g, 1, none⟩) (Kd.N_below NN0.out HBb.out) (fun k hk => hk.1) (.slice Aq1 ((outsOf l1).length + (outsOf l2).length) cq1))
  clear BX FA FB HNa HBa HNb HBb new1 new2 f0 f1 f2 e0 e1 e2 r0 r1 r2 s0 s1 s2 t0 t1 t2 i0 i1 i2 hza hzb hrm
  have BX := BY
  clear BY
  go_upto_region 15 with (fail)
  generalize hWn : World.setCell wb _ _ = W2 at *
  clear hWn
  obtain ⟨f0, f1, f2⟩ := trio (BX.out.blk hl1 K1.out)
  obtain ⟨e0, e1, e2⟩ := trio (BX.out.blk hl2 K3.out)
  obtain ⟨r0, r1, r2⟩ := triof BX.out.b
  have hrm := BX.out.room
  obtain ⟨s0, s1, s2⟩ := trio BX.out.b
  have new1 := World.new_ne W2 _ f2
  have new2 := World.new_ne W2 _ e2
  have FA := Aside0.mk (Kd.F_mono (Kd.F_step F1.out.2.2 (fun k hk _ => BX.out.below.block k (Nat.lt_trans hk hl1))) (ok' := fun k => k < g) (fun k hk => Nat.lt_trans hk hl1))
  have FB := Aside0.mk (Kd.F_mono (Kd.F_step F2.out.2.2 (fun k hk _ => BX.out.below.block k (Nat.lt_trans hk hl2))) (ok' := fun k => k < g) (fun k hk => Nat.lt_trans hk hl2))
  go_region_held3 (fun w' => w'.cell? ⟨g1, 2, none⟩ = some (.slice p1e (rulesOf l1).length p1f) ∧ w'.cell? ⟨g2, 2, none⟩ = some (.slice p2e (rulesOf l2).length p2f)) (first | go_keep | exact ⟨(HBa.out.cell (by show g1 < _; omega)).trans f2, (HBa.out.cell (by show g2 < _; omega)).trans e2⟩ | exact ⟨(HBb.out.cell (by show g1 < _; omega)).trans f2, (HBb.out.cell (by show g2 < _; omega)).trans e2⟩ | exact ⟨(((HBb.out.mono (show g ≤ _ by omega)).setCell (p := ⟨g, 2, none⟩) (Nat.le_refl _) _).cell hl1).trans f2, (((HBb.out.mono (show g ≤ _ by omega)).setCell (p := ⟨g, 2, none⟩) (Nat.le_refl _) _).cell hl2).trans e2⟩ | fail) (first | (refine Kd.N_append_rows_step k29 (w0 := W2) W2.heap.size rfl (.tmp 99) (.tmp 101) 40 29 (.agg #[.string ⟨#[]⟩, .slice none 0 0, .slice none 0 0]) 64 rfl Try.underlying40 info29 rfl (by decide) (by omega) (.slice (some ⟨W2.heap.size, 0, none⟩) 0 0) [] (rulesOf l1) p1e (rulesOf l1).length p1f (fun k => k ≠ g ∧ k ≠ g + 1) (fun k => k < g) rfl rfl (lit_N k29 29 W2.drew (base := W2.heap.size) (Nat.le_refl _) ⟨by show W2.heap.size ≠ g; omega, by show W2.heap.size ≠ g + 1; omega⟩) (Kd.F_alloc (Kd.F_drew FA.out) _) (fun k hk => ⟨⟨by omega, by omega⟩, fun e => by simp [Value.ownBlock] at e; omega⟩) (fun k hk => by have h1 : W2.heap.size ≤ k := Nat.le_trans (below_alloc (below_drew (Below.refl W2.heap.size W2)) _).size hk; exact ⟨by omega, by omega⟩) (below_alloc (below_drew (Below.refl _ W2)) _) ((below_alloc (below_drew (Below.refl W2.heap.size W2)) _).size) (by simp only [List.length_nil]; omega) ?_; intro va wa ho hb hg hat; rw [List.nil_append] at ho; have HNa := Aside0.mk ho; have HBa := Aside0.mk hb; have hza := hb.size; clear ho hb hg hat) | (refine Kd.N_append_rows_step k29 (w0 := W2) W2.heap.size rfl (.tmp 102) (.tmp 104) 40 29 (.agg #[.string ⟨#[]⟩, .slice none 0 0, .slice none 0 0]) 64 rfl Try.underlying40 info29 rfl (by decide) (by omega) va (rulesOf l1) (rulesOf l2) p2e (rulesOf l2).length p2f (fun k => k ≠ g ∧ k ≠ g + 1) (fun k => k < g) rfl rfl (HNa.out) (Kd.F_step FB.out (fun k hk _ => HBa.out.block k (by omega))) (fun k hk => ⟨⟨by omega, by omega⟩, fun e => by have := Kd.N_base HNa.out k e.symm; omega⟩) (fun k hk => ⟨by omega, by omega⟩) (HBa.out) (hza) (by omega) ?_; intro vb wb ho hb hg hat; obtain ⟨Aq2, cq2, ev⟩ := Kd.N_slice ho; rw [List.length_append] at ev; subst ev; have HNb := Aside0.mk ho; have HBb := Aside0.mk hb; have hzb := hb.size; have BXb := Boxes.step BX.out hb; obtain ⟨t0, t1, t2⟩ := trio BXb.b; obtain ⟨i0, i1, i2⟩ := triof BXb.b; clear BXb ho hb hg hat))
  have BY := Aside0.mk ((Boxes.step BX.out HBb.out).put2 (.slice Aq2 ((rulesOf l1).length + (rulesOf l2).length) cq2))
  have NN2 := Aside0.mk (Kd.N_far (p := ⟨g, 2, none⟩) (Kd.N_lower HNb.out (show g ≤ _ by omega)) (fun k hk => hk.1) (.slice Aq2 ((rulesOf l1).length + (rulesOf l2).length) cq2))
  replace NN0 := Aside0.mk (Kd.N_far (p := ⟨g, 2, none⟩) (Kd.N_below NN0.out HBb.out) (fun k hk => hk.1) (.slice Aq2 ((rulesOf l1).length + (rulesOf l2).length) cq2))
  replace NN1 := Aside0.mk (Kd.N_far (p := ⟨g, 2, none⟩) (Kd.N_below NN1.out HBb.out) (fun k hk => hk.1) (.slice Aq2 ((rulesOf l1).length + (rulesOf l2).length) cq2))
  clear BX FA FB HNa HBa HNb HBb new1 new2 f0 f1 f2 e0 e1 e2 r0 r1 r2 s0 s1 s2 t0 t1 t2 i0 i1 i2 hza hzb hrm
  have BX := BY
  clear BY
  go_upto_region 16 with (fail)
  generalize hWn : World.setCell wb _ _ = W3 at *
  clear hWn
  obtain ⟨f0, f1, f2⟩ := trio (BX.out.blk hl5 K2.out)
  obtain ⟨e0, e1, e2⟩ := trio (BX.out.blk hl6 K4.out)
  go_upto_region 17 with (first | (go_at_call 15; (with_reducible refine (moved_true s HLO.out.1 ?hz ?hn ?hm ?c1 ?l1 ?c2 ?l2).mono ?_); (case hz => omega); (case hn => omega); (case hm => omega); (case c1 => exact Kd.F_now (Kd.F_step C1.out.1 (fun k hk _ => BX.out.below.block k (Nat.lt_trans hk hl1)))); (case l1 => exact HL1.out.1); (case c2 => exact Kd.F_now (Kd.F_step C2.out.1 (fun k hk _ => BX.out.below.block k (Nat.lt_trans hk hl2)))); (case l2 => exact HL2.out.1); rintro e wm ⟨Am0, cm0, rfl, hr, hb⟩; have BXb := Boxes.step BX.out hb; obtain ⟨t0, t1, t2⟩ := trio BXb.s; obtain ⟨i0, i1, i2⟩ := triof BXb.s; have HRm := Aside0.mk hr; have HBm := Aside0.mk hb; clear BXb hr hb))
  have BY := Aside0.mk ((Boxes.step BX.out HBm.out).put3 (.slice Am0 ((insAt l1).length + (insAt l2).length) cm0))
  have hrm := BX.out.room
  have MM0 := Aside0.mk (Kd.N_far (p := ⟨g + 1, 0, none⟩) (Kd.N_lower (Kd.R_N (Kd.R_mono (Kd.R_bound HRm.out) (ok' := fun k => k ≠ g ∧ k ≠ g + 1) (fun k hk => ⟨by have := hk.2.1; omega, by have := hk.2.1; omega⟩))) (show g ≤ _ by omega)) (fun k hk => hk.2) (.slice Am0 ((insAt l1).length + (insAt l2).length) cm0))
  replace NN0 := Aside0.mk (Kd.N_far (p := ⟨g + 1, 0, none⟩) (Kd.N_below NN0.out HBm.out) (fun k hk => hk.2) (.slice Am0 ((insAt l1).length + (insAt l2).length) cm0))
  replace NN1 := Aside0.mk (Kd.N_far (p := ⟨g + 1, 0, none⟩) (Kd.N_below NN1.out HBm.out) (fun k hk => hk.2) (.slice Am0 ((insAt l1).length + (insAt l2).length) cm0))
  replace NN2 := Aside0.mk (Kd.N_far (p := ⟨g + 1, 0, none⟩) (Kd.N_below NN2.out HBm.out) (fun k hk => hk.2) (.slice Am0 ((insAt l1).length + (insAt l2).length) cm0))
  clear BX HRm HBm f0 f1 f2 e0 e1 e2 t0 t1 t2 i0 i1 i2 hrm
  have BX := BY
  clear BY
  generalize hWn : World.setCell wm _ _ = W4 at *
  clear hWn
  obtain ⟨f0, f1, f2⟩ := trio (BX.out.blk hl5 K2.out)
  obtain ⟨e0, e1, e2⟩ := trio (BX.out.blk hl6 K4.out)
  go_upto_region 18 with (first | (go_at_call 15; (with_reducible refine (moved_true s HLO.out.2.1 ?hz ?hn ?hm ?c1 ?l1 ?c2 ?l2).mono ?_); (case hz => omega); (case hn => omega); (case hm => omega); (case c1 => exact Kd.F_now (Kd.F_step C1.out.2.1 (fun k hk _ => BX.out.below.block k (Nat.lt_trans hk hl1)))); (case l1 => exact HL1.out.2.1); (case c2 => exact Kd.F_now (Kd.F_step C2.out.2.1 (fun k hk _ => BX.out.below.block k (Nat.lt_trans hk hl2)))); (case l2 => exact HL2.out.2.1); rintro e wm ⟨Am1, cm1, rfl, hr, hb⟩; have BXb := Boxes.step BX.out hb; obtain ⟨t0, t1, t2⟩ := trio BXb.s; obtain ⟨i0, i1, i2⟩ := triof BXb.s; have HRm := Aside0.mk hr; have HBm := Aside0.mk hb; clear BXb hr hb))
  have BY := Aside0.mk ((Boxes.step BX.out HBm.out).put4 (.slice Am1 ((outsAt l1).length + (outsAt l2).length) cm1))
  have hrm := BX.out.room
  have MM1 := Aside0.mk (Kd.N_far (p := ⟨g + 1, 1, none⟩) (Kd.N_lower (Kd.R_N (Kd.R_mono (Kd.R_bound HRm.out) (ok' := fun k => k ≠ g ∧ k ≠ g + 1) (fun k hk => ⟨by have := hk.2.1; omega, by have := hk.2.1; omega⟩))) (show g ≤ _ by omega)) (fun k hk => hk.2) (.slice Am1 ((outsAt l1).length + (outsAt l2).length) cm1))
  replace MM0 := Aside0.mk (Kd.N_far (p := ⟨g + 1, 1, none⟩) (Kd.N_below MM0.out HBm.out) (fun k hk => hk.2) (.slice Am1 ((outsAt l1).length + (outsAt l2).length) cm1))
  replace NN0 := Aside0.mk (Kd.N_far (p := ⟨g + 1, 1, none⟩) (Kd.N_below NN0.out HBm.out) (fun k hk => hk.2) (.slice Am1 ((outsAt l1).length + (outsAt l2).length) cm1))
  replace NN1 := Aside0.mk (Kd.N_far (p := ⟨g + 1, 1, none⟩) (Kd.N_below NN1.out HBm.out) (fun k hk => hk.2) (.slice Am1 ((outsAt l1).length + (outsAt l2).length) cm1))
  replace NN2 := Aside0.mk (Kd.N_far (p := ⟨g + 1, 1, none⟩) (Kd.N_below NN2.out HBm.out) (fun k hk => hk.2) (.slice Am1 ((outsAt l1).length + (outsAt l2).length) cm1))
  clear BX HRm HBm f0 f1 f2 e0 e1 e2 t0 t1 t2 i0 i1 i2 hrm
  have BX := BY
  clear BY
  generalize hWn : World.setCell wm _ _ = W5 at *
  clear hWn
  obtain ⟨f0, f1, f2⟩ := trio (BX.out.blk hl5 K2.out)
  obtain ⟨e0, e1, e2⟩ := trio (BX.out.blk hl6 K4.out)
  go_upto_region 19 with (first | (go_at_call 15; (with_reducible refine (moved_true s HLO.out.2.2 ?hz ?hn ?hm ?c1 ?l1 ?c2 ?l2).mono ?_); (case hz => omega); (case hn => omega); (case hm => omega); (case c1 => exact Kd.F_now (Kd.F_step C1.out.2.2 (fun k hk _ => BX.out.below.block k (Nat.lt_trans hk hl1)))); (case l1 => exact HL1.out.2.2); (case c2 => exact Kd.F_now (Kd.F_step C2.out.2.2 (fun k hk _ => BX.out.below.block k (Nat.lt_trans hk hl2)))); (case l2 => exact HL2.out.2.2); rintro e wm ⟨Am2, cm2, rfl, hr, hb⟩; have BXb := Boxes.step BX.out hb; obtain ⟨t0, t1, t2⟩ := trio BXb.s; obtain ⟨i0, i1, i2⟩ := triof BXb.s; have HRm := Aside0.mk hr; have HBm := Aside0.mk hb; clear BXb hr hb))
  have BY := Aside0.mk ((Boxes.step BX.out HBm.out).put5 (.slice Am2 ((rulesAt l1).length + (rulesAt l2).length) cm2))
  have hrm := BX.out.room
  have MM2 := Aside0.mk (Kd.N_far (p := ⟨g + 1, 2, none⟩) (Kd.N_lower (Kd.R_N (Kd.R_mono (Kd.R_bound HRm.out) (ok' := fun k => k ≠ g ∧ k ≠ g + 1) (fun k hk => ⟨by have := hk.2.1; omega, by have := hk.2.1; omega⟩))) (show g ≤ _ by omega)) (fun k hk => hk.2) (.slice Am2 ((rulesAt l1).length + (rulesAt l2).length) cm2))
  replace MM0 := Aside0.mk (Kd.N_far (p := ⟨g + 1, 2, none⟩) (Kd.N_below MM0.out HBm.out) (fun k hk => hk.2) (.slice Am2 ((rulesAt l1).length + (rulesAt l2).length) cm2))
  replace MM1 := Aside0.mk (Kd.N_far (p := ⟨g + 1, 2, none⟩) (Kd.N_below MM1.out HBm.out) (fun k hk => hk.2) (.slice Am2 ((rulesAt l1).length + (rulesAt l2).length) cm2))
  replace NN0 := Aside0.mk (Kd.N_far (p := ⟨g + 1, 2, none⟩) (Kd.N_below NN0.out HBm.out) (fun k hk => hk.2) (.slice Am2 ((rulesAt l1).length + (rulesAt l2).length) cm2))
  replace NN1 := Aside0.mk (Kd.N_far (p := ⟨g + 1, 2, none⟩) (Kd.N_below NN1.out HBm.out) (fun k hk => hk.2) (.slice Am2 ((rulesAt l1).length + (rulesAt l2).length) cm2))
  replace NN2 := Aside0.mk (Kd.N_far (p := ⟨g + 1, 2, none⟩) (Kd.N_below NN2.out HBm.out) (fun k hk => hk.2) (.slice Am2 ((rulesAt l1).length + (rulesAt l2).length) cm2))
  clear BX HRm HBm f0 f1 f2 e0 e1 e2 t0 t1 t2 i0 i1 i2 hrm
  have BX := BY
  clear BY
  generalize hWn : World.setCell wm _ _ = W6 at *
  clear hWn
  obtain ⟨f0, f1, f2⟩ := trio (BX.out.blk hl3 K5.out)
  obtain ⟨e0, e1, e2⟩ := trio BX.out.b
  have hrm := BX.out.room
  go_wp2_with (first | (go_at_call 12; (with_reducible refine (num_calls _ _).mono ?_); rintro e wn ⟨rfl, rfl⟩) | (go_at_call 16; (with_reducible refine (program_true ?q1 ?q2 HPS.out).mono ?_); (case q1 => exact ⟨p3a, p3b, p3c, p3d, p3e, p3f, by rw [List.length_append], by rw [List.length_append], by rw [List.length_append], (Kd.F_now (Kd.F_step F3.out.1 (fun k hk _ => BX.out.below.block k (Nat.lt_trans hk hl3)))), (Kd.F_now (Kd.F_step F3.out.2.1 (fun k hk _ => BX.out.below.block k (Nat.lt_trans hk hl3)))), (Kd.F_now (Kd.F_step F3.out.2.2 (fun k hk _ => BX.out.below.block k (Nat.lt_trans hk hl3))))⟩); (case q2 => exact ⟨Aq0, cq0, Aq1, cq1, Aq2, cq2, by rw [List.length_append], by rw [List.length_append], by rw [List.length_append], (Kd.N_reads' NN0.out).2.2, (Kd.N_reads' NN1.out).2.2, (Kd.N_reads' NN2.out).2.2⟩); rintro e wp ⟨rfl, hb⟩; have BXp := Boxes.step BX.out hb; obtain ⟨t0, t1, t2⟩ := trio (BXp.blk hl4 K6.out); obtain ⟨i0, i1, i2⟩ := trio BXp.s; have HBp := Aside0.mk hb; have BP := Aside0.mk BXp; clear BXp hb) | (go_at_call 17; (with_reducible refine (places_true (L0 := insAt l1 ++ (insAt l2).map (fun x => x + ((s.size + 1 : Nat) : Int))) (L1 := outsAt l1 ++ (outsAt l2).map (fun x => x + ((s.size + 1 : Nat) : Int))) (L2 := rulesAt l1 ++ (rulesAt l2).map (fun x => x + ((s.size + 1 : Nat) : Int))) ?e0 ?e1 ?e2 ?hz ?ha ?ka ?hb ?kb).mono ?_); (case e0 => rw [List.length_append, List.length_map]); (case e1 => rw [List.length_append, List.length_map]); (case e2 => rw [List.length_append, List.length_map]); (case hz => exact ⟨by omega, by omega, by omega⟩); (case ha => exact ⟨(Kd.F_now (Kd.F_step C3.out.1 (fun k hk _ => BP.out.below.block k (Nat.lt_trans hk hl3)))), (Kd.F_now (Kd.F_step C3.out.2.1 (fun k hk _ => BP.out.below.block k (Nat.lt_trans hk hl3)))), (Kd.F_now (Kd.F_step C3.out.2.2 (fun k hk _ => BP.out.below.block k (Nat.lt_trans hk hl3))))⟩); (case ka => exact HL3.out); (case hb => exact ⟨(Kd.N_reads' (Kd.N_below MM0.out HBp.out)).2.2, (Kd.N_reads' (Kd.N_below MM1.out HBp.out)).2.2, (Kd.N_reads' (Kd.N_below MM2.out HBp.out)).2.2⟩); (case kb => exact ⟨Nat.le_trans (Nat.le_of_eq (Kd.N_reads' (Kd.N_below MM0.out HBp.out)).1.symm) (Kd.N_reads' (Kd.N_below MM0.out HBp.out)).2.1, Nat.le_trans (Nat.le_of_eq (Kd.N_reads' (Kd.N_below MM1.out HBp.out)).1.symm) (Kd.N_reads' (Kd.N_below MM1.out HBp.out)).2.1, Nat.le_trans (Nat.le_of_eq (Kd.N_reads' (Kd.N_below MM2.out HBp.out)).1.symm) (Kd.N_reads' (Kd.N_below MM2.out HBp.out)).2.1⟩); rintro e wq ⟨rfl, hb⟩; have HBq := Aside0.mk hb; clear hb) | (go_at_call 8; (with_reducible refine (works_calls _).mono ?_); rintro e wk ⟨rfl, hb⟩; have HBW := Aside0.mk hb; clear hb))
  go_ret
  exact ⟨rfl, below_step (below_step (below_step (HB0.out.trans (BX.out.below.mono (by omega))) HBp.out) HBq.out) HBW.out⟩
theorem joins_walk {s t : ByteArray} (hs : s.size ≤ 140737488351232) (ht : t.size ≤ 140737488351232) (w : World) : Calls Try.prog 4 #[.string s, .string t] w (TrueEnd w) := by
  by_cases hl : 20000 < s.size ∨ 20000 < t.size
  · exact joins_long hs ht hl w
  · cases hp : programP s with
    | error a => exact joins_err (by omega) (by omega) hp w
    | ok l1 =>
      cases hq : programP t with
      | error a => exact joins_half (by omega) (by omega) hp hq w
      | ok l2 => exact joins_both (by omega) (by omega) hp hq w
end Go.Proofs.Ytdodajpiidkglaa.K
