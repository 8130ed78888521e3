/- lex.Tokens: the walk. A text is cut into the tokens of 'toks'; nothing that was there is changed. Condition: the text has at most 2147483647 bytes. -/
import Derived.Test.YtdodajpiidkglaaKTokPure
import Derived.BigRegion
namespace Go.Proofs.Ytdodajpiidkglaa.K
open Go.RowKit Go.Proofs.YtdodajpiidkglaaW.PrintWords Go.Proofs.YtdodajpiidkglaaW.PrintLast Go.Proofs.YtdodajpiidkglaaW.PrintMore Go.Proofs.Ytdodajpiidkglaa.PAll
set_option linter.unusedVariables false
set_option linter.unusedSimpArgs false

def jv : Option Nat → Int
  | none => -1
  | some m => (m : Int)

theorem rd_snoc (l : List Tok) (t : Tok) : rd_T71 (l ++ [t]) l.length = t := by simp [rd_T71]
theorem jv_ne {j : Option Nat} {i : Nat} (h : j ≠ some i) : jv j ≠ (i : Int) := by
  cases j with
  | none => simp only [jv]; omega
  | some m => simp only [jv]; intro e; exact h (by rw [show m = i from by omega])

theorem blank_int (s : ByteArray) (hs : s.size ≤ 140737488355328) (i : Nat) (x : Int) (hx : x = (i : Int)) (hi : i ≤ s.size) (w : World) :
    Calls Try.prog 72 #[.string s, .int .i64 x] w fun e w' => e = .returned (.int .i64 (blk false (from_ s i) i : Int)) ∧ Drawn0 w w' := by
  subst hx
  exact lex_blank.calls _ s _ _ w (blank_val s hs i hi)

def TokPost (s : ByteArray) (w : World) (e : Ending) (w' : World) : Prop :=
  ∃ v, e = .returned (.tuple #[v, tokV (toks s).2.1, .int .i64 ((toks s).2.2.1 : Int), .int .i64 ((toks s).2.2.2 : Int)]) ∧ Kd.R k71 71 w' w.heap.size (fun _ => True) v (toks s).1 ∧ Below w.heap.size w w'

set_option maxHeartbeats 8000000 in
set_option maxRecDepth 100000 in
theorem tokens_calls (s : ByteArray) (hs : s.size ≤ 2147483647) (w : World) : Calls Try.prog 51 #[.string s] w (TokPost s w) := by
  have hs1 : s.size ≤ 140737488355328 := by omega
  generalize hR : toks s = R
  have HR0 := Aside0.mk hR
  clear hR
  go_enter Try.func51, Try.ntmps51
  go_wp2_with (go_at_call 72; (with_reducible refine (blank_int s hs1 0 _ (by omega) (by omega) _).mono ?_); rintro e w' ⟨rfl, ⟨nd, rfl⟩⟩)



  have hb0 := blk_le (from_ s 0) false 0
  rw [from_len] at hb0
  go_loopg [6, 7, 8] (s.size + 1) (fun n v6 v7 v8 wc => ∃ (i : Nat) (j : Option Nat) (acc : List Tok), v7 = .int .i64 (jv j) ∧ v8 = .int .i64 (i : Int) ∧ Aside0 (tokF s n i j acc = R) ∧ i ≤ s.size ∧ s.size + 1 ≤ n + i ∧ Aside0 (acc.length ≤ i) ∧ Aside0 (Kd.R k71 71 wc w.heap.size (fun k => k ≠ w.heap.size) v6 acc) ∧ Aside0 (wc.heap[w.heap.size]? = some (.cells #[.int .i64 0, .string ⟨#[]⟩, .int .i64 0, .int .i64 0] 71 (0, 0))) ∧ Aside0 (Below w.heap.size w wc))
  case atStart =>
    refine ⟨blk false (from_ s 0) 0, none, [], rfl, rfl, ?_, by omega, by omega, ⟨Nat.zero_le _⟩, ⟨?_⟩, ⟨?_⟩, ⟨?_⟩⟩
    · exact HR0
    · refine Kd.R_drewN ⟨fun k hk => ?_, [], ⟨rfl, .inr ⟨w.heap.size + 1, 0, #[], rfl, by omega, ?_, Nat.le_refl _, by decide, rfl, rfl⟩⟩, Reps.none _ _⟩ nd
      · have : w.heap.size + 1 = k := by simpa [Value.ownBlock] using hk
        omega
      · have h := blk_new (w.alloc (.cells #[.int .i64 0, .string ⟨#[]⟩, .int .i64 0, .int .i64 0] 71)) (.cells #[] 71)
        rw [World.size_alloc] at h
        exact h
    · exact blk_drewN (blk_alloc (blk_new w _) _) nd
    · exact pw_below_drewN (((Below.refl _ _).alloc (Nat.le_refl _) _).alloc (by simp) _) nd
  case round =>
    clear hb0
    obtain ⟨i, j, acc, rfl, rfl, HT, hi, hn, HL, HA, HZ, HB⟩ := hrel
    obtain ⟨n, rfl⟩ : ∃ n, gk = n + 1 := ⟨gk - 1, by omega⟩
    by_cases hlt : i < s.size
    · obtain ⟨tb, hnx⟩ : ∃ tb, nextF (from_ s i) i = tb := ⟨_, rfl⟩
      obtain ⟨t, b⟩ := tb
      have hnc : ∀ w1, Calls Try.prog 73 #[.string s, .int .i64 (i : Int)] w1 fun e w' => e = .returned (.tuple #[.agg #[.int .i64 (t.k : Int), .string t.t, .int .i64 (t.a : Int), .int .i64 (t.e : Int)], .bool b]) ∧ Below w1.heap.size w1 w' := fun w1 => by
        have h := next_calls s i hs1 hlt w1
        unfold NextPost at h
        rw [hnx] at h
        exact h
      have HNC := Aside0.mk hnc
      clear hnc
      have hend := nextF_end (from_ s i) i
      rw [hnx, from_len] at hend
      simp only at hend
      have hte : t.e ≤ s.size := by have := hend.1; omega
      have HEnd := Aside0.mk (fun h : b = true => (hend.2.1 h).1)
      clear hend
      have hT := HT.out
      simp only [tokF] at hT
      rw [if_pos hlt, hnx] at hT
      simp only at hT
      have HT2 := Aside0.mk hT
      clear hT HT hnx
      go_upto_region 7 with (go_at_call 73; (with_reducible refine (HNC.out _).mono ?_); rintro e w3 ⟨rfl, hb⟩; have HZ3 := Aside0.mk (blk_below HZ.out hb); have HA3 := Aside0.mk (Kd.R_below HA.out hb); have HB3 := Aside0.mk (HB.out.trans (hb.mono HB.out.size)); clear hb HZ HA HB)
      have hpos : w.heap.size < w3.heap.size := blk_lt HZ3.out
      have HT0 := Aside0.mk (blk_new w3 (.cells #[.int .i64 (t.k : Int), .string t.t, .int .i64 (t.a : Int), .int .i64 (t.e : Int)] 71))
      have HZ4 := Aside0.mk (blk_alloc HZ3.out (.cells #[.int .i64 (t.k : Int), .string t.t, .int .i64 (t.a : Int), .int .i64 (t.e : Int)] 71))
      have HA4 := Aside0.mk (Kd.R_alloc HA3.out (.cells #[.int .i64 (t.k : Int), .string t.t, .int .i64 (t.a : Int), .int .i64 (t.e : Int)] 71))
      have HB4 := Aside0.mk (HB3.out.alloc (Nat.le_of_lt hpos) (.cells #[.int .i64 (t.k : Int), .string t.t, .int .i64 (t.a : Int), .int .i64 (t.e : Int)] 71))
      clear HZ3 HA3 HB3
      generalize hw4 : w3.alloc (.cells #[.int .i64 (t.k : Int), .string t.t, .int .i64 (t.a : Int), .int .i64 (t.e : Int)] 71) = w4 at HZ4 HA4 HB4 HT0 ⊢
      have hs4 : w3.heap.size < w4.heap.size := by rw [← hw4]; simp
      clear hw4
      generalize w3.heap.size = g9 at HT0 hpos hs4 ⊢
      have ht0 := blk_cell HT0.out 0
      go_cut [11] (fun v11 wc2 => v11 = .bool (isWord t.k) ∧ wc2 = w4)
      case first =>
        by_cases h0 : t.k = 0
        · have b0 : decide ((0 : Int) < (t.k : Int)) = false := decide_eq_false (by omega)
          have HW := Aside0.mk (show isWord t.k = false from by simp [isWord, h0])
          go_wp2
          go_meet
          case rel => exact ⟨by rw [HW.out], rfl⟩
        have b0 : decide ((0 : Int) < (t.k : Int)) = true := decide_eq_true (by omega)
        by_cases h8 : t.k < 8
        · have b8 : decide ((t.k : Int) < 8) = true := decide_eq_true (by omega)
          by_cases h4 : t.k = 4
          · have b4 : ((t.k : Int) != 4) = false := bne_eq_false_iff_eq.2 (by omega)
            have HW := Aside0.mk (show isWord t.k = false from by simp [isWord, h4])
            go_wp2
            go_meet
            case rel => exact ⟨by rw [HW.out], rfl⟩
          · have b4 : ((t.k : Int) != 4) = true := bne_iff_ne.2 (by omega)
            have HW := Aside0.mk (show isWord t.k = true from by simp [isWord, h4, h8]; omega)
            go_wp2
            go_meet
            case rel => exact ⟨by rw [HW.out], rfl⟩
        · have b8 : decide ((t.k : Int) < 8) = false := decide_eq_false (by omega)
          have HW := Aside0.mk (show isWord t.k = false from by simp [isWord, h8])
          go_wp2
          go_meet
          case rel => exact ⟨by rw [HW.out], rfl⟩
      case rest =>
        clear ht0
        obtain ⟨rfl, rfl⟩ := hcut
        have hz := HZ4.out
        have hc0 := blk_cell hz 0
        have hc1 := blk_cell hz 1
        have hc2 := blk_cell hz 2
        have hc3 := blk_cell hz 3
        have hf0 := blk_frozen hz 0
        have hf1 := blk_frozen hz 1
        have hf2 := blk_frozen hz 2
        have hf3 := blk_frozen hz 3
        have hg0 := blk_cell HT0.out 0
        have hg1 := blk_cell HT0.out 1
        have hg2 := blk_cell HT0.out 2
        have hg3 := blk_cell HT0.out 3
        clear hz
        obtain ⟨A6, c6, rfl⟩ := Kd.R_slice HA4.out
        go_step
        by_cases hwj : isWord t.k = true ∧ j = some i
        · obtain ⟨hw1, rfl⟩ := hwj
          have hT := HT2.out
          rw [if_pos ⟨hw1, rfl⟩] at hT
          clear HT2
          have HT2 := Aside0.mk hT
          clear hT
          rw [hw1]
          clear hw1
          have bj : (jv (some i) == (i : Int)) = true := beq_iff_eq.2 rfl
          go_wp2
          exact bodyPost_ret (results_list (vs := [.slice A6 acc.length c6, .agg #[.int .i64 0, .string ⟨#[]⟩, .int .i64 0, .int .i64 0], _, _]) rfl (show (4 : Nat) ≠ 1 from by decide) (.tmp (.cell w.heap.size 71 _ (0, 0) _ rfl (blk4_set HZ4.out _ _ _ _) Try.underlying71 rfl info71 (.tmp (.tmp .nil))))) rfl ⟨_, by rw [HR0.out, ← HT2.out]; rfl, by rw [HR0.out, ← HT2.out]; exact (Kd.R_mono (Kd.R_far (p := ⟨w.heap.size, 3, none⟩) (Kd.R_far (p := ⟨w.heap.size, 2, none⟩) (Kd.R_far (p := ⟨w.heap.size, 1, none⟩) (Kd.R_far (p := ⟨w.heap.size, 0, none⟩) HA4.out (fun _ h => h) _) (fun _ h => h) _) (fun _ h => h) _) (fun _ h => h) _) (fun _ _ => trivial)), ((((HB4.out.setCell (Nat.le_refl _) _).setCell (Nat.le_refl _) _).setCell (Nat.le_refl _) _).setCell (Nat.le_refl _) _)⟩
        have hT := HT2.out
        rw [if_neg hwj] at hT
        clear HT2
        cases hwd : isWord t.k with
        | false =>
          rw [hwd] at hT
          clear hwj hwd
          cases b with
          | false =>
            rw [if_pos rfl] at hT
            by_cases hk0 : t.k = 0
            · rw [if_pos hk0] at hT
              have HT2 := Aside0.mk hT
              clear hT
              have bk : ((t.k : Int) == 0) = true := beq_iff_eq.2 (by omega)
              clear hk0
              go_wp2
              go_region
              go_wp2
              exact bodyPost_ret (results_list (vs := [.slice A6 acc.length c6, .agg #[.int .i64 (t.k : Int), .string t.t, .int .i64 (t.a : Int), .int .i64 (t.e : Int)], _, _]) rfl (show (4 : Nat) ≠ 1 from by decide) (.tmp (.cell w.heap.size 71 _ (0, 0) _ rfl (blk_drew (blk4_set HZ4.out _ _ _ _)) Try.underlying71 rfl info71 (.tmp (.tmp .nil))))) rfl ⟨_, by rw [HR0.out, ← HT2.out]; rfl, by rw [HR0.out, ← HT2.out]; exact (Kd.R_mono (Kd.R_drew (Kd.R_far (p := ⟨w.heap.size, 3, none⟩) (Kd.R_far (p := ⟨w.heap.size, 2, none⟩) (Kd.R_far (p := ⟨w.heap.size, 1, none⟩) (Kd.R_far (p := ⟨w.heap.size, 0, none⟩) HA4.out (fun _ h => h) _) (fun _ h => h) _) (fun _ h => h) _) (fun _ h => h) _)) (fun _ _ => trivial)), below_drew1 ((((HB4.out.setCell (Nat.le_refl _) _).setCell (Nat.le_refl _) _).setCell (Nat.le_refl _) _).setCell (Nat.le_refl _) _)⟩
            · rw [if_neg hk0] at hT
              have HT2 := Aside0.mk hT
              clear hT
              have bk : ((t.k : Int) == 0) = false := beq_eq_false_iff_ne.2 (by omega)
              clear hk0
              go_wp2
              go_region
              go_wp2
              exact bodyPost_ret (results_list (vs := [.slice A6 acc.length c6, .agg #[.int .i64 (t.k : Int), .string t.t, .int .i64 (t.a : Int), .int .i64 (t.e : Int)], _, _]) rfl (show (4 : Nat) ≠ 1 from by decide) (.tmp (.cell w.heap.size 71 _ (0, 0) _ rfl (blk_drew (blk4_set HZ4.out _ _ _ _)) Try.underlying71 rfl info71 (.tmp (.tmp .nil))))) rfl ⟨_, by rw [HR0.out, ← HT2.out]; rfl, by rw [HR0.out, ← HT2.out]; exact (Kd.R_mono (Kd.R_drew (Kd.R_far (p := ⟨w.heap.size, 3, none⟩) (Kd.R_far (p := ⟨w.heap.size, 2, none⟩) (Kd.R_far (p := ⟨w.heap.size, 1, none⟩) (Kd.R_far (p := ⟨w.heap.size, 0, none⟩) HA4.out (fun _ h => h) _) (fun _ h => h) _) (fun _ h => h) _) (fun _ h => h) _)) (fun _ _ => trivial)), below_drew1 ((((HB4.out.setCell (Nat.le_refl _) _).setCell (Nat.le_refl _) _).setCell (Nat.le_refl _) _).setCell (Nat.le_refl _) _)⟩
          | true =>
            rw [if_neg (by simp)] at hT
            have HT2 := Aside0.mk hT
            clear hT
            have hal : acc.length ≤ 2147483647 := by have := HL.out; omega
            go_wp2_with (first | (at_builtin; refine Kd.R_append k71 (w0 := w) w.heap.size rfl (.tmp 71) (.tmp 73) 73 71 (.agg #[.int .i64 0, .string ⟨#[]⟩, .int .i64 0, .int .i64 0]) 40 rfl Try.underlying73 info71k rfl (by decide) (by omega) (.slice A6 acc.length c6) acc t [.int .i64 (t.k : Int), .string t.t, .int .i64 (t.a : Int), .int .i64 (t.e : Int)] (fun k => k ≠ w.heap.size) (fun _ => False) rfl rfl ?aP (fun _ hk => hk.elim) ?aF ?aO ?aB ?aS ?aL ?_; (case aP => exact k71_mkM _ _ _ _); (case aF => intro k hk; have := blk_lt HZ4.out; omega); (case aO => exact HA4.out); (case aB => exact HB4.out); (case aS => have := blk_lt HZ4.out; omega); (case aL => have := HL.out; omega); intro v2 w2 ho hb2 hg hat; have HZ2 := Aside0.mk (blk_grown HZ4.out hg (fun e => HA4.out.1 _ e.symm rfl)); have HA2 := Aside0.mk ho; have HB2 := Aside0.mk hb2; clear ho hb2 hg hat HZ4 HA4 HB4; obtain ⟨A2, c2, hv2, hl2, hC2⟩ := Kd.R_reads HA2.out; subst hv2; obtain ⟨ad2, rfl, he0, he1, he2, he3⟩ := at_T71 hC2 acc.length (by simp); rw [rd_snoc] at he3; clear he0 he1 he2 hC2 hl2) | (go_at_call 72; (with_reducible refine (blank_int s hs1 t.e _ (by omega) (by omega) _).mono ?_); rintro e w' ⟨rfl, ⟨nd, rfl⟩⟩))
            have hbl := blk_le (from_ s t.e) false t.e
            rw [from_len] at hbl
            have hie := HEnd.out (by first | trivial | rfl)
            go_roundg n
            case measure => omega
            case rel => exact ⟨blk false (from_ s t.e) t.e, none, acc ++ [t], rfl, rfl, ⟨by have := HT2.out; simpa using this⟩, by omega, by omega, ⟨by have := HL.out; simp; omega⟩, ⟨by rw [show acc.length + 1 = (acc ++ [t]).length from by simp]; exact Kd.R_drewN HA2.out nd⟩, ⟨blk_drewN HZ2.out nd⟩, ⟨pw_below_drewN HB2.out nd⟩⟩
        | true =>
          rw [hwd] at hT
          have hjn := jv_ne (fun e => hwj ⟨hwd, e⟩)
          have bj : (jv j == (i : Int)) = false := beq_eq_false_iff_ne.2 hjn
          clear hjn
          clear hwj hwd
          cases b with
          | false =>
            rw [if_pos rfl] at hT
            by_cases hk0 : t.k = 0
            · rw [if_pos hk0] at hT
              have HT2 := Aside0.mk hT
              clear hT
              have bk : ((t.k : Int) == 0) = true := beq_iff_eq.2 (by omega)
              clear hk0
              go_wp2
              go_region
              go_wp2
              exact bodyPost_ret (results_list (vs := [.slice A6 acc.length c6, .agg #[.int .i64 (t.k : Int), .string t.t, .int .i64 (t.a : Int), .int .i64 (t.e : Int)], _, _]) rfl (show (4 : Nat) ≠ 1 from by decide) (.tmp (.cell w.heap.size 71 _ (0, 0) _ rfl (blk_drew (blk4_set HZ4.out _ _ _ _)) Try.underlying71 rfl info71 (.tmp (.tmp .nil))))) rfl ⟨_, by rw [HR0.out, ← HT2.out]; rfl, by rw [HR0.out, ← HT2.out]; exact (Kd.R_mono (Kd.R_drew (Kd.R_far (p := ⟨w.heap.size, 3, none⟩) (Kd.R_far (p := ⟨w.heap.size, 2, none⟩) (Kd.R_far (p := ⟨w.heap.size, 1, none⟩) (Kd.R_far (p := ⟨w.heap.size, 0, none⟩) HA4.out (fun _ h => h) _) (fun _ h => h) _) (fun _ h => h) _) (fun _ h => h) _)) (fun _ _ => trivial)), below_drew1 ((((HB4.out.setCell (Nat.le_refl _) _).setCell (Nat.le_refl _) _).setCell (Nat.le_refl _) _).setCell (Nat.le_refl _) _)⟩
            · rw [if_neg hk0] at hT
              have HT2 := Aside0.mk hT
              clear hT
              have bk : ((t.k : Int) == 0) = false := beq_eq_false_iff_ne.2 (by omega)
              clear hk0
              go_wp2
              go_region
              go_wp2
              exact bodyPost_ret (results_list (vs := [.slice A6 acc.length c6, .agg #[.int .i64 (t.k : Int), .string t.t, .int .i64 (t.a : Int), .int .i64 (t.e : Int)], _, _]) rfl (show (4 : Nat) ≠ 1 from by decide) (.tmp (.cell w.heap.size 71 _ (0, 0) _ rfl (blk_drew (blk4_set HZ4.out _ _ _ _)) Try.underlying71 rfl info71 (.tmp (.tmp .nil))))) rfl ⟨_, by rw [HR0.out, ← HT2.out]; rfl, by rw [HR0.out, ← HT2.out]; exact (Kd.R_mono (Kd.R_drew (Kd.R_far (p := ⟨w.heap.size, 3, none⟩) (Kd.R_far (p := ⟨w.heap.size, 2, none⟩) (Kd.R_far (p := ⟨w.heap.size, 1, none⟩) (Kd.R_far (p := ⟨w.heap.size, 0, none⟩) HA4.out (fun _ h => h) _) (fun _ h => h) _) (fun _ h => h) _) (fun _ h => h) _)) (fun _ _ => trivial)), below_drew1 ((((HB4.out.setCell (Nat.le_refl _) _).setCell (Nat.le_refl _) _).setCell (Nat.le_refl _) _).setCell (Nat.le_refl _) _)⟩
          | true =>
            rw [if_neg (by simp)] at hT
            have HT2 := Aside0.mk hT
            clear hT
            have hal : acc.length ≤ 2147483647 := by have := HL.out; omega
            go_wp2_with (first | (at_builtin; refine Kd.R_append k71 (w0 := w) w.heap.size rfl (.tmp 71) (.tmp 73) 73 71 (.agg #[.int .i64 0, .string ⟨#[]⟩, .int .i64 0, .int .i64 0]) 40 rfl Try.underlying73 info71k rfl (by decide) (by omega) (.slice A6 acc.length c6) acc t [.int .i64 (t.k : Int), .string t.t, .int .i64 (t.a : Int), .int .i64 (t.e : Int)] (fun k => k ≠ w.heap.size) (fun _ => False) rfl rfl ?aP (fun _ hk => hk.elim) ?aF ?aO ?aB ?aS ?aL ?_; (case aP => exact k71_mkM _ _ _ _); (case aF => intro k hk; have := blk_lt HZ4.out; omega); (case aO => exact HA4.out); (case aB => exact HB4.out); (case aS => have := blk_lt HZ4.out; omega); (case aL => have := HL.out; omega); intro v2 w2 ho hb2 hg hat; have HZ2 := Aside0.mk (blk_grown HZ4.out hg (fun e => HA4.out.1 _ e.symm rfl)); have HA2 := Aside0.mk ho; have HB2 := Aside0.mk hb2; clear ho hb2 hg hat HZ4 HA4 HB4; obtain ⟨A2, c2, hv2, hl2, hC2⟩ := Kd.R_reads HA2.out; subst hv2; obtain ⟨ad2, rfl, he0, he1, he2, he3⟩ := at_T71 hC2 acc.length (by simp); rw [rd_snoc] at he3; clear he0 he1 he2 hC2 hl2) | (go_at_call 72; (with_reducible refine (blank_int s hs1 t.e _ (by omega) (by omega) _).mono ?_); rintro e w' ⟨rfl, ⟨nd, rfl⟩⟩))
            have hbl := blk_le (from_ s t.e) false t.e
            rw [from_len] at hbl
            have hie := HEnd.out (by first | trivial | rfl)
            go_roundg n
            case measure => omega
            case rel => exact ⟨blk false (from_ s t.e) t.e, some t.e, acc ++ [t], rfl, rfl, ⟨by have := HT2.out; simpa using this⟩, by omega, by omega, ⟨by have := HL.out; simp; omega⟩, ⟨by rw [show acc.length + 1 = (acc ++ [t]).length from by simp]; exact Kd.R_drewN HA2.out nd⟩, ⟨blk_drewN HZ2.out nd⟩, ⟨pw_below_drewN HB2.out nd⟩⟩
    · have hT := HT.out
      simp only [tokF] at hT
      rw [if_neg hlt] at hT
      have HT2 := Aside0.mk hT
      clear hT HT
      have hz := HZ.out
      have hc0 := blk_cell hz 0
      have hc1 := blk_cell hz 1
      have hc2 := blk_cell hz 2
      have hc3 := blk_cell hz 3
      have hf0 := blk_frozen hz 0
      have hf1 := blk_frozen hz 1
      have hf2 := blk_frozen hz 2
      have hf3 := blk_frozen hz 3
      clear hz
      obtain ⟨A6, c6, rfl⟩ := Kd.R_slice HA.out
      go_wp2
      exact bodyPost_ret (results_list (vs := [.slice A6 acc.length c6, .agg #[.int .i64 0, .string ⟨#[]⟩, .int .i64 0, .int .i64 0], _, _]) rfl (show (4 : Nat) ≠ 1 from by decide) (.tmp (.cell w.heap.size 71 _ (0, 0) _ rfl (blk4_set HZ.out _ _ _ _) Try.underlying71 rfl info71 (.tmp (.tmp .nil))))) rfl ⟨_, by rw [HR0.out, ← HT2.out]; rfl, by rw [HR0.out, ← HT2.out]; exact (Kd.R_mono (Kd.R_far (p := ⟨w.heap.size, 3, none⟩) (Kd.R_far (p := ⟨w.heap.size, 2, none⟩) (Kd.R_far (p := ⟨w.heap.size, 1, none⟩) (Kd.R_far (p := ⟨w.heap.size, 0, none⟩) HA.out (fun _ h => h) _) (fun _ h => h) _) (fun _ h => h) _) (fun _ h => h) _) (fun _ _ => trivial)), ((((HB.out.setCell (Nat.le_refl _) _).setCell (Nat.le_refl _) _).setCell (Nat.le_refl _) _).setCell (Nat.le_refl _) _)⟩
end Go.Proofs.Ytdodajpiidkglaa.K
