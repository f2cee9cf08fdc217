/- Parts of the proof, laid together: LxJ, LxLD, LxLV, LxL, LxMD, LxMV, LxM, LxND, LxNV, LxN, LxOD, LxOV, LxO, LxQ, LxT, LxUD, LxUV, LxU. No condition. -/
import Derived.Test.YtfjldllegmfooaaDoorCtD

section
/- LexerClean: for every text the law hands back true. No condition. -/
set_option maxRecDepth 100000
namespace Go.Proofs.YtfjldllegmfooaaDoor.Lx
open Go.RowKit Go.IntWalk Go.Proofs.YtfjldllegmfooaaDoor.X

theorem quo_len : ∀ (k : Nat) (l b : Bs) (n : Nat), l.length ≤ k → quo l = some (b, n) → b.length ≤ l.length
  | _, [], b, n, _, h => by rw [quo.eq_def] at h; cases h
  | 0, _ :: _, _, _, hk, _ => by simp at hk
  | k + 1, c :: r, b, n, hk, h => by
    have hk : r.length ≤ k := by simpa using hk
    by_cases h1 : c = 34
    · subst h1; rw [quo_end] at h
      simp only [Option.some.injEq, Prod.mk.injEq] at h
      obtain ⟨rfl, _⟩ := h; simp
    · by_cases h2 : c.toNat < 32 ∨ c.toNat > 126
      · rw [(quo_no c r h1 h2).1] at h; cases h
      · by_cases h3 : c ≠ 92
        · rw [(quo_c c r h1 h2 h3).1] at h
          obtain ⟨q, hq, hz⟩ := Option.map_eq_some_iff.1 h
          simp only [Prod.mk.injEq] at hz
          obtain ⟨rfl, rfl⟩ := hz
          have := quo_len k r q.1 q.2 hk hq
          simp only [List.length_cons]; omega
        · have h3 : c = 92 := Decidable.not_not.1 h3
          subst h3
          cases r with
          | nil => rw [quo.eq_def] at h; cases h
          | cons e r =>
            have hk : r.length + 1 ≤ k := by simpa using hk
            have rec1 : ∀ (x : UInt8) (m : Nat), (quo r).map (fun q => (x :: q.1, q.2 + m)) = some (b, n) → b.length ≤ r.length + 1 := fun x m hm => by
              obtain ⟨q, hq, hz⟩ := Option.map_eq_some_iff.1 hm
              simp only [Prod.mk.injEq] at hz
              obtain ⟨rfl, rfl⟩ := hz
              have := quo_len k r q.1 q.2 (by omega) hq
              simp only [List.length_cons]; omega
            rw [quo_92] at h
            simp only [List.length_cons]
            split at h
            · have := rec1 _ _ h; omega
            · split at h
              · have := rec1 _ _ h; omega
              · split at h
                · have := rec1 _ _ h; omega
                · split at h
                  · have := rec1 _ _ h; omega
                  · split at h
                    · split at h
                      · rename_i r' _ _
                        split at h
                        · obtain ⟨q, hq, hz⟩ := Option.map_eq_some_iff.1 h
                          simp only [Prod.mk.injEq] at hz
                          obtain ⟨rfl, rfl⟩ := hz
                          have := quo_len k r' q.1 q.2 (by simp only [List.length_cons] at hk; omega) hq
                          simp only [List.length_cons]; omega
                        · cases h
                      · cases h
                    · cases h
theorem next_len {l : Bs} {t : Tok} {n : Nat} (h : nextT l = some (t, n)) : t.text.length ≤ l.length := by
  unfold nextT at h
  simp only at h
  have tk : ∀ m, (l.take m).length ≤ l.length := fun m => by rw [List.length_take]; omega
  split at h
  · split at h
    · simp only [Option.some.injEq, Prod.mk.injEq] at h
      obtain ⟨rfl, rfl⟩ := h; exact tk _
    · cases h
  · split at h
    · obtain ⟨q, _, hq⟩ := Option.map_eq_some_iff.1 h
      simp only [Prod.mk.injEq] at hq
      obtain ⟨rfl, rfl⟩ := hq; simp
    · split at h
      · split at h
        · simp only [Option.some.injEq, Prod.mk.injEq] at h
          obtain ⟨rfl, rfl⟩ := h
          show (List.drop 1 (List.take _ l)).length ≤ _
          rw [List.length_drop]; have := tk (1 + ((l.drop 1).takeWhile isReg).length); omega
        · cases h
      · split at h
        · split at h
          · cases h
          · simp only [Option.some.injEq, Prod.mk.injEq] at h
            obtain ⟨rfl, rfl⟩ := h; simp
        · split at h
          · obtain ⟨q, hq, hz⟩ := Option.map_eq_some_iff.1 h
            simp only [Prod.mk.injEq] at hz
            obtain ⟨rfl, rfl⟩ := hz
            have := quo_len _ _ q.1 q.2 (Nat.le_refl _) hq
            rw [List.length_drop] at this
            show q.1.length ≤ _; omega
          · split at h
            · simp only [Option.some.injEq, Prod.mk.injEq] at h
              obtain ⟨rfl, rfl⟩ := h; simp
            · split at h
              · simp only [Option.some.injEq, Prod.mk.injEq] at h
                obtain ⟨rfl, rfl⟩ := h; exact tk 2
              · split at h
                · simp only [Option.some.injEq, Prod.mk.injEq] at h
                  obtain ⟨rfl, rfl⟩ := h; exact tk 1
                · cases h
theorem lineF_text : ∀ (k : Nat) (l : Bs) (ts : List Tok), lineF k l = some ts → ∀ t ∈ ts, t.text.length ≤ l.length
  | k, [], ts, h, t, ht => by
    have : ts = [] := by cases k <;> simpa [lineF] using h.symm
    rw [this] at ht; cases ht
  | 0, _ :: _, ts, h, t, ht => by simp [lineF] at h
  | k + 1, c :: r, ts, h, t, ht => by
    rw [lineF] at h
    split at h
    · have := lineF_text k r ts h t ht
      rw [List.length_cons]; omega
    · split at h
      · simp only [Option.some.injEq] at h
        subst h; cases ht
      · split at h
        · cases h
        · rename_i t0 n hn
          obtain ⟨q, hq, rfl⟩ := Option.map_eq_some_iff.1 h
          rcases List.mem_cons.1 ht with rfl | ht
          · exact next_len hn
          · have := lineF_text k _ q hq t ht
            rw [List.length_drop] at this; omega
theorem lineT_text {l : Bs} {ts : List Tok} (h : lineT l = some ts) : ∀ t ∈ ts, t.text.length ≤ l.length := by
  cases hq : lineX l with
  | none => rw [lineT_N hq] at h; cases h
  | some q =>
    rw [lineT_X hq] at h
    simp only [Option.some.injEq] at h
    subst h
    have hx := lineF_text _ _ _ hq
    cases q with
    | nil => intro t ht; cases ht
    | cons a q =>
      intro t ht
      rcases List.mem_append.1 ht with ht | ht
      · exact hx t ht
      · rw [List.mem_singleton.1 ht]; exact Nat.zero_le _
theorem linesT_more : ∀ (ls : List Bs) (n : Nat) (r : List (Nat × Tok)), linesT n ls = .ok r → r.length ≤ bulk ls ∧ ∀ q ∈ r, q.1 < n + ls.length ∧ q.2.text.length + 1 ≤ bulk ls
  | [], n, r, h => by
    simp only [linesT, Except.ok.injEq] at h
    subst h
    exact ⟨by simp, fun q hq => by cases hq⟩
  | l :: ls, n, r, h => by
    rw [linesT] at h
    cases hl : lineT l with
    | none => rw [hl] at h; cases h
    | some ts =>
      rw [hl] at h
      simp only at h
      cases hr : linesT (n + 1) ls with
      | error m => rw [hr] at h; cases h
      | ok r' =>
        rw [hr] at h
        simp only [Except.ok.injEq] at h
        subst h
        obtain ⟨c1, c2⟩ := linesT_more ls (n + 1) r' hr
        have o1 := lineT_len hl
        have o2 := lineT_text hl
        rw [bulk_cons]
        refine ⟨by rw [List.length_append, List.length_map]; omega, fun q hq => ?_⟩
        rw [List.length_cons]
        rcases List.mem_append.1 hq with hq | hq
        · obtain ⟨t, ht, rfl⟩ := List.mem_map.1 hq
          have := o2 t ht
          exact ⟨by show n < _; omega, by show t.text.length + 1 ≤ _; omega⟩
        · have := c2 q hq
          exact ⟨by omega, by omega⟩
theorem lines_bulk {l : Bs} (h : l.length ≤ 65536) : bulk (lines l) ≤ 65537 := by
  have hb := split_bulk l
  rw [lines_eq]
  split
  · rw [List.dropLast_eq_take]; have := bulk_take (split l) ((split l).length - 1); omega
  · omega
theorem allT_ok {l : Bs} {r : List (Nat × Tok)} (h : allT l = .ok r) : l.length ≤ 65536 ∧ linesT 1 (lines l) = .ok r := by
  unfold allT at h
  split at h
  · cases h
  · split at h
    · cases h
    · split at h
      · cases h
      · rename_i hr
        simp only [Except.ok.injEq] at h
        subst h
        exact ⟨by omega, hr⟩
theorem linesT_pos : ∀ (ls : List Bs) (n m : Nat), linesT n ls = .error m → n ≤ m
  | [], n, m, h => by cases h
  | l :: ls, n, m, h => by
    rw [linesT] at h
    cases hl : lineT l with
    | none => rw [hl] at h; simp only [Except.error.injEq] at h; omega
    | some ts =>
      rw [hl] at h
      simp only at h
      cases hr : linesT (n + 1) ls with
      | error k =>
        rw [hr] at h
        simp only [Except.error.injEq] at h
        have := linesT_pos ls (n + 1) k hr
        omega
      | ok r' => rw [hr] at h; cases h
theorem clean_all (s : ByteArray) : Clean (allR s) := by
  unfold allR
  cases h : allT s.data.toList with
  | error q => exact ⟨[], rfl, trivial, by simp, fun q hq => by cases hq⟩
  | ok r =>
    obtain ⟨h0, h1⟩ := allT_ok h
    obtain ⟨c1, c2⟩ := linesT_clean _ _ _ h1
    obtain ⟨m1, m2⟩ := linesT_more _ _ _ h1
    have hb := lines_bulk h0
    have hg := bulk_ge (lines s.data.toList)
    have hz : ∀ q ∈ r, q.2.text.length ≤ 65536 := fun q hq => by
      have := (m2 q hq).2
      omega
    exact ⟨r, rfl, c1, by show (toksR r).length ≤ _; unfold toksR; rw [List.length_map]; omega, fun q hq => ⟨(c2 q hq).2, by have := (m2 q hq).1; omega, hz q hq⟩⟩
theorem true_none : ∀ vs z, trueS vs = some z → vs = [] ∧ z = .bool true
  | [], z, h => ⟨rfl, by simpa [trueS] using h.symm⟩
  | _ :: _, z, h => by simp [trueS] at h
theorem good_live : Lib.Good Tryd.prog Llive := lib_pure good_numW Tryd.func16 2000 trueS fun vs z hz => by
  obtain ⟨rfl, rfl⟩ := true_none vs z hz
  show (run Tryd.prog (LnumW.mk' fun _ _ _ _ => False) 2000 Tryd.f16 []).sat _
  rw [live_goal]
  refine ⟨⟨trivial, trivial⟩, fun _ _ _ => ⟨by decide, by decide, fun _ => ⟨by decide, by decide, fun _ => ⟨by decide, by decide, fun _ => by decide⟩⟩⟩, trivial, rfl⟩
theorem good_cl2 : Lib.Good Tryd.prog LCl2 := lib_loop good_live 11 "law.go:141" (by kernel_rfl) lCl2 2000 fun σ α rest hp => by
  refine (cl2_round σ α rest).mpr ?_
  obtain ⟨h0, h1, h2, hc⟩ := (show 0 ≤ σ.I 5 ∧ σ.I 5 ≤ (σ.S 4).size ∧ (σ.S 4).size ≤ 65536 ∧ (σ.I 1 ≠ 3 → ∀ c ∈ (σ.S 4).data.toList, 33 ≤ c.toNat ∧ c.toNat ≤ 126) from hp)
  intro x0 x1 x2 x3 x4 x5 x6
  refine ⟨rfl, fun h => ?_, fun h => ?_⟩
  · have h : (bif decide x0 then σ.I 1 != (3 : Int) else false) = true := h
    cases hx : decide x0 with
    | false => rw [hx] at h; cases h
    | true =>
      rw [hx] at h
      have hlt : σ.I 5 < (σ.S 4).size := of_decide_eq_true hx
      have hk : σ.I 1 ≠ 3 := by simpa using h
      have e3 : x3 = ((byt (σ.S 4).data.toList (σ.I 5).toNat).toNat : Int) := by show ((_ : Nat) : Int) = _; rw [getD_byt]
      have hl : (σ.I 5).toNat < (σ.S 4).data.toList.length := by rw [data_len]; omega
      have hm : byt (σ.S 4).data.toList (σ.I 5).toNat ∈ (σ.S 4).data.toList := by
        unfold byt; rw [getD_in _ _ hl]; exact List.getElem_mem hl
      obtain ⟨b1, b2⟩ := hc hk _ hm
      have e4 : x4 = false := decide_eq_false (by omega)
      have e5 : x5 = false := by show (bif x4 then true else decide (x3 > 126)) = _; rw [e4]; exact decide_eq_false (by omega)
      have e6 : x6 = σ.I 5 + 1 := i64_in _ (by omega)
      refine ⟨⟨h0, hlt⟩, fun _ => ⟨h0, hlt⟩, fun h5 => ?_, fun _ => ⟨rfl, rfl, trivial, ⟨by omega, by omega, h2, hc⟩, by omega, rfl, rfl⟩⟩
      rw [e5] at h5; cases h5
  · exact ⟨rfl, rfl, rfl, ⟨⟨⟨trivial, rfl⟩, rfl⟩, rfl⟩, rfl⟩
theorem toksR_at {r : List (Nat × Tok)} {i : Nat} (h : i < r.length) : (toksR r).getD i [] = tokR r[i].1 r[i].2 := by
  unfold toksR
  rw [getD_in (r.map fun q => tokR q.1 q.2) [] (by rw [List.length_map]; exact h), List.getElem_map]
theorem good_cl1 : Lib.Good Tryd.prog LCl1 := lib_loop good_cl2 5 "law.go:136" (by kernel_rfl) lCl1 2000 fun σ α rest hp => by
  refine (cl1_round σ α rest).mpr ?_
  obtain ⟨hC, h0, h1⟩ := (show Clean (σ.R 0) ∧ 0 ≤ σ.I 5 ∧ σ.I 5 ≤ (σ.R 0).length from hp)
  obtain ⟨r, er, hch, hlen, hr⟩ := id hC
  have hrl : (σ.R 0).length = r.length := by rw [er]; unfold toksR; rw [List.length_map]
  intro x0 x1 x2 x3 x4 x5 x6 x8 x9 x10 x11 x12 x13 x14 x15 x16 x17 x18 x19 x20 x21 x22
  refine ⟨rfl, fun h => ?_, fun _ => ⟨rfl, rfl, rfl, ⟨trivial, rfl⟩, rfl, rfl⟩⟩
  have hlt : σ.I 5 < (σ.R 0).length := of_decide_eq_true h
  have hl : (σ.I 5).toNat < r.length := by omega
  have ha : (σ.R 0).getD (σ.I 5).toNat [] = tokR r[(σ.I 5).toNat].1 r[(σ.I 5).toNat].2 := by rw [er]; exact toksR_at hl
  obtain ⟨tk, t1, t2⟩ := hr r[(σ.I 5).toNat] (List.getElem_mem hl)
  have e3 : x3 = r[(σ.I 5).toNat].2.kind := by show asI (((σ.R 0).getD (σ.I 5).toNat []).getD 0 undef) = _; rw [ha]; rfl
  have e12 : x12 = (r[(σ.I 5).toNat].1 : Int) := by show asI (((σ.R 0).getD (σ.I 5).toNat []).getD 1 undef) = _; rw [ha]; rfl
  have e18 : x18 = bs r[(σ.I 5).toNat].2.text := by show asS (((σ.R 0).getD (σ.I 5).toNat []).getD 3 undef) = _; rw [ha]; rfl
  have k0 := tk.k0
  have k1 := tk.k1
  have e4 : x4 = false := decide_eq_false (by omega)
  have e5 : x5 = false := decide_eq_false (by omega)
  have e22 : x22 = σ.I 5 + 1 := i64_in _ (by omega)
  have g : x6 = true → (x9 ∧ x11) ∧ x14 = false ∧ (x15 = true → asI (((σ.R 0).getD x10 []).getD 0 undef) = 6) := fun h6 => by
    have h6 : σ.I 5 > 0 := of_decide_eq_true h6
    have e8 : x8 = σ.I 5 - 1 := i64_in _ (by omega)
    have e10 : x10 = (σ.I 5).toNat - 1 := by show x8.toNat = _; omega
    have hl' : (σ.I 5).toNat - 1 < r.length := by omega
    have ha' : (σ.R 0).getD x10 [] = tokR r[(σ.I 5).toNat - 1].1 r[(σ.I 5).toNat - 1].2 := by rw [er, e10]; exact toksR_at hl'
    have e13 : x13 = (r[(σ.I 5).toNat - 1].1 : Int) := by show asI (((σ.R 0).getD x10 []).getD 1 undef) = _; rw [ha']; rfl
    have hc := chain_at hch ((σ.I 5).toNat - 1) (by omega)
    have hi : (σ.I 5).toNat - 1 + 1 = (σ.I 5).toNat := by omega
    simp only [hi] at hc
    refine ⟨⟨⟨by omega, by omega, Nat.le_refl _⟩, by show x10 < _; omega⟩, decide_eq_false (by omega), fun h15 => ?_⟩
    have h15 : x12 ≠ x13 := by have : (x12 != x13) = true := h15; simpa using this
    rw [ha']
    exact hc.2 (by intro he; exact h15 (by rw [e12, e13, he]))
  have e16 : x16 = false := by
    show (bif x6 then bif x15 then asI (((σ.R 0).getD x10 []).getD 0 undef) != 6 else false else false) = false
    cases h6 : x6 with
    | false => rfl
    | true =>
      obtain ⟨_, _, g3⟩ := g h6
      cases h15 : x15 with
      | false => rfl
      | true => rw [g3 h15]; rfl
  have e17 : x17 = false := by
    show (bif x4 then true else bif x5 then true else bif x6 then bif x14 then true else x16 else x16) = false
    rw [e4, e5, e16]
    cases h6 : x6 with
    | false => rfl
    | true => rw [(g h6).2.1]; rfl
  have e19 : x19 = r[(σ.I 5).toNat].2.text.length := by show x18.size = _; rw [e18, bs_size]
  refine ⟨⟨h0, hlt, Nat.le_refl _⟩, by omega, fun _ _ => ⟨fun h6 => ?_, fun h6 h6' => ?_⟩, fun h17 => ?_, fun _ => ?_⟩
  · obtain ⟨⟨g1, g2⟩, _, _⟩ := g h6
    exact ⟨g1, g2, fun _ _ => ⟨g1, g2, fun _ => ⟨g1, g2⟩⟩⟩
  · rw [h6] at h6'; cases h6'
  · rw [e17] at h17; cases h17
  · refine ⟨⟨trivial, Int.le_refl _, Int.natCast_nonneg _, by omega, fun hk => ?_⟩, rfl, rfl, ⟨trivial, rfl⟩, ⟨hC, by omega, by omega⟩, by omega, rfl, rfl⟩
    rw [e18, bs_data]
    rw [e3] at hk
    exact tk.clean hk
theorem clean_law (cs : List Value) : SatB Tryd.prog LCl1 3000 Tryd.f5 (argsV (dtL cs) at0 aCl 0) := ⟨by
  rw [clean_goal]
  generalize (dtL cs).S 0 = s
  intro x0 x1 x2 x3
  have hC := clean_all s
  obtain ⟨r, er, hch, hlen, hr⟩ := id hC
  have hrl : (allR s).length = r.length := by rw [er]; unfold toksR; rw [List.length_map]
  have e1 : x1 = decide (r = []) := by
    show (((allR s).length : Int) == 0) = _
    rw [Bool.eq_iff_iff, beq_iff_eq, decide_eq_true_iff, hrl, ← List.length_eq_zero_iff]; omega
  have hx : x1 = false → r ≠ [] ∧ x2 = (r.length : Int) - 1 := fun h => by
    rw [e1] at h
    have hn := of_decide_eq_false h
    have hp := List.length_pos_iff.2 hn
    refine ⟨hn, ?_⟩
    show IntKind.i64.wrap (((allR s).length : Int) - 1) = _
    rw [hrl]; exact i64_in _ (by omega)
  refine ⟨⟨trivial, trivial⟩, fun _ => ⟨⟨⟨trivial, rfl⟩, hC, Int.le_refl _, Int.natCast_nonneg _⟩, fun h1 => ?_⟩, trivial, ?_⟩
  · obtain ⟨hn, e2⟩ := hx h1
    have hp := List.length_pos_iff.2 hn
    exact ⟨⟨by omega, by omega, Nat.le_refl _⟩, by show x2.toNat < _; omega⟩
  · congr 1
    cases h0 : x0 with
    | true =>
      have h0 : (allE s != 0) = true := h0
      unfold allE at h0
      cases ha : allT s.data.toList with
      | ok q => rw [ha] at h0; cases h0
      | error q =>
        have er' : allR s = [] := by unfold allR; rw [ha]
        have e1' : x1 = true := by show (((allR s).length : Int) == 0) = true; rw [er']; rfl
        have el : allL s = (q.1 : Int) := by unfold allL; rw [ha]
        have ee : allE s = (q.2 : Int) := by unfold allE; rw [ha]
        rw [e1', el, ee]
        unfold allT at ha
        split at ha
        · simp only [Except.error.injEq] at ha; subst ha; rfl
        · split at ha
          · simp only [Except.error.injEq] at ha; subst ha; rfl
          · split at ha
            · rename_i n hn
              simp only [Except.error.injEq] at ha
              subst ha
              have : decide (((n : Nat) : Int) > 0) = true := decide_eq_true (by have := linesT_pos _ _ _ hn; omega)
              show (bif true then bif ((100 : Nat) : Int) != 100 then true else bif decide (((n : Nat) : Int) > 0) then true else false else false) = true
              rw [this]; rfl
            · cases ha
    | false =>
      cases h1 : x1 with
      | true => rfl
      | false =>
        obtain ⟨hn, e2⟩ := hx h1
        have hp := List.length_pos_iff.2 hn
        have e3 : x3 = r.length - 1 := by show x2.toNat = _; omega
        have : asI (((allR s).getD x3 []).getD 0 undef) = 6 := by
          rw [er, e3, toksR_at (by omega)]
          have hl : r.getLast? = some r[r.length - 1] := by rw [List.getLast?_eq_getElem?, List.getElem?_eq_getElem (by omega)]
          exact chain_last hch hl
        show (bif false then _ else bif false then true else bif asI (((allR s).getD x3 []).getD 0 undef) == 6 then true else false) = true
        rw [this]; rfl⟩
theorem clean_walk (vs cs : List Value) (hv : okArgs aCl vs cs) (w : World) (hgl : GlW w) : Calls Tryd.prog 5 vs.toArray w fun e w' => e = .returned (.bool true) ∧ Below w.heap.size w w' :=
  law_calls good_cl1 Tryd.func5 3000 aCl (fun cs _ => clean_law cs) vs cs hv w hgl
end Go.Proofs.YtfjldllegmfooaaDoor.Lx
end

section
/- Quote: contracts. No condition. -/
namespace Go.Proofs.YtfjldllegmfooaaDoor.Lx
open Go.RowKit Go.IntWalk Go.Proofs.YtfjldllegmfooaaDoor.X

def bytR (l : Bs) : List (List Value) := l.map fun c => [Value.int .u8 (c.toNat : Int)]
def appR (xs ys : List (List Value)) : List (List Value) := match ys with
  | [] => xs
  | y :: r => xs ++ (y :: r)
theorem appR_eq (xs ys : List (List Value)) : appR xs ys = xs ++ ys := by cases ys <;> simp [appR]
def qtR (xs : List (List Value)) (s : ByteArray) (i : Int) : List (List Value) := appR xs (bytR ((s.data.toList.drop i.toNat).flatMap quoC))
def cQtL : Con where
  ps := [.s 0, .i .i64 8, .i .i64 9, .r 4 5 bK]
  bl := []
  top := 8
  pre := fun σ => 0 ≤ σ.I 9 ∧ σ.I 9 ≤ σ.I 8 ∧ σ.I 8 = (σ.S 0).size ∧ (σ.S 0).size ≤ 1099511627776 ∧ (σ.R 4).length + 4 * ((σ.S 0).size - σ.I 9) ≤ 1099511627776
  post := fun σ => .leaf (.exit 0) [(0, .gs (σ.S 0)), (8, .gi .i64 (σ.I 8)), (3, .gr 8 5 bK (qtR (σ.R 4) (σ.S 0) (σ.I 9)))] [] [4]
noncomputable def bQtL : Code := loopAt Tryd.prog 3 "lexer.go:302"
noncomputable def lQtL : LCon := { c := cQtL, sl := [0, 8, 9, 3], nt := Tryd.f18.ntmps, hv := nubN (writes bQtL) [], meas := fun σ => (σ.I 8 - σ.I 9).toNat, mvr := [4] }
noncomputable def LqtL : Lib := { Llive with ls := (3, "lexer.go:302", lQtL) :: Llive.ls }
def qtS (s : ByteArray) : ByteArray := bs (quoteT s.data.toList)
def cQt : Con where
  ps := [.s 0]
  bl := []
  top := 0
  pre := fun σ => (σ.S 0).size ≤ 268435456
  post := fun σ => .leaf .ret [(0, .gs (qtS (σ.S 0)))] [] []
noncomputable def Lqt : Lib := { LqtL with cs := (18, cQt) :: LqtL.cs }
def aTx : List ArgK := [(false, [.str])]
end Go.Proofs.YtfjldllegmfooaaDoor.Lx
end

section
/- Written by vc.py: what is to be shown, read out. No condition. -/
set_option maxRecDepth 1000000
set_option maxHeartbeats 0
namespace Go.Proofs.YtfjldllegmfooaaDoor.Lx
open Go.RowKit Go.Proofs.YtfjldllegmfooaaDoor.X
theorem qtl_round (σ : Dt) (α : At') (rest : Nat → Value) : (lQtL.goal Tryd.prog Llive.mk' 2000 bQtL σ α rest) = (
let x0 := decide (σ.I 9 < σ.I 8);
let x1 := (↑((σ.S 0).data.getD (σ.I 9).toNat (0 : UInt8)).toNat : Int);
let x2 := x1 == (34 : Int);
let x3 := bif x2 then x2 else x1 == (92 : Int);
let x4 := (σ.R 4).length = (σ.R 4).length;
let x5 := [[Value.int IntKind.u8 x1]];
let x6 := σ.R 4 ++ [Value.int IntKind.u8 (92 : Int)] :: x5;
let x7 := x6.length;
let x8 := IntKind.i64.wrap (σ.I 9 + (1 : Int));
let x9 := (0 : Int) ≤ x8;
let x10 := x8 ≤ σ.I 8;
let x11 := σ.I 8 = (↑(σ.S 0).size : Int);
let x12 := (σ.S 0).size ≤ 1099511627776;
let x13 := (4 : Int) * ((↑(σ.S 0).size : Int) - x8);
let x14 := (σ.I 8 - x8).toNat < (σ.I 8 - σ.I 9).toNat;
let x15 := qtR (σ.R 4) (σ.S 0) (σ.I 9);
let x16 := asSt ([], []) = ([], []);
let x17 := x1 == (10 : Int);
let x18 := σ.R 4 ++ [[Value.int IntKind.u8 (92 : Int)], [Value.int IntKind.u8 (110 : Int)]];
let x19 := x18.length;
let x20 := x1 == (9 : Int);
let x21 := σ.R 4 ++ [[Value.int IntKind.u8 (92 : Int)], [Value.int IntKind.u8 (116 : Int)]];
let x22 := x21.length;
let x23 := decide (x1 < (32 : Int));
let x24 := bif x23 then x23 else decide (x1 > (126 : Int));
let x25 := x1.fdiv (16 : Int);
let x26 := IntKind.u8.wrap (↑(BitVec.ofInt 8 x1 &&& BitVec.ofInt 8 (15 : Int)).toNat : Int);
let x27 := (ByteArray.mk (#[(48 : UInt8), (49 : UInt8), (50 : UInt8), (51 : UInt8), (52 : UInt8), (53 : UInt8), (54 : UInt8), (55 : UInt8), (56 : UInt8), (57 : UInt8), (97 : UInt8), (98 : UInt8), (99 : UInt8), (100 : UInt8), (101 : UInt8), (102 : UInt8)])).data;
let x28 := σ.R 4 ++ [[Value.int IntKind.u8 (92 : Int)], [Value.int IntKind.u8 (120 : Int)], [Value.int IntKind.u8 (↑(x27.getD x25.toNat (0 : UInt8)).toNat : Int)], [Value.int IntKind.u8 (↑(x27.getD x26.toNat (0 : UInt8)).toNat : Int)]];
let x29 := x28.length;
let x30 := σ.R 4 ++ x5;
let x31 := x30.length;
true = true ∧ (x0 = true → ((0 : Int) ≤ σ.I 9 ∧ σ.I 9 < (↑(σ.S 0).size : Int)) ∧ (x3 = true → (x4 ∧ True ∧ x7 ≤ 9223372036854775807 ∧ x7 * 1 ≤ 140737488355328) ∧ true = true ∧ true = true ∧ (True ∧ x7 = x7) ∧ (x9 ∧ x10 ∧ x11 ∧ x12 ∧ (↑x7 : Int) + x13 ≤ (1099511627776 : Int)) ∧ x14 ∧ Po.leaf (Ex.exit
    0) [(0, Pt.gs (σ.S 0)), (8, Pt.gi IntKind.i64 (σ.I 8)), (3, Pt.gr 8 (5 : TypeId) [PK.int IntKind.u8] (qtR x6 (σ.S 0) x8))] [] [4] = Po.leaf (Ex.exit 0) [(0, Pt.gs (σ.S 0)), (8, Pt.gi IntKind.i64 (σ.I 8)), (3, Pt.gr 8 (5 : TypeId) [PK.int IntKind.u8] x15)] [] [4] ∧ x16) ∧ (x3 =
    false → (x17 = true → (x4 ∧ True ∧ x19 ≤ 9223372036854775807 ∧ x19 * 1 ≤ 140737488355328) ∧ true = true ∧ true = true ∧ (True ∧ x19 = x19) ∧ (x9 ∧ x10 ∧ x11 ∧ x12 ∧ (↑x19 : Int) + x13 ≤ (1099511627776 : Int)) ∧ x14 ∧ Po.leaf (Ex.exit 0) [(0, Pt.gs (σ.S 0)), (8, Pt.gi IntKind.i64 (σ.I 8)), (3,
    Pt.gr 8 (5 : TypeId) [PK.int IntKind.u8] (qtR x18 (σ.S 0) x8))] [] [4] = Po.leaf (Ex.exit 0) [(0, Pt.gs (σ.S 0)), (8, Pt.gi IntKind.i64 (σ.I 8)), (3, Pt.gr 8 (5 : TypeId) [PK.int IntKind.u8] x15)] [] [4] ∧ x16) ∧ (x17 = false → (x20 = true → (x4 ∧ True ∧ x22 ≤
    9223372036854775807 ∧ x22 * 1 ≤ 140737488355328) ∧ true = true ∧ true = true ∧ (True ∧ x22 = x22) ∧ (x9 ∧ x10 ∧ x11 ∧ x12 ∧ (↑x22 : Int) + x13 ≤ (1099511627776 : Int)) ∧ x14 ∧ Po.leaf (Ex.exit 0) [(0, Pt.gs (σ.S 0)), (8, Pt.gi IntKind.i64 (σ.I 8)), (3, Pt.gr 8 (5 : TypeId) [PK.int
    IntKind.u8] (qtR x21 (σ.S 0) x8))] [] [4] = Po.leaf (Ex.exit 0) [(0, Pt.gs (σ.S 0)), (8, Pt.gi IntKind.i64 (σ.I 8)), (3, Pt.gr 8 (5 : TypeId) [PK.int IntKind.u8] x15)] [] [4] ∧ x16) ∧ (x20 = false → (x24 = true → ((0 : Int) ≤ x25 ∧ x25 < (16 : Int)) ∧ ((0 : Int) ≤ x26 ∧ x26 < (16 :
    Int)) ∧ (x4 ∧ True ∧ x29 ≤ 9223372036854775807 ∧ x29 * 1 ≤ 140737488355328) ∧ true = true ∧ true = true ∧ (True ∧ x29 = x29) ∧ (x9 ∧ x10 ∧ x11 ∧ x12 ∧ (↑x29 : Int) + x13 ≤ (1099511627776 : Int)) ∧ x14 ∧ Po.leaf (Ex.exit 0) [(0, Pt.gs (σ.S 0)), (8, Pt.gi IntKind.i64 (σ.I 8)), (3, Pt.gr 8
    (5 : TypeId) [PK.int IntKind.u8] (qtR x28 (σ.S 0) x8))] [] [4] = Po.leaf (Ex.exit 0) [(0, Pt.gs (σ.S 0)), (8, Pt.gi IntKind.i64 (σ.I 8)), (3, Pt.gr 8 (5 : TypeId) [PK.int IntKind.u8] x15)] [] [4] ∧ x16) ∧ (x24 = false → (x4 ∧ True ∧ x31 ≤ 9223372036854775807 ∧ x31 * 1 ≤
    140737488355328) ∧ true = true ∧ true = true ∧ (True ∧ x31 = x31) ∧ (x9 ∧ x10 ∧ x11 ∧ x12 ∧ (↑x31 : Int) + x13 ≤ (1099511627776 : Int)) ∧ x14 ∧ Po.leaf (Ex.exit 0) [(0, Pt.gs (σ.S 0)), (8, Pt.gi IntKind.i64 (σ.I 8)), (3, Pt.gr 8 (5 : TypeId) [PK.int IntKind.u8] (qtR x30 (σ.S 0) x8))] []
    [4] = Po.leaf (Ex.exit 0) [(0, Pt.gs (σ.S 0)), (8, Pt.gi IntKind.i64 (σ.I 8)), (3, Pt.gr 8 (5 : TypeId) [PK.int IntKind.u8] x15)] [] [4] ∧ x16))))) ∧ (x0 = false → true = true ∧ Ex.exit 0 = Ex.exit 0 ∧ true = true ∧ ((True ∧ σ.S 0 = σ.S 0) ∧ σ.I 8 = σ.I 8) ∧ x4 ∧ σ.R 4 = x15)) := by kernel_rfl

theorem qt_goal (σ : Dt) (α : At') : (cQt.goal Tryd.prog LqtL.mk' 1000 Tryd.f18 σ α) = (
let x0 := [[Value.int IntKind.u8 (34 : Int)]];
let x1 := qtR x0 (σ.S 0) (0 : Int);
let x2 := x1.length;
let x3 := x1 ++ x0;
let x4 := x3.length;
((True ∧ 1 = 1) ∧ (0 : Int) ≤ (0 : Int) ∧ (0 : Int) ≤ (↑(σ.S 0).size : Int) ∧ (↑(σ.S 0).size : Int) = (↑(σ.S 0).size : Int) ∧ (σ.S 0).size ≤ 1099511627776 ∧ (1 : Int) + (4 : Int) * ((↑(σ.S 0).size : Int) - (0 : Int)) ≤ (1099511627776 : Int)) ∧ (x2 = x2 ∧ True ∧ x4 ≤ 9223372036854775807 ∧ x4 * 1 ≤
    140737488355328) ∧ x4 ≤ x4 ∧ True ∧ Ex.ret = Ex.ret ∧ true = true ∧ True ∧ (ByteArray.mk (List.map (fun r => UInt8.ofNat (asI (r.getD 0 (Value.tuple #[]))).toNat) (List.take x4 x3)).toArray) = qtS (σ.S 0)) := by kernel_rfl

theorem texts_goal (σ : Dt) (α : At') : ((run Tryd.prog (Lqt.mk' fun _ _ _ _ => False) 3000 Tryd.f6 (argsV σ α aTx 0)).sat (hands Tryd.prog Tryd.f6 (.bool true))) = (
let x0 := decide ((↑(σ.S 0).size : Int) > (16000 : Int));
let x1 := bif x0 then (σ.S 0).extract 0 16000 else σ.S 0;
let x2 := qtS x1;
let x3 := allE x2 == (0 : Int);
let x4 := allR x2;
let x5 := x4.length;
let x6 := (↑x5 : Int);
let x7 := x6 == (2 : Int);
let x8 := x5 ≤ x5;
let x9 := asI ((x4.getD 0 []).getD 0 (Value.tuple #[])) == (3 : Int) && (asI ((x4.getD 0 []).getD 1 (Value.tuple #[])) == (1 : Int) && (asI ((x4.getD 0 []).getD 2 (Value.tuple #[])) == (0 : Int) && ((asS ((x4.getD 0 []).getD 3 (Value.tuple #[]))).toList == x1.toList && true)));
(x0 = true → (0 : Int) ≤ (16000 : Int) ∧ (16000 : Int) ≤ (↑(σ.S 0).size : Int)) ∧ (True ∧ x1.size ≤ 268435456) ∧ (True ∧ True) ∧ (x3 = true → x7 = true → ((0 : Int) ≤ (0 : Int) ∧ (0 : Int) < x6 ∧ x8) ∧ 0 < x5 ∧ (x9 = true → ((0 : Int) ≤ (1 : Int) ∧ (1 : Int) < x6 ∧ x8) ∧ 1 < x5)) ∧ True ∧ Value.bool
    (bif x3 then bif x7 then bif x9 then bif asI ((x4.getD 1 []).getD 0 (Value.tuple #[])) == (6 : Int) then true else false else false else false else false) = Value.bool true) := by kernel_rfl

end Go.Proofs.YtfjldllegmfooaaDoor.Lx
end

section
/- Quote; LexerTexts: for every text the law hands back true. No condition. -/
set_option maxRecDepth 100000
namespace Go.Proofs.YtfjldllegmfooaaDoor.Lx
open Go.RowKit Go.IntWalk Go.Proofs.YtfjldllegmfooaaDoor.X

theorem qtR_step {xs : List (List Value)} {s : ByteArray} {i : Int} (h0 : 0 ≤ i) (h1 : i < s.size) : qtR (xs ++ bytR (quoC (byt s.data.toList i.toNat))) s (i + 1) = qtR xs s i := by
  unfold qtR
  rw [appR_eq, appR_eq]
  have hl : i.toNat < s.data.toList.length := by rw [data_len]; omega
  have e : byt s.data.toList i.toNat = s.data.toList[i.toNat] := by unfold byt; rw [getD_in _ _ hl]
  rw [List.drop_eq_getElem_cons hl, List.flatMap_cons, show (i + 1).toNat = i.toNat + 1 by omega, e]
  unfold bytR
  rw [List.map_append, List.append_assoc]
theorem hx_hi : ∀ c : Fin 256, ((ByteArray.mk (#[(48 : UInt8), (49 : UInt8), (50 : UInt8), (51 : UInt8), (52 : UInt8), (53 : UInt8), (54 : UInt8), (55 : UInt8), (56 : UInt8), (57 : UInt8), (97 : UInt8), (98 : UInt8), (99 : UInt8), (100 : UInt8), (101 : UInt8), (102 : UInt8)])).data.getD ((c.val : Int).fdiv (16 : Int)).toNat 0) = hexC (c.val / 16) := by decide +kernel
theorem hx_lo : ∀ c : Fin 256, ((ByteArray.mk (#[(48 : UInt8), (49 : UInt8), (50 : UInt8), (51 : UInt8), (52 : UInt8), (53 : UInt8), (54 : UInt8), (55 : UInt8), (56 : UInt8), (57 : UInt8), (97 : UInt8), (98 : UInt8), (99 : UInt8), (100 : UInt8), (101 : UInt8), (102 : UInt8)])).data.getD (IntKind.u8.wrap (((BitVec.ofInt 8 (c.val : Int) &&& BitVec.ofInt 8 (15 : Int)).toNat : Nat) : Int)).toNat 0) = hexC (c.val % 16) := by decide +kernel
theorem hx_bd : ∀ c : Fin 256, ((0 : Int) ≤ (c.val : Int).fdiv (16 : Int) ∧ (c.val : Int).fdiv (16 : Int) < 16) ∧ (0 : Int) ≤ IntKind.u8.wrap (((BitVec.ofInt 8 (c.val : Int) &&& BitVec.ofInt 8 (15 : Int)).toNat : Nat) : Int) ∧ IntKind.u8.wrap (((BitVec.ofInt 8 (c.val : Int) &&& BitVec.ofInt 8 (15 : Int)).toNat : Nat) : Int) < 16 := by decide +kernel
theorem good_qtL : Lib.Good Tryd.prog LqtL := lib_loop good_live 3 "lexer.go:302" (by kernel_rfl) lQtL 2000 fun σ α rest hp => by
  refine (qtl_round σ α rest).mpr ?_
  obtain ⟨h0, h1, h8, hz, hb⟩ := (show 0 ≤ σ.I 9 ∧ σ.I 9 ≤ σ.I 8 ∧ σ.I 8 = (σ.S 0).size ∧ (σ.S 0).size ≤ 1099511627776 ∧ ((σ.R 4).length : Int) + 4 * ((σ.S 0).size - σ.I 9) ≤ 1099511627776 from hp)
  intro x0 x1 x2 x3 x4 x5 x6 x7 x8 x9 x10 x11 x12 x13 x14 x15 x16 x17 x18 x19 x20 x21 x22 x23 x24 x25 x26 x27 x28 x29 x30 x31
  have e1 : x1 = ((byt (σ.S 0).data.toList (σ.I 9).toNat).toNat : Int) := by show ((_ : Nat) : Int) = _; rw [getD_byt]
  have eb : ∀ n : Nat, n < 256 → (x1 == (n : Int)) = decide (byt (σ.S 0).data.toList (σ.I 9).toNat = UInt8.ofNat n) := fun n hn => by
    rw [e1, Bool.eq_iff_iff, beq_iff_eq, decide_eq_true_iff]
    constructor
    · intro h; have h := Int.ofNat.inj h; rw [← h, UInt8.ofNat_toNat]
    · intro h; rw [h, UInt8.toNat_ofNat']; congr 1; omega
  refine ⟨rfl, fun h => ?_, fun h => ?_⟩
  · have hlt : σ.I 9 < σ.I 8 := of_decide_eq_true h
    have e8 : x8 = σ.I 9 + 1 := i64_in _ (by omega)
    have hs := fun xs => qtR_step (xs := xs) h0 (show σ.I 9 < (σ.S 0).size by omega)
    have e3 : x3 = decide (byt (σ.S 0).data.toList (σ.I 9).toNat = 34 ∨ byt (σ.S 0).data.toList (σ.I 9).toNat = 92) := by
      have a := eb 34 (by decide)
      have b := eb 92 (by decide)
      show (bif x1 == 34 then x1 == 34 else x1 == 92) = _
      rw [show (x1 == 34) = _ from a, show (x1 == 92) = _ from b]
      by_cases h : byt (σ.S 0).data.toList (σ.I 9).toNat = 34 <;> by_cases h' : byt (σ.S 0).data.toList (σ.I 9).toNat = 92 <;> simp [h, h']
    have e16 : x17 = decide (byt (σ.S 0).data.toList (σ.I 9).toNat = 10) := eb 10 (by decide)
    have e19 : x20 = decide (byt (σ.S 0).data.toList (σ.I 9).toNat = 9) := eb 9 (by decide)
    have e23 : x24 = decide ((byt (σ.S 0).data.toList (σ.I 9).toNat).toNat < 32 ∨ (byt (σ.S 0).data.toList (σ.I 9).toNat).toNat > 126) := by
      show (bif decide (x1 < 32) then decide (x1 < 32) else decide (x1 > 126)) = _
      rw [e1]
      by_cases h : (byt (σ.S 0).data.toList (σ.I 9).toNat).toNat < 32 <;> by_cases h' : (byt (σ.S 0).data.toList (σ.I 9).toNat).toNat > 126 <;> simp [h, h'] <;> omega
    have k1 := hx_bd ⟨(byt (σ.S 0).data.toList (σ.I 9).toNat).toNat, UInt8.toNat_lt _⟩
    have k2 := hx_hi ⟨(byt (σ.S 0).data.toList (σ.I 9).toNat).toNat, UInt8.toNat_lt _⟩
    have k3 := hx_lo ⟨(byt (σ.S 0).data.toList (σ.I 9).toNat).toNat, UInt8.toNat_lt _⟩
    have es : ∀ ys : List (List Value), ys = bytR (quoC (byt (σ.S 0).data.toList (σ.I 9).toNat)) → qtR (σ.R 4 ++ ys) (σ.S 0) x8 = x15 ∧ (σ.R 4 ++ ys).length = (σ.R 4).length + (quoC (byt (σ.S 0).data.toList (σ.I 9).toNat)).length := fun ys hy => by
      rw [hy, e8]
      exact ⟨hs _, by unfold bytR; rw [List.length_append, List.length_map]⟩
    have hq := quoC_len (byt (σ.S 0).data.toList (σ.I 9).toNat)
    generalize hc : byt (σ.S 0).data.toList (σ.I 9).toNat = c at e1 e3 e16 e19 e23 k1 k2 k3 es hq
    refine ⟨⟨h0, by omega⟩, fun h3 => ?_, fun h3 => ⟨fun h16 => ?_, fun h16 => ⟨fun h19 => ?_, fun h19 => ⟨fun h23 => ?_, fun h23 => ?_⟩⟩⟩⟩
    · rw [e3] at h3
      have eq : quoC c = [92, c] := by unfold quoC; rw [if_pos (of_decide_eq_true h3)]
      obtain ⟨g1, g2⟩ := es ([Value.int IntKind.u8 (92 : Int)] :: x5) (by rw [eq]; show _ :: [[Value.int IntKind.u8 x1]] = _; rw [e1]; rfl)
      rw [eq] at g2
      have g3 : x7 = (σ.R 4).length + 2 := g2
      refine ⟨⟨rfl, trivial, by omega, by omega⟩, rfl, rfl, ⟨trivial, rfl⟩, ⟨by show 0 ≤ x8; omega, by show x8 ≤ _; omega, h8, hz, by show _ + 4 * (((σ.S 0).size : Int) - x8) ≤ _; omega⟩, by show (_ - x8).toNat < _; omega, by rw [show qtR x6 (σ.S 0) x8 = x15 from g1], rfl⟩
    · rw [e3] at h3; rw [e16] at h16
      have eq : quoC c = [92, 110] := by unfold quoC; rw [if_neg (of_decide_eq_false h3), if_pos (of_decide_eq_true h16)]
      obtain ⟨g1, g2⟩ := es ([[Value.int IntKind.u8 (92 : Int)], [Value.int IntKind.u8 (110 : Int)]]) (by rw [eq]; rfl)
      rw [eq] at g2
      have g3 : x19 = (σ.R 4).length + 2 := g2
      refine ⟨⟨rfl, trivial, by omega, by omega⟩, rfl, rfl, ⟨trivial, rfl⟩, ⟨by show 0 ≤ x8; omega, by show x8 ≤ _; omega, h8, hz, by show _ + 4 * (((σ.S 0).size : Int) - x8) ≤ _; omega⟩, by show (_ - x8).toNat < _; omega, by rw [show qtR x18 (σ.S 0) x8 = x15 from g1], rfl⟩
    · rw [e3] at h3; rw [e16] at h16; rw [e19] at h19
      have eq : quoC c = [92, 116] := by unfold quoC; rw [if_neg (of_decide_eq_false h3), if_neg (of_decide_eq_false h16), if_pos (of_decide_eq_true h19)]
      obtain ⟨g1, g2⟩ := es ([[Value.int IntKind.u8 (92 : Int)], [Value.int IntKind.u8 (116 : Int)]]) (by rw [eq]; rfl)
      rw [eq] at g2
      have g3 : x22 = (σ.R 4).length + 2 := g2
      refine ⟨⟨rfl, trivial, by omega, by omega⟩, rfl, rfl, ⟨trivial, rfl⟩, ⟨by show 0 ≤ x8; omega, by show x8 ≤ _; omega, h8, hz, by show _ + 4 * (((σ.S 0).size : Int) - x8) ≤ _; omega⟩, by show (_ - x8).toNat < _; omega, by rw [show qtR x21 (σ.S 0) x8 = x15 from g1], rfl⟩
    · rw [e3] at h3; rw [e16] at h16; rw [e19] at h19; rw [e23] at h23
      have eq : quoC c = [92, 120, hexC (c.toNat / 16), hexC (c.toNat % 16)] := by unfold quoC; rw [if_neg (of_decide_eq_false h3), if_neg (of_decide_eq_false h16), if_neg (of_decide_eq_false h19), if_pos (of_decide_eq_true h23)]
      have e24 : x25 = ((c.toNat : Int)).fdiv 16 := by show x1.fdiv 16 = _; rw [e1]
      have e25 : x26 = IntKind.u8.wrap (((BitVec.ofInt 8 (c.toNat : Int) &&& BitVec.ofInt 8 (15 : Int)).toNat : Nat) : Int) := by show IntKind.u8.wrap (((BitVec.ofInt 8 x1 &&& _).toNat : Nat) : Int) = _; rw [e1]
      obtain ⟨g1, g2⟩ := es ([[Value.int IntKind.u8 (92 : Int)], [Value.int IntKind.u8 (120 : Int)], [Value.int IntKind.u8 ((x27.getD x25.toNat (0 : UInt8)).toNat : Int)], [Value.int IntKind.u8 ((x27.getD x26.toNat (0 : UInt8)).toNat : Int)]]) (by
        rw [eq, e24, e25, show x27.getD _ _ = _ from k2, show x27.getD _ _ = _ from k3]; rfl)
      rw [eq] at g2
      have g3 : x29 = (σ.R 4).length + 4 := g2
      refine ⟨by rw [e24]; exact k1.1, by rw [e25]; exact k1.2, ⟨rfl, trivial, by omega, by omega⟩, rfl, rfl, ⟨trivial, rfl⟩, ⟨by show 0 ≤ x8; omega, by show x8 ≤ _; omega, h8, hz, by show _ + 4 * (((σ.S 0).size : Int) - x8) ≤ _; omega⟩, by show (_ - x8).toNat < _; omega, by rw [show qtR x28 (σ.S 0) x8 = x15 from g1], rfl⟩
    · rw [e3] at h3; rw [e16] at h16; rw [e19] at h19; rw [e23] at h23
      have eq : quoC c = [c] := by unfold quoC; rw [if_neg (of_decide_eq_false h3), if_neg (of_decide_eq_false h16), if_neg (of_decide_eq_false h19), if_neg (of_decide_eq_false h23)]
      obtain ⟨g1, g2⟩ := es x5 (by rw [eq]; show [[Value.int IntKind.u8 x1]] = _; rw [e1]; rfl)
      rw [eq] at g2
      have g3 : x31 = (σ.R 4).length + 1 := g2
      refine ⟨⟨rfl, trivial, by omega, by omega⟩, rfl, rfl, ⟨trivial, rfl⟩, ⟨by show 0 ≤ x8; omega, by show x8 ≤ _; omega, h8, hz, by show _ + 4 * (((σ.S 0).size : Int) - x8) ≤ _; omega⟩, by show (_ - x8).toNat < _; omega, by rw [show qtR x30 (σ.S 0) x8 = x15 from g1], rfl⟩
  · have hge : ¬ σ.I 9 < σ.I 8 := of_decide_eq_false h
    refine ⟨rfl, rfl, rfl, ⟨⟨trivial, rfl⟩, rfl⟩, rfl, ?_⟩
    show _ = qtR _ _ _
    unfold qtR
    rw [appR_eq, List.drop_of_length_le (by rw [data_len]; omega)]
    simp [bytR]
theorem good_qt : Lib.Good Tryd.prog Lqt := lib_con good_qtL Tryd.func18 cQt 1000 fun σ α hp => by
  rw [qt_goal]
  have hp : (σ.S 0).size ≤ 268435456 := hp
  intro x0 x1 x2 x3 x4
  have hL := data_len (σ.S 0)
  have e1 : x1 = bytR (34 :: (σ.S 0).data.toList.flatMap quoC) := by
    show qtR x0 _ _ = _
    unfold qtR; rw [appR_eq]; rfl
  have e3 : x3 = bytR (quoteT (σ.S 0).data.toList) := by
    show x1 ++ x0 = _
    rw [e1]; unfold quoteT bytR; rw [← List.cons_append, List.map_append]; rfl
  have hf := flat_len (σ.S 0).data.toList
  have e4 : x4 = ((σ.S 0).data.toList.flatMap quoC).length + 2 := by
    show x3.length = _
    rw [e3]; unfold quoteT bytR; simp
  refine ⟨⟨⟨trivial, rfl⟩, Int.le_refl _, Int.natCast_nonneg _, rfl, by omega, by omega⟩, ⟨rfl, trivial, by omega, by omega⟩, Nat.le_refl _, trivial, rfl, rfl, trivial, ?_⟩
  rw [List.take_of_length_le (Nat.le_refl _), e3]
  exact rows_bs _
theorem texts_law (cs : List Value) : SatB Tryd.prog Lqt 3000 Tryd.f6 (argsV (dtL cs) at0 aTx 0) := ⟨by
  rw [texts_goal]
  generalize (dtL cs).S 0 = s
  intro x0 x1 x2 x3 x4 x5 x6 x7 x8 x9
  have hx1 : x1.size ≤ 16000 := by
    show (bif x0 then s.extract 0 16000 else s).size ≤ _
    cases h : x0 with
    | true => show (s.extract 0 16000).size ≤ 16000; rw [ext_l, bs_size, List.length_take]; omega
    | false => have : ¬ (s.size : Int) > 16000 := of_decide_eq_false h; show s.size ≤ _; omega
  have hq : allT x2.data.toList = .ok [(1, ⟨3, 0, x1.data.toList⟩), (1, endT)] := by
    show allT (qtS x1).data.toList = _
    unfold qtS
    rw [bs_data]; exact allT_quote _ (by rw [data_len]; exact hx1)
  have e3 : x3 = true := by show (allE x2 == 0) = true; unfold allE; rw [hq]; rfl
  have e4 : x4 = [tokR 1 ⟨3, 0, x1.data.toList⟩, tokR 1 endT] := by show allR x2 = _; unfold allR; rw [hq]; rfl
  have e5 : x5 = 2 := by show x4.length = 2; rw [e4]; rfl
  have e7 : x7 = true := by show ((x5 : Int) == 2) = true; rw [e5]; rfl
  have e9 : x9 = true := by
    show (asI ((x4.getD 0 []).getD 0 undef) == (3 : Int) && (asI ((x4.getD 0 []).getD 1 undef) == (1 : Int) && (asI ((x4.getD 0 []).getD 2 undef) == (0 : Int) && ((asS ((x4.getD 0 []).getD 3 undef)).toList == x1.toList && true)))) = true
    rw [e4]
    show ((3 : Int) == 3 && ((1 : Int) == 1 && ((0 : Int) == 0 && ((bs x1.data.toList).toList == x1.toList && true)))) = true
    rw [bs_of]; simp
  refine ⟨fun h => ⟨by decide, ?_⟩, ⟨trivial, by omega⟩, ⟨trivial, trivial⟩, fun _ _ => ⟨⟨Int.le_refl _, by show (0 : Int) < (x5 : Int); omega, Nat.le_refl _⟩, by omega, fun _ => ⟨⟨by decide, by show (1 : Int) < (x5 : Int); omega, Nat.le_refl _⟩, by omega⟩⟩, trivial, ?_⟩
  · have : (s.size : Int) > 16000 := of_decide_eq_true h
    omega
  · show Value.bool (bif x3 then bif x7 then bif x9 then bif asI ((x4.getD 1 []).getD 0 undef) == 6 then true else false else false else false else false) = _
    rw [e3, e7, e9, e4]; rfl⟩
theorem texts_walk (vs cs : List Value) (hv : okArgs aTx vs cs) (w : World) (hgl : GlW w) : Calls Tryd.prog 6 vs.toArray w fun e w' => e = .returned (.bool true) ∧ Below w.heap.size w w' :=
  law_calls good_qt Tryd.func6 3000 aTx (fun cs _ => texts_law cs) vs cs hv w hgl
end Go.Proofs.YtfjldllegmfooaaDoor.Lx
end

section
/- LexerLines: contracts. No condition. -/
namespace Go.Proofs.YtfjldllegmfooaaDoor.Lx
open Go.RowKit Go.IntWalk Go.Proofs.YtfjldllegmfooaaDoor.X

def linR (xs : List (List Value)) (s : ByteArray) (f : Int) : List (List Value) := appR xs (rowsS (split (s.data.toList.drop f.toNat)).dropLast)
def linF (s : ByteArray) (f : Int) : Int := (s.size : Int) - (((split (s.data.toList.drop f.toNat)).getLast?.getD []).length : Nat)
def LinP (s : ByteArray) (xs : List (List Value)) (f i : Int) : Prop := 0 ≤ f ∧ f ≤ i ∧ i ≤ s.size ∧ s.size ≤ 1099511627776 ∧ (xs.length : Int) ≤ f ∧ 10 ∉ (s.data.toList.take i.toNat).drop f.toNat
def cLinL : Con where
  ps := [.s 0, .r 4 9 [.str], .i .i64 8, .i .i64 9]
  bl := []
  top := 8
  pre := fun σ => LinP (σ.S 0) (σ.R 4) (σ.I 8) (σ.I 9)
  post := fun σ => .leaf (.exit 0) [(0, .gs (σ.S 0)), (3, .gr 8 9 [.str] (linR (σ.R 4) (σ.S 0) (σ.I 8))), (4, .gi .i64 (linF (σ.S 0) (σ.I 8)))] [] [4]
noncomputable def bLinL : Code := loopAt Tryd.prog 4 "ref.go:214"
noncomputable def lLinL : LCon := { c := cLinL, sl := [0, 3, 4, 5], nt := Tryd.f17.ntmps, hv := nubN (writes bLinL) [], meas := fun σ => ((σ.S 0).size - σ.I 9).toNat, mvr := [4] }
noncomputable def LlinL : Lib := { Lqt with ls := (4, "ref.go:214", lLinL) :: Lqt.ls }
def lnsR (s : ByteArray) : List (List Value) := rowsS (lines s.data.toList)
def cLin : Con where
  ps := [.s 0]
  bl := []
  top := 0
  pre := fun σ => (σ.S 0).size ≤ 1099511627776
  post := fun σ => .leaf .ret [(0, .gr 0 9 [.str] (lnsR (σ.S 0)))] [] []
noncomputable def Llin : Lib := { LlinL with cs := (17, cLin) :: LlinL.cs }
/-- Tokens of two texts, one behind the other. -/
def TwoP (X Y Z : List (List Value)) (k i : Int) : Prop := ∃ rx ry : List (Nat × Tok), ∃ n : Nat, X = toksR rx ∧ Y = toksR ry ∧ Z = toksR (rx ++ ry.map fun q => (q.1 + n, q.2)) ∧ k = n ∧ n ≤ 1099511627776 ∧ Z.length ≤ 1099511627776 ∧ (∀ q ∈ ry, q.1 ≤ 1099511627776) ∧ 0 ≤ i ∧ i ≤ Z.length
def cTwoL : Con where
  ps := [.r 0 32 tokK, .r 4 32 tokK, .r 8 32 tokK, .i .i64 12, .i .i64 13]
  bl := []
  top := 12
  pre := fun σ => TwoP (σ.R 0) (σ.R 4) (σ.R 8) (σ.I 12) (σ.I 13)
  post := fun σ => .leaf (.exit 0) [(5, .k 0 (σ.R 0).length), (8, .k 4 (σ.R 4).length), (11, .k 8 (σ.R 8).length), (14, .gi .i64 (σ.I 12))] [] []
noncomputable def bTwoL : Code := loopAt Tryd.prog 14 "law.go:106"
noncomputable def lTwoL : LCon := { c := cTwoL, sl := [5, 8, 11, 14, 15], nt := Tryd.f4.ntmps, hv := nubN (writes bTwoL) [], meas := fun σ => ((σ.R 8).length - σ.I 13).toNat }
noncomputable def LtwoL : Lib := { Llin with ls := (14, "law.go:106", lTwoL) :: Llin.ls }
def aLn : List ArgK := [(false, [.str]), (false, [.str])]
end Go.Proofs.YtfjldllegmfooaaDoor.Lx
end

section
/- Written by vc.py: what is to be shown, read out. No condition. -/
set_option maxRecDepth 1000000
set_option maxHeartbeats 0
namespace Go.Proofs.YtfjldllegmfooaaDoor.Lx
open Go.RowKit Go.Proofs.YtfjldllegmfooaaDoor.X
theorem linl_round (σ : Dt) (α : At') (rest : Nat → Value) : (lLinL.goal Tryd.prog Lqt.mk' 2000 bLinL σ α rest) = (
let x0 := σ.I 9 < (↑(σ.S 0).size : Int);
let x1 := decide x0;
let x2 := (↑((σ.S 0).data.getD (σ.I 9).toNat (0 : UInt8)).toNat : Int) == (10 : Int);
let x3 := (σ.R 4).length = (σ.R 4).length;
let x4 := σ.R 4 ++ [[Value.string ((σ.S 0).extract (σ.I 8).toNat (σ.I 9).toNat)]];
let x5 := x4.length;
let x6 := IntKind.i64.wrap (σ.I 9 + (1 : Int));
let x7 := ((↑(σ.S 0).size : Int) - x6).toNat < ((↑(σ.S 0).size : Int) - σ.I 9).toNat;
let x8 := linR (σ.R 4) (σ.S 0) (σ.I 8);
let x9 := asSt ([], []) = ([], []);
true = true ∧ (x1 = true → ((0 : Int) ≤ σ.I 9 ∧ x0) ∧ (x2 = true → (((0 : Int) ≤ σ.I 9 ∧ σ.I 9 ≤ (↑(σ.S 0).size : Int)) ∧ (0 : Int) ≤ σ.I 8 ∧ σ.I 8 ≤ σ.I 9) ∧ (x3 ∧ True ∧ x5 ≤ 9223372036854775807 ∧ x5 * 16 ≤ 140737488355328) ∧ true = true ∧ true = true ∧ (True ∧ x5 = x5) ∧ LinP (σ.S 0) x4 x6 x6 ∧
    x7 ∧ Po.leaf (Ex.exit 0) [(0, Pt.gs (σ.S 0)), (3, Pt.gr 8 (9 : TypeId) [PK.str] (linR x4 (σ.S 0) x6)), (4, Pt.gi IntKind.i64 (linF (σ.S 0) x6))] [] [4] = Po.leaf (Ex.exit 0) [(0, Pt.gs (σ.S 0)), (3, Pt.gr 8 (9 : TypeId) [PK.str] x8), (4, Pt.gi IntKind.i64 (linF (σ.S 0) (σ.I
    8)))] [] [4] ∧ x9) ∧ (x2 = false → true = true ∧ true = true ∧ (True ∧ x3) ∧ LinP (σ.S 0) (σ.R 4) (σ.I 8) x6 ∧ x7 ∧ Po.leaf (Ex.exit 0) [(0, Pt.gs (σ.S 0)), (3, Pt.gr 8 (9 : TypeId) [PK.str] x8), (4, Pt.gi IntKind.i64 (linF (σ.S 0) (σ.I 8)))] [] [4] = Po.leaf (Ex.exit 0) [(0, Pt.gs
    (σ.S 0)), (3, Pt.gr 8 (9 : TypeId) [PK.str] x8), (4, Pt.gi IntKind.i64 (linF (σ.S 0) (σ.I 8)))] [] [4] ∧ x9)) ∧ (x1 = false → true = true ∧ Ex.exit 0 = Ex.exit 0 ∧ true = true ∧ ((True ∧ σ.S 0 = σ.S 0) ∧ x3 ∧ σ.R 4 = x8) ∧ σ.I 8 = linF (σ.S 0) (σ.I 8))) := by kernel_rfl

theorem lin_goal (σ : Dt) (α : At') : (cLin.goal Tryd.prog LlinL.mk' 1000 Tryd.f17 σ α) = (
let x0 := decide (linF (σ.S 0) (0 : Int) < (↑(σ.S 0).size : Int));
let x1 := linR [] (σ.S 0) (0 : Int);
let x2 := x1.length;
let x3 := x2 = x2;
let x4 := x1 ++ [[Value.string ((σ.S 0).extract (linF (σ.S 0) (0 : Int)).toNat (σ.S 0).size)]];
let x5 := x4.length;
((True ∧ 0 = 0) ∧ LinP (σ.S 0) [] (0 : Int) (0 : Int)) ∧ (x0 = true → ((0 : Int) ≤ linF (σ.S 0) (0 : Int) ∧ linF (σ.S 0) (0 : Int) ≤ (↑(σ.S 0).size : Int)) ∧ (x3 ∧ True ∧ x5 ≤ 9223372036854775807 ∧ x5 * 16 ≤ 140737488355328) ∧ True ∧ Ex.ret = Ex.ret ∧ true = true ∧ True ∧ x5 = x5 ∧ x4 = lnsR (σ.S
    0)) ∧ (x0 = false → True ∧ Ex.ret = Ex.ret ∧ true = true ∧ True ∧ x3 ∧ x1 = lnsR (σ.S 0))) := by kernel_rfl

theorem twol_round (σ : Dt) (α : At') (rest : Nat → Value) : (lTwoL.goal Tryd.prog Llin.mk' 2000 bTwoL σ α rest) = (
let x0 := σ.I 13 < (↑(σ.R 8).length : Int);
let x1 := decide x0;
let x2 := σ.I 13 < (↑(σ.R 0).length : Int);
let x3 := decide x2;
let x4 := IntKind.i64.wrap (σ.I 13 - (↑(σ.R 0).length : Int));
let x5 := x4.toNat;
let x6 := !((asI (((σ.R 8).getD (σ.I 13).toNat []).getD 0 (Value.tuple #[])) == bif x3 then asI (((σ.R 0).getD (σ.I 13).toNat []).getD 0 (Value.tuple #[])) else asI (((σ.R 4).getD x5 []).getD 0 (Value.tuple #[]))) && ((asI (((σ.R 8).getD (σ.I 13).toNat []).getD 1 (Value.tuple #[])) == bif x3 then
    asI (((σ.R 0).getD (σ.I 13).toNat []).getD 1 (Value.tuple #[])) else IntKind.i64.wrap (asI (((σ.R 4).getD x5 []).getD 1 (Value.tuple #[])) + σ.I 12)) && ((asI (((σ.R 8).getD (σ.I 13).toNat []).getD 2 (Value.tuple #[])) == bif x3 then asI (((σ.R 0).getD (σ.I 13).toNat []).getD 2 (Value.tuple
    #[])) else asI (((σ.R 4).getD x5 []).getD 2 (Value.tuple #[]))) && ((asS (((σ.R 8).getD (σ.I 13).toNat []).getD 3 (Value.tuple #[]))).toList == (bif x3 then asS (((σ.R 0).getD (σ.I 13).toNat []).getD 3 (Value.tuple #[])) else asS (((σ.R 4).getD x5 []).getD 3 (Value.tuple #[]))).toList &&
    true))));
let x7 := (σ.R 0).length = (σ.R 0).length;
let x8 := (σ.R 4).length = (σ.R 4).length;
let x9 := (σ.R 8).length = (σ.R 8).length;
let x10 := ((True ∧ x7) ∧ x8) ∧ x9;
let x11 := IntKind.i64.wrap (σ.I 13 + (1 : Int));
true = true ∧ (x1 = true → ((x3 = true → ((0 : Int) ≤ σ.I 13 ∧ x2 ∧ (σ.R 0).length ≤ (σ.R 0).length) ∧ (σ.I 13).toNat < (σ.R 0).length) ∧ (x3 = false → ((0 : Int) ≤ x4 ∧ x4 < (↑(σ.R 4).length : Int) ∧ (σ.R 4).length ≤ (σ.R 4).length) ∧ x5 < (σ.R 4).length)) ∧ ((0 : Int) ≤ σ.I 13 ∧ x0 ∧ (σ.R
    8).length ≤ (σ.R 8).length) ∧ (σ.I 13).toNat < (σ.R 8).length ∧ (x6 = true → true = true ∧ Ex.exit 0 = Ex.ret ∧ true = true ∧ False) ∧ (x6 = false → true = true ∧ true = true ∧ x10 ∧ TwoP (σ.R 0) (σ.R 4) (σ.R 8) (σ.I 12) x11 ∧ ((↑(σ.R 8).length : Int) - x11).toNat < ((↑(σ.R 8).length : Int) -
    σ.I 13).toNat ∧ Po.leaf (Ex.exit 0) [(5, Pt.k 0 (σ.R 0).length), (8, Pt.k 4 (σ.R 4).length), (11, Pt.k 8 (σ.R 8).length), (14, Pt.gi IntKind.i64 (σ.I 12))] [] [] = Po.leaf (Ex.exit 0) [(5, Pt.k 0 (σ.R 0).length), (8, Pt.k 4 (σ.R 4).length), (11, Pt.k 8 (σ.R 8).length), (14, Pt.gi IntKind.i64
    (σ.I 12))] [] [] ∧ asSt ([], [(0, (32 : TypeId), [PK.int IntKind.i64, PK.int IntKind.i64, PK.int IntKind.i64, PK.str], σ.R 0), (4, (32 : TypeId), [PK.int IntKind.i64, PK.int IntKind.i64, PK.int IntKind.i64, PK.str], σ.R 4), (8, (32 : TypeId), [PK.int
    IntKind.i64, PK.int IntKind.i64, PK.int IntKind.i64, PK.str], σ.R 8)]) = ([], [(0, (32 : TypeId), [PK.int IntKind.i64, PK.int IntKind.i64, PK.int IntKind.i64, PK.str], σ.R 0), (4, (32 : TypeId), [PK.int IntKind.i64, PK.int IntKind.i64, PK.int IntKind.i64, PK.str], σ.R
    4), (8, (32 : TypeId), [PK.int IntKind.i64, PK.int IntKind.i64, PK.int IntKind.i64, PK.str], σ.R 8)]))) ∧ (x1 = false → true = true ∧ Ex.exit 0 = Ex.exit 0 ∧ true = true ∧ (((x10 ∧ σ.I 12 = σ.I 12) ∧ x7 ∧ σ.R 0 = σ.R 0) ∧ x8 ∧ σ.R 4 = σ.R 4) ∧ x9 ∧ σ.R 8 = σ.R 8)) := by kernel_rfl

theorem lines_goal (σ : Dt) (α : At') : ((run Tryd.prog (LtwoL.mk' fun _ _ _ _ => False) 3000 Tryd.f4 (argsV σ α aLn 0)).sat (hands Tryd.prog Tryd.f4 (.bool true))) = (
let x0 := (σ.S 0).size + 1 ≤ 9223372036854775807;
let x1 := σ.S 0 ++ (ByteArray.mk (#[(10 : UInt8)]));
let x2 := x1.size;
let x3 := allE x1;
let x4 := x1 ++ σ.S 1;
let x5 := allE x4;
let x6 := bif x3 == (6 : Int) then true else bif allE (σ.S 1) == (6 : Int) then true else x5 == (6 : Int);
let x7 := x3 != (0 : Int);
let x8 := x5 == (100 : Int);
let x9 := allL x4;
let x10 := allE (σ.S 1) != (0 : Int);
let x11 := (↑(lnsR x1).length : Int);
let x12 := allR x4;
let x13 := x12.length;
let x14 := allR x1;
let x15 := x14.length;
let x16 := bif x5 != (0 : Int) then true else (↑x13 : Int) != IntKind.i64.wrap ((↑x15 : Int) + (↑(allR (σ.S 1)).length : Int));
x0 ∧ (True ∧ True) ∧ (True ∧ True) ∧ x0 ∧ x2 + (σ.S 1).size ≤ 9223372036854775807 ∧ (True ∧ True) ∧ x0 ∧ (True ∧ x2 ≤ 1099511627776) ∧ (x6 = true → True ∧ Value.bool true = Value.bool true) ∧ (x6 = false → (x7 = true → True ∧ Value.bool (bif x8 then bif x9 == allL x1 then true else false else false)
    = Value.bool true) ∧ (x7 = false → (x10 = true → True ∧ Value.bool (bif x8 then bif x9 == IntKind.i64.wrap (allL (σ.S 1) + x11) then true else false else false) = Value.bool true) ∧ (x10 = false → (x16 = true → True ∧ Value.bool false = Value.bool true) ∧ (x16 = false → ((((True ∧ x15 = x15) ∧
    (allR (σ.S 1)).length = (allR (σ.S 1)).length) ∧ x13 = x13) ∧ TwoP x14 (allR (σ.S 1)) x12 x11 (0 : Int)) ∧ True ∧ Value.bool true = Value.bool true))))) := by kernel_rfl

end Go.Proofs.YtfjldllegmfooaaDoor.Lx
end

section
/- Lines of a text (the document's), LexerLines: for every two texts the law hands back true. No condition. -/
set_option maxRecDepth 100000
namespace Go.Proofs.YtfjldllegmfooaaDoor.Lx
open Go.RowKit Go.IntWalk Go.Proofs.YtfjldllegmfooaaDoor.X

theorem split_suf : ∀ l : Bs, ∃ p, l = p ++ (split l).getLast (split_ne l)
  | [] => ⟨[], rfl⟩
  | c :: r => by
    obtain ⟨p, hp⟩ := split_suf r
    by_cases h : c = 10
    · refine ⟨c :: p, ?_⟩
      have e : split (c :: r) = [] :: split r := by rw [split, if_pos h]
      have : (split (c :: r)).getLast (split_ne _) = (split r).getLast (split_ne r) := by
        simp only [e]; exact List.getLast_cons (split_ne r)
      rw [this, List.cons_append, ← hp]
    · cases hs : split r with
      | nil => exact absurd hs (split_ne r)
      | cons w ws =>
        have e : split (c :: r) = (c :: w) :: ws := by rw [split, if_neg h, hs]
        cases ws with
        | nil =>
          refine ⟨[], ?_⟩
          have h1 : (split (c :: r)).getLast (split_ne _) = c :: w := by simp only [e]; rfl
          have h2 : (split r).getLast (split_ne r) = w := by simp only [hs]; rfl
          have h3 := split_bulk r
          rw [hs] at h3
          have h4 : w.length = r.length := by simpa [bulk] using h3
          rw [h2] at hp
          have h5 : p = [] := by
            have := congrArg List.length hp
            rw [List.length_append] at this
            exact List.length_eq_zero_iff.1 (by omega)
          rw [h1, hp, h5]; rfl
        | cons w2 ws =>
          refine ⟨c :: p, ?_⟩
          have h1 : (split (c :: r)).getLast (split_ne _) = (split r).getLast (split_ne r) := by simp only [e, hs]; rfl
          rw [h1, List.cons_append, ← hp]
theorem last_get {l : Bs} : (split l).getLast? = some ((split l).getLast (split_ne l)) := List.getLast?_eq_some_getLast _
theorem cut_nl {l : Bs} {f i : Nat} (h1 : f ≤ i) (h2 : i < l.length) (hb : byt l i = 10) (hn : 10 ∉ (l.take i).drop f) : split (l.drop f) = (l.take i).drop f :: split (l.drop (i + 1)) := by
  have e : l.drop f = (l.take i).drop f ++ 10 :: l.drop (i + 1) := by
    have hx : l[i] = 10 := by rw [← hb]; unfold byt; rw [getD_in _ _ h2]
    conv => lhs; rw [← List.take_append_drop i l]
    rw [List.drop_append_of_le_length (by rw [List.length_take]; omega), List.drop_eq_getElem_cons h2, hx]
  rw [e, split_app, split_plain _ hn]; rfl
theorem linR_nl {xs : List (List Value)} {s : ByteArray} {f i : Int} (h0 : 0 ≤ f) (h1 : f ≤ i) (h2 : i < s.size) (hb : byt s.data.toList i.toNat = 10) (hn : 10 ∉ (s.data.toList.take i.toNat).drop f.toNat) :
    linR (xs ++ [[Value.string (s.extract f.toNat i.toNat)]]) s (i + 1) = linR xs s f ∧ linF s (i + 1) = linF s f := by
  have hc := cut_nl (l := s.data.toList) (f := f.toNat) (i := i.toNat) (by omega) (by rw [data_len]; omega) hb hn
  unfold linR linF
  rw [hc, show (i + 1).toNat = i.toNat + 1 by omega, appR_eq, appR_eq, List.dropLast_cons_of_ne_nil (split_ne _)]
  refine ⟨?_, ?_⟩
  · rw [List.append_assoc]
    congr 1
    show [Value.string (s.extract f.toNat i.toNat)] :: _ = [Value.string (bs _)] :: _
    rw [ext_m]; rfl
  · rw [last_get, List.getLast?_cons_of_ne_nil (split_ne _), last_get]
theorem linR_end {xs : List (List Value)} {s : ByteArray} {f : Int} (h0 : 0 ≤ f) (h2 : f ≤ s.size) (hn : 10 ∉ s.data.toList.drop f.toNat) : linR xs s f = xs ∧ linF s f = f := by
  unfold linR linF
  rw [split_plain _ hn, appR_eq]
  refine ⟨by simp [rowsS], ?_⟩
  show (s.size : Int) - ((s.data.toList.drop f.toNat).length : Nat) = f
  rw [List.length_drop, data_len]; omega
theorem good_linL : Lib.Good Tryd.prog LlinL := lib_loop good_qt 4 "ref.go:214" (by kernel_rfl) lLinL 2000 fun σ α rest hp => by
  refine (linl_round σ α rest).mpr ?_
  obtain ⟨h0, h1, h2, h3, h4, hn⟩ := (show LinP (σ.S 0) (σ.R 4) (σ.I 8) (σ.I 9) from hp)
  intro x0 x1 x2 x3 x4 x5 x6 x7 x8 x9
  have e2 : x2 = decide (byt (σ.S 0).data.toList (σ.I 9).toNat = 10) := by
    show (((_ : Nat) : Int) == 10) = _
    rw [getD_byt, Bool.eq_iff_iff, beq_iff_eq, decide_eq_true_iff]
    exact ⟨fun h => UInt8.toNat_inj.1 (Int.ofNat.inj h), fun h => by rw [h]; rfl⟩
  refine ⟨rfl, fun h => ?_, fun h => ?_⟩
  · have hlt : σ.I 9 < (σ.S 0).size := of_decide_eq_true h
    have e6 : x6 = σ.I 9 + 1 := i64_in _ (by omega)
    have hL := data_len (σ.S 0)
    refine ⟨⟨by omega, hlt⟩, fun hb => ?_, fun hb => ?_⟩
    · rw [e2] at hb
      obtain ⟨s1, s2⟩ := linR_nl (xs := σ.R 4) h0 h1 hlt (of_decide_eq_true hb) hn
      have e5 : x5 = (σ.R 4).length + 1 := by show (σ.R 4 ++ [_]).length = _; simp
      refine ⟨⟨⟨by omega, by omega⟩, h0, h1⟩, ⟨rfl, trivial, by omega, by omega⟩, rfl, rfl, ⟨trivial, rfl⟩, ⟨by omega, by omega, by omega, h3, by show (x5 : Int) ≤ _; omega, ?_⟩, by show (_ - x6).toNat < _; omega, ?_, rfl⟩
      · rw [List.drop_of_length_le (by rw [List.length_take]; omega)]; simp
      · rw [e6, s2, show linR x4 (σ.S 0) (σ.I 9 + 1) = x8 from s1]
    · rw [e2] at hb
      refine ⟨rfl, rfl, ⟨trivial, rfl⟩, ⟨h0, by omega, by omega, h3, h4, ?_⟩, by show (_ - x6).toNat < _; omega, rfl, rfl⟩
      rw [e6, show (σ.I 9 + 1).toNat = (σ.I 9).toNat + 1 by omega, List.take_add_one, List.drop_append_of_le_length (by rw [List.length_take]; omega)]
      intro hm
      rcases List.mem_append.1 hm with hm | hm
      · exact hn hm
      · have hl : (σ.I 9).toNat < (σ.S 0).data.toList.length := by omega
        rw [List.getElem?_eq_getElem hl] at hm
        have : (10 : UInt8) = (σ.S 0).data.toList[(σ.I 9).toNat] := by simpa using hm
        exact of_decide_eq_false hb (by unfold byt; rw [getD_in _ _ hl]; exact this.symm)
  · have hge : ¬ σ.I 9 < (σ.S 0).size := of_decide_eq_false h
    have hn' : 10 ∉ (σ.S 0).data.toList.drop (σ.I 8).toNat := by
      rw [List.take_of_length_le (by rw [data_len]; omega)] at hn; exact hn
    obtain ⟨s1, s2⟩ := linR_end (xs := σ.R 4) h0 (by omega) hn'
    exact ⟨rfl, rfl, rfl, ⟨⟨trivial, rfl⟩, rfl, s1.symm⟩, s2.symm⟩
theorem good_lin : Lib.Good Tryd.prog Llin := lib_con good_linL Tryd.func17 cLin 1000 fun σ α hp => by
  rw [lin_goal]
  have hp : (σ.S 0).size ≤ 1099511627776 := hp
  intro x0 x1 x2 x3 x4 x5
  have hL := data_len (σ.S 0)
  have hb := split_bulk (σ.S 0).data.toList
  have hg := bulk_ge (split (σ.S 0).data.toList)
  have e1 : x1 = rowsS (split (σ.S 0).data.toList).dropLast := by
    show linR [] _ 0 = _
    unfold linR; rw [appR_eq]; rfl
  obtain ⟨p, hpp⟩ := split_suf (σ.S 0).data.toList
  have hln := congrArg List.length hpp
  rw [List.length_append, hL] at hln
  have eF : linF (σ.S 0) 0 = (p.length : Int) := by
    unfold linF
    rw [show (0 : Int).toNat = 0 from rfl, List.drop_zero, last_get]
    show _ - (((split (σ.S 0).data.toList).getLast (split_ne _)).length : Int) = _
    omega
  have e5 : x5 = (split (σ.S 0).data.toList).length := by
    show (x1 ++ [_]).length = _
    rw [e1, List.length_append]; unfold rowsS; rw [List.length_map, List.length_dropLast]
    have := List.length_pos_iff.2 (split_ne (σ.S 0).data.toList)
    simp only [List.length_singleton]; omega
  refine ⟨⟨⟨trivial, rfl⟩, Int.le_refl _, Int.le_refl _, Int.natCast_nonneg _, hp, Int.le_refl _, by simp⟩, fun h => ?_, fun h => ?_⟩
  · have h : linF (σ.S 0) 0 < ((σ.S 0).size : Int) := of_decide_eq_true h
    refine ⟨⟨by rw [eF]; omega, by omega⟩, ⟨rfl, trivial, by omega, by omega⟩, trivial, rfl, rfl, trivial, rfl, ?_⟩
    show x1 ++ [_] = rowsS (lines _)
    rw [eF] at h
    have hne : (split (σ.S 0).data.toList).getLast (split_ne _) ≠ [] := fun e => by rw [e] at hln; simp at hln; omega
    rw [lines_eq, if_neg (by rw [last_get]; simpa using hne), e1, eF]
    conv => rhs; rw [← List.dropLast_concat_getLast (split_ne (σ.S 0).data.toList)]
    unfold rowsS
    rw [List.map_append]
    congr 2
    rw [ext_r, Int.toNat_natCast]
    show [Value.string (bs _)] = [Value.string (bs _)]
    congr 3
    conv => lhs; rw [hpp]
    exact List.drop_left
  · have h : ¬ linF (σ.S 0) 0 < ((σ.S 0).size : Int) := of_decide_eq_false h
    refine ⟨trivial, rfl, rfl, trivial, rfl, ?_⟩
    show x1 = rowsS (lines _)
    rw [eF] at h
    have he : (split (σ.S 0).data.toList).getLast (split_ne _) = [] := List.length_eq_zero_iff.1 (by omega)
    rw [lines_eq, if_pos (by rw [last_get, he]), e1]
theorem toksR_len (r : List (Nat × Tok)) : (toksR r).length = r.length := by unfold toksR; rw [List.length_map]
theorem tok_same (k n : Int) (v : Int) (t : ByteArray) : (!((k == k) && ((n == n) && ((v == v) && (t.toList == t.toList && true))))) = false := by simp
theorem good_twoL : Lib.Good Tryd.prog LtwoL := lib_loop good_lin 14 "law.go:106" (by kernel_rfl) lTwoL 2000 fun σ α rest hp => by
  refine (twol_round σ α rest).mpr ?_
  have hT : TwoP (σ.R 0) (σ.R 4) (σ.R 8) (σ.I 12) (σ.I 13) := hp
  obtain ⟨rx, ry, n, eX, eY, eZ, ek, hn, hz, hq, h0, h1⟩ := id hT
  intro x0 x1 x2 x3 x4 x5 x6 x7 x8 x9 x10 x11
  have lX : (σ.R 0).length = rx.length := by rw [eX, toksR_len]
  have lY : (σ.R 4).length = ry.length := by rw [eY, toksR_len]
  have lZ : (σ.R 8).length = rx.length + ry.length := by rw [eZ, toksR_len, List.length_append, List.length_map]
  refine ⟨rfl, fun h => ?_, fun _ => ⟨rfl, rfl, rfl, ⟨⟨⟨⟨⟨⟨trivial, rfl⟩, rfl⟩, rfl⟩, rfl⟩, rfl, rfl⟩, rfl, rfl⟩, rfl, rfl⟩⟩
  have hlt : σ.I 13 < (σ.R 8).length := of_decide_eq_true h
  have e11 : x11 = σ.I 13 + 1 := i64_in _ (by omega)
  have eZi : ∀ (hi : (σ.I 13).toNat < (rx ++ ry.map fun q => (q.1 + n, q.2)).length), (σ.R 8).getD (σ.I 13).toNat [] = tokR (rx ++ ry.map fun q => (q.1 + n, q.2))[(σ.I 13).toNat].1 (rx ++ ry.map fun q => (q.1 + n, q.2))[(σ.I 13).toNat].2 := fun hi => by
    rw [eZ]; exact toksR_at hi
  have hi : (σ.I 13).toNat < (rx ++ ry.map fun q => (q.1 + n, q.2)).length := by rw [List.length_append, List.length_map]; omega
  have eZi := eZi hi
  have g : x6 = false ∧ (x3 = false → ((0 : Int) ≤ x4 ∧ x4 < ((σ.R 4).length : Int) ∧ (σ.R 4).length ≤ (σ.R 4).length) ∧ x5 < (σ.R 4).length) := by
    cases h3 : x3 with
    | true =>
      have h3 : σ.I 13 < (σ.R 0).length := of_decide_eq_true h3
      have hj : (σ.I 13).toNat < rx.length := by omega
      rw [List.getElem_append_left hj] at eZi
      have eXi : (σ.R 0).getD (σ.I 13).toNat [] = tokR rx[(σ.I 13).toNat].1 rx[(σ.I 13).toNat].2 := by rw [eX]; exact toksR_at hj
      refine ⟨?_, fun h => by cases h⟩
      show (!((asI (((σ.R 8).getD (σ.I 13).toNat []).getD 0 undef) == bif x3 then asI (((σ.R 0).getD (σ.I 13).toNat []).getD 0 undef) else asI (((σ.R 4).getD x5 []).getD 0 undef)) && ((asI (((σ.R 8).getD (σ.I 13).toNat []).getD 1 undef) == bif x3 then asI (((σ.R 0).getD (σ.I 13).toNat []).getD 1 undef) else IntKind.i64.wrap (asI (((σ.R 4).getD x5 []).getD 1 undef) + σ.I 12)) && ((asI (((σ.R 8).getD (σ.I 13).toNat []).getD 2 undef) == bif x3 then asI (((σ.R 0).getD (σ.I 13).toNat []).getD 2 undef) else asI (((σ.R 4).getD x5 []).getD 2 undef)) && ((asS (((σ.R 8).getD (σ.I 13).toNat []).getD 3 undef)).toList == (bif x3 then asS (((σ.R 0).getD (σ.I 13).toNat []).getD 3 undef) else asS (((σ.R 4).getD x5 []).getD 3 undef)).toList && true))))) = false
      rw [show x3 = true from decide_eq_true h3, eZi, eXi]
      exact tok_same _ _ _ _
    | false =>
      have h3' : ¬ σ.I 13 < (σ.R 0).length := of_decide_eq_false h3
      have e4 : x4 = σ.I 13 - (σ.R 0).length := i64_in _ (by omega)
      have e5 : x5 = (σ.I 13).toNat - rx.length := by show x4.toNat = _; omega
      have hj : (σ.I 13).toNat - rx.length < ry.length := by omega
      have hge : rx.length ≤ (σ.I 13).toNat := by omega
      rw [List.getElem_append_right hge, List.getElem_map] at eZi
      have eYi : (σ.R 4).getD x5 [] = tokR ry[(σ.I 13).toNat - rx.length].1 ry[(σ.I 13).toNat - rx.length].2 := by rw [eY, e5]; exact toksR_at hj
      have hb := hq ry[(σ.I 13).toNat - rx.length] (List.getElem_mem hj)
      refine ⟨?_, fun _ => ⟨⟨by omega, by omega, Nat.le_refl _⟩, by omega⟩⟩
      show (!((asI (((σ.R 8).getD (σ.I 13).toNat []).getD 0 undef) == bif x3 then asI (((σ.R 0).getD (σ.I 13).toNat []).getD 0 undef) else asI (((σ.R 4).getD x5 []).getD 0 undef)) && ((asI (((σ.R 8).getD (σ.I 13).toNat []).getD 1 undef) == bif x3 then asI (((σ.R 0).getD (σ.I 13).toNat []).getD 1 undef) else IntKind.i64.wrap (asI (((σ.R 4).getD x5 []).getD 1 undef) + σ.I 12)) && ((asI (((σ.R 8).getD (σ.I 13).toNat []).getD 2 undef) == bif x3 then asI (((σ.R 0).getD (σ.I 13).toNat []).getD 2 undef) else asI (((σ.R 4).getD x5 []).getD 2 undef)) && ((asS (((σ.R 8).getD (σ.I 13).toNat []).getD 3 undef)).toList == (bif x3 then asS (((σ.R 0).getD (σ.I 13).toNat []).getD 3 undef) else asS (((σ.R 4).getD x5 []).getD 3 undef)).toList && true))))) = false
      rw [h3, eZi, eYi, ek]
      have ew : IntKind.i64.wrap (asI ((tokR (ry[(σ.I 13).toNat - rx.length].1 : Nat) ry[(σ.I 13).toNat - rx.length].2).getD 1 undef) + (n : Int)) = ((ry[(σ.I 13).toNat - rx.length].1 + n : Nat) : Int) := by
        show IntKind.i64.wrap (((ry[(σ.I 13).toNat - rx.length].1 : Nat) : Int) + (n : Int)) = _
        rw [i64_in _ (by omega)]; omega
      simp only [cond_false]
      rw [ew]
      exact tok_same _ _ _ _
  refine ⟨⟨fun h3 => ?_, g.2⟩, ⟨h0, hlt, Nat.le_refl _⟩, by omega, fun h6 => ?_, fun _ => ⟨rfl, rfl, ⟨⟨⟨trivial, rfl⟩, rfl⟩, rfl⟩, ⟨rx, ry, n, eX, eY, eZ, ek, hn, hz, hq, by omega, by omega⟩, by omega, rfl, rfl⟩⟩
  · have h3 : σ.I 13 < (σ.R 0).length := of_decide_eq_true h3
    exact ⟨⟨h0, h3, Nat.le_refl _⟩, by omega⟩
  · rw [g.1] at h6; cases h6
theorem linesT_le : ∀ (ls : List Bs) (n m : Nat), linesT n ls = .error m → m < n + ls.length
  | [], n, m, h => by cases h
  | l :: ls, n, m, h => by
    rw [linesT] at h
    cases hl : lineT l with
    | none => rw [hl] at h; simp only [Except.error.injEq] at h; rw [List.length_cons]; omega
    | some ts =>
      rw [hl] at h
      simp only at h
      cases hr : linesT (n + 1) ls with
      | error k =>
        rw [hr] at h
        simp only [Except.error.injEq] at h
        have := linesT_le ls (n + 1) k hr
        rw [List.length_cons]; omega
      | ok r' => rw [hr] at h; cases h
theorem lines_bulk' (l : Bs) : bulk (lines l) ≤ l.length + 1 := by
  have hb := split_bulk l
  rw [lines_eq]
  split
  · rw [List.dropLast_eq_take]; have := bulk_take (split l) ((split l).length - 1); omega
  · omega
/-- What All answers, by its error. -/
theorem all_cases (s : ByteArray) : (allE s = 6 ∧ allR s = []) ∨ (∃ n, linesT 1 (lines s.data.toList) = .error n ∧ allE s = 100 ∧ allL s = n ∧ allR s = []) ∨ ∃ r, linesT 1 (lines s.data.toList) = .ok r ∧ allE s = 0 ∧ allL s = 0 ∧ allR s = toksR r ∧ s.size ≤ 65536 := by
  have hL := data_len s
  unfold allE allR allL
  cases h : allT s.data.toList with
  | error q =>
    unfold allT at h
    split at h
    · simp only [Except.error.injEq] at h; subst h; exact .inl ⟨rfl, rfl⟩
    · split at h
      · simp only [Except.error.injEq] at h; subst h; exact .inl ⟨rfl, rfl⟩
      · split at h
        · rename_i n hn
          simp only [Except.error.injEq] at h
          subst h
          exact .inr (.inl ⟨n, hn, rfl, rfl, rfl⟩)
        · cases h
  | ok r =>
    obtain ⟨h0, h1⟩ := allT_ok h
    exact .inr (.inr ⟨r, h1, rfl, rfl, rfl, by omega⟩)
theorem lines_law (cs : List Value) (hz : ((dtL cs).S 0).size + ((dtL cs).S 1).size ≤ 1048576) : SatB Tryd.prog LtwoL 3000 Tryd.f4 (argsV (dtL cs) at0 aLn 0) := ⟨by
  rw [lines_goal]
  revert hz
  generalize (dtL cs).S 0 = a
  generalize (dtL cs).S 1 = b
  intro hz x0 x1 x2 x3 x4 x5 x6 x7 x8 x9 x10 x11 x12 x13 x14 x15 x16
  have e2 : x2 = a.size + 1 := by show (a ++ _).size = _; rw [ByteArray.size_append]; rfl
  have d1 : x1.data.toList = a.data.toList ++ [10] := by show (a ++ _).data.toList = _; rw [ByteArray.data_append, Array.toList_append]
  have d4 : x4.data.toList = a.data.toList ++ 10 :: b.data.toList := by show (x1 ++ b).data.toList = _; rw [ByteArray.data_append, Array.toList_append, d1, List.append_assoc]; rfl
  have l1 : lines x1.data.toList = split a.data.toList := by rw [d1, lines_nl]
  have l4 : lines x4.data.toList = split a.data.toList ++ lines b.data.toList := by rw [d4, lines_app]
  have e11 : x11 = ((split a.data.toList).length : Int) := by show ((lnsR x1).length : Int) = _; unfold lnsR rowsS; rw [l1, List.length_map]
  have happ := linesT_app (split a.data.toList) (lines b.data.toList) 1
  have hsh := linesT_shift (split a.data.toList).length (lines b.data.toList) 1
  have hsb := split_bulk a.data.toList
  have hsg := bulk_ge (split a.data.toList)
  have hda := data_len a
  have c1 := all_cases x1
  have c4 := all_cases x4
  have cb := all_cases b
  rw [l1] at c1
  rw [l4, happ, hsh] at c4
  have h0 : x0 := by show a.size + 1 ≤ _; omega
  refine ⟨h0, ⟨trivial, trivial⟩, ⟨trivial, trivial⟩, h0, by omega, ⟨trivial, trivial⟩, h0, ⟨trivial, by omega⟩, fun _ => ⟨trivial, rfl⟩, fun h6 => ?_⟩
  have h6 : (bif allE x1 == 6 then true else bif allE b == 6 then true else allE x4 == 6) = false := h6
  rcases c1 with ⟨k1, _⟩ | ⟨n1, k1, k1e, k1l, k1r⟩ | ⟨r1, k1, k1e, k1l, k1r, k1s⟩
  · rw [k1] at h6; cases h6
  · rw [k1] at c4
    rw [k1e] at h6
    have e7 : x7 = true := by show (allE x1 != 0) = true; rw [k1e]; rfl
    refine ⟨fun _ => ⟨trivial, ?_⟩, fun h => (by rw [e7] at h; cases h)⟩
    rcases c4 with ⟨k4, _⟩ | ⟨n4, k4, k4e, k4l, _⟩ | ⟨r4, k4, _⟩
    · rw [k4] at h6
      cases hb : (allE b == 6) with
      | true => rw [hb] at h6; cases h6
      | false => rw [hb] at h6; cases h6
    · simp only [Except.error.injEq] at k4
      subst k4
      show Value.bool (bif allE x4 == 100 then bif allL x4 == allL x1 then true else false else false) = _
      rw [k4e, k4l, k1l]; simp
    · cases k4
  · rw [k1] at c4
    rw [k1e] at h6
    have e7 : x7 = false := by show (allE x1 != 0) = false; rw [k1e]; rfl
    refine ⟨fun h => (by rw [e7] at h; cases h), fun _ => ?_⟩
    rcases cb with ⟨kb, _⟩ | ⟨nb, kb, kbe, kbl, _⟩ | ⟨rb, kb, kbe, kbl, kbr, kbs⟩
    · rw [kb] at h6; cases h6
    · rw [kb] at c4
      have e10 : x10 = true := by show (allE b != 0) = true; rw [kbe]; rfl
      refine ⟨fun _ => ⟨trivial, ?_⟩, fun h => (by rw [e10] at h; cases h)⟩
      rcases c4 with ⟨k4, _⟩ | ⟨n4, k4, k4e, k4l, _⟩ | ⟨r4, k4, _⟩
      · rw [k4, kbe] at h6; cases h6
      · simp only [Except.error.injEq] at k4
        have hpos := linesT_le _ _ _ kb
        have hlb := bulk_ge (lines b.data.toList)
        have hbb := lines_bulk' b.data.toList
        rw [data_len] at hbb
        show Value.bool (bif allE x4 == 100 then bif allL x4 == IntKind.i64.wrap (allL b + x11) then true else false else false) = _
        rw [k4e, k4l, kbl, e11, i64_in _ (by omega), ← k4]
        have : (((nb + (split a.data.toList).length : Nat) : Int) == (nb : Int) + ((split a.data.toList).length : Int)) = true := by rw [beq_iff_eq]; omega
        rw [this]; rfl
      · cases k4
    · rw [kb] at c4
      have e10 : x10 = false := by show (allE b != 0) = false; rw [kbe]; rfl
      refine ⟨fun h => (by rw [e10] at h; cases h), fun _ => ?_⟩
      rcases c4 with ⟨k4, _⟩ | ⟨n4, k4, _⟩ | ⟨r4, k4, k4e, k4l, k4r, k4s⟩
      · rw [k4, kbe] at h6; cases h6
      · cases k4
      · simp only [Except.ok.injEq] at k4
        have e12 : x12 = toksR r4 := k4r
        have e14 : x14 = toksR r1 := k1r
        have e13 : x13 = r1.length + rb.length := by show x12.length = _; rw [e12, toksR_len, ← k4, List.length_append, List.length_map]
        have e15 : x15 = r1.length := by show x14.length = _; rw [e14, toksR_len]
        obtain ⟨m1, m2⟩ := linesT_more _ _ _ kb
        obtain ⟨m3, _⟩ := linesT_more _ _ _ k1
        have hbb := lines_bulk' b.data.toList
        have hlb := bulk_ge (lines b.data.toList)
        rw [data_len] at hbb
        have e16 : x16 = false := by
          show (bif allE x4 != 0 then true else (x13 : Int) != IntKind.i64.wrap ((x15 : Int) + ((allR b).length : Int))) = false
          rw [k4e, kbr, toksR_len, e13, e15, i64_in _ (by omega)]
          simp
        refine ⟨fun h => (by rw [e16] at h; cases h), fun _ => ⟨⟨⟨⟨⟨trivial, rfl⟩, rfl⟩, rfl⟩, ?_⟩, trivial, rfl⟩⟩
        exact ⟨r1, rb, (split a.data.toList).length, e14, kbr, by rw [e12, ← k4], e11, by omega, by rw [show (x12).length = x13 from rfl, e13]; omega, fun q hq => by have := (m2 q hq).1; omega, Int.le_refl _, Int.natCast_nonneg _⟩⟩
theorem lines_walk (vs cs : List Value) (hv : okArgs aLn vs cs) (hz : ((dtL cs).S 0).size + ((dtL cs).S 1).size ≤ 1048576) (w : World) (hgl : GlW w) : Calls Tryd.prog 4 vs.toArray w fun e w' => e = .returned (.bool true) ∧ Below w.heap.size w w' :=
  law_calls1 good_twoL Tryd.func4 3000 aLn vs cs hv (lines_law cs hz) w hgl
end Go.Proofs.YtfjldllegmfooaaDoor.Lx
end

section
/- The document's scanner, words and numbers: contracts. No condition. -/
namespace Go.Proofs.YtfjldllegmfooaaDoor.Lx
open Go.RowKit Go.IntWalk Go.Proofs.YtfjldllegmfooaaDoor.X

def lttI (c : Int) : Bool := decide (65 ≤ c ∧ c ≤ 90 ∨ 97 ≤ c ∧ c ≤ 122)
def digI (c : Int) : Bool := decide (48 ≤ c ∧ c ≤ 57)
def insI (c : Int) : Bool := lttI c || digI c || c == 95 || c == 46
def hxI (c : Int) : Int := if 48 ≤ c ∧ c ≤ 57 then c - 48 else if 97 ≤ c ∧ c ≤ 102 then c - 97 + 10 else if 65 ≤ c ∧ c ≤ 70 then c - 65 + 10 else -1
def u8S (f : Int → Value) : List Value → Option Value
  | [.int .u8 c] => some (f c)
  | _ => none
noncomputable def LrA : Lib := { LtwoL with fs := (83, u8S fun c => .bool (lttI c)) :: LtwoL.fs }
noncomputable def LrB : Lib := { LrA with fs := (80, u8S fun c => .bool (digI c)) :: LrA.fs }
noncomputable def LrC : Lib := { LrB with fs := (84, u8S fun c => .bool (insI c)) :: LrB.fs }
noncomputable def LrD : Lib := { LrC with fs := (102, u8S fun c => .int .i64 (hxI c)) :: LrC.fs }
def WdP (s : ByteArray) (i : Int) : Prop := 0 ≤ i ∧ i ≤ s.size ∧ s.size ≤ 65536
def cWdL : Con where
  ps := [.s 0, .i .i64 1]
  bl := []
  top := 0
  pre := fun σ => WdP (σ.S 0) (σ.I 1)
  post := fun σ => .leaf (.exit 0) [(0, .gs (σ.S 0)), (3, .gi .i64 (twI isIns (σ.S 0) (σ.I 1)))] [] []
noncomputable def bWdL : Code := loopAt Tryd.prog 2 "ref.go:53"
noncomputable def lWdL : LCon := { c := cWdL, sl := [0, 3], nt := Tryd.f85.ntmps, hv := nubN (writes bWdL) [], meas := fun σ => ((σ.S 0).size - σ.I 1).toNat }
noncomputable def LwdL : Lib := { LrD with ls := (2, "ref.go:53", lWdL) :: LrD.ls }
def cWd : Con where
  ps := [.s 0]
  bl := []
  top := 0
  pre := fun σ => (σ.S 0).size ≤ 65536
  post := fun σ => .leaf .ret [(0, .gi .i64 (twI isIns (σ.S 0) 0))] [] []
noncomputable def Lwd : Lib := { LwdL with cs := (85, cWd) :: LwdL.cs }
/-- Digits read on from a number; none: too great, or no digit. -/
def decF : Nat → Bs → Option Nat
  | v, [] => some v
  | v, c :: l => if isDig c = true ∧ 10 * v + (c.toNat - 48) < 18446744073709551616 then decF (10 * v + (c.toNat - 48)) l else none
def dcO (v : Int) (s : ByteArray) (i : Int) : Bool := (decF v.toNat (s.data.toList.drop i.toNat)).isSome
def dcV (v : Int) (s : ByteArray) (i : Int) : Int := (((decF v.toNat (s.data.toList.drop i.toNat)).getD 0 : Nat) : Int)
def DcP (v : Int) (s : ByteArray) (i : Int) : Prop := 0 ≤ v ∧ v < 18446744073709551616 ∧ WdP s i
def cDcL : Con where
  ps := [.s 0, .i .u64 2, .i .i64 1]
  bl := []
  top := 0
  pre := fun σ => DcP (σ.I 2) (σ.S 0) (σ.I 1)
  post := fun σ => .ite (dcO (σ.I 2) (σ.S 0) (σ.I 1)) (.leaf (.exit 0) [(0, .gs (σ.S 0)), (4, .gi .u64 (dcV (σ.I 2) (σ.S 0) (σ.I 1)))] [] [])
    (.leaf .ret [(0, .gs (σ.S 0)), (2, .c (.int .i64 0)), (3, .gb false)] [] [])
noncomputable def bDcL : Code := loopAt Tryd.prog 5 "ref.go:65"
noncomputable def lDcL : LCon := { c := cDcL, sl := [0, 4, 5], nt := Tryd.f103.ntmps, hv := nubN (writes bDcL) [], meas := fun σ => ((σ.S 0).size - σ.I 1).toNat }
noncomputable def LdcL : Lib := { Lwd with ls := (5, "ref.go:65", lDcL) :: Lwd.ls }
def dcOk (l : Bs) : Bool := !(decide (1 < l.length ∧ byt l 0 = 48) || decide (20 < l.length)) && (decF 0 l).isSome
def decO (s : ByteArray) : Bool := dcOk s.data.toList
def decV (s : ByteArray) : Int := if dcOk s.data.toList = true then i64 ((decF 0 s.data.toList).getD 0) else 0
def cDc : Con where
  ps := [.s 0]
  bl := []
  top := 0
  pre := fun σ => (σ.S 0).size ≤ 65536
  post := fun σ => .leaf .ret [(0, .t [.gi .i64 (decV (σ.S 0)), .gb (decO (σ.S 0))])] [] []
noncomputable def Ldc : Lib := { LdcL with cs := (103, cDc) :: LdcL.cs }
/-- Hex digits read on from a number, up to place n. -/
def hexF : Nat → Bs → Option Nat
  | v, [] => some v
  | v, c :: l => match hexV c with
    | some d => hexF (16 * v + d) l
    | none => none
def hxL (s : ByteArray) (n i : Int) : Bs := (s.data.toList.take n.toNat).drop i.toNat
def hxO (v : Int) (s : ByteArray) (n i : Int) : Bool := (hexF v.toNat (hxL s n i)).isSome
def hxV (v : Int) (s : ByteArray) (n i : Int) : Int := (((hexF v.toNat (hxL s n i)).getD 0 : Nat) : Int)
def HxP (v : Int) (s : ByteArray) (n i : Int) : Prop := 0 ≤ v ∧ v < 16 ^ (i - 2).toNat ∧ 2 ≤ i ∧ i ≤ n ∧ n ≤ s.size ∧ n ≤ 18
def cHxL : Con where
  ps := [.s 0, .i .i64 1, .i .u64 2, .i .i64 3]
  bl := []
  top := 0
  pre := fun σ => HxP (σ.I 2) (σ.S 0) (σ.I 1) (σ.I 3)
  post := fun σ => .ite (hxO (σ.I 2) (σ.S 0) (σ.I 1) (σ.I 3)) (.leaf (.exit 0) [(0, .gs (σ.S 0)), (5, .gi .i64 (σ.I 1)), (6, .gi .u64 (hxV (σ.I 2) (σ.S 0) (σ.I 1) (σ.I 3)))] [] [])
    (.leaf .ret [(0, .gs (σ.S 0)), (5, .gi .i64 (σ.I 1)), (2, .c (.int .i64 0)), (3, .c (.int .i64 0)), (4, .gb false)] [] [])
noncomputable def bHxL : Code := loopAt Tryd.prog 9 "ref.go:89"
noncomputable def lHxL : LCon := { c := cHxL, sl := [0, 5, 6, 7], nt := Tryd.f81.ntmps, hv := nubN (writes bHxL) [], meas := fun σ => (σ.I 1 - σ.I 3).toNat }
noncomputable def LhxL : Lib := { Ldc with ls := (9, "ref.go:89", lHxL) :: Ldc.ls }
/-- What the document's number hands back: value, length, is it one. -/
def rnum (l : Bs) : Int × Int × Bool :=
  if byt l 0 = 39 then
    if l.length < 3 ∨ (byt l 1).toNat < 33 ∨ (byt l 1).toNat > 126 ∨ byt l 2 ≠ 39 then (0, 0, false)
    else ((byt l 1).toNat, 3, decide (l.length = 3) || !isIns (byt l 3))
  else
    let n := (l.takeWhile isIns).length
    if n > 2 ∧ n ≤ 18 ∧ byt l 0 = 48 ∧ byt l 1 = 120 then
      match hexF 0 ((l.take n).drop 2) with
      | some v => (i64 v, n, true)
      | none => (0, 0, false)
    else (if dcOk (l.take n) = true then i64 ((decF 0 (l.take n)).getD 0) else 0, n, dcOk (l.take n))
def rnV (s : ByteArray) : Int := (rnum s.data.toList).1
def rnN (s : ByteArray) : Int := (rnum s.data.toList).2.1
def rnO (s : ByteArray) : Bool := (rnum s.data.toList).2.2
def cRn : Con where
  ps := [.s 0]
  bl := []
  top := 0
  pre := fun σ => 1 ≤ (σ.S 0).size ∧ (σ.S 0).size ≤ 65536
  post := fun σ => .leaf .ret [(0, .t [.gi .i64 (rnV (σ.S 0)), .gi .i64 (rnN (σ.S 0)), .gb (rnO (σ.S 0))])] [] []
noncomputable def Lrn : Lib := { LhxL with cs := (81, cRn) :: LhxL.cs }
end Go.Proofs.YtfjldllegmfooaaDoor.Lx
end

section
/- Written by vc.py: what is to be shown, read out. No condition. -/
set_option maxRecDepth 1000000
set_option maxHeartbeats 0
namespace Go.Proofs.YtfjldllegmfooaaDoor.Lx
open Go.RowKit Go.Proofs.YtfjldllegmfooaaDoor.X
theorem let_goal (c : Int) : ((run Tryd.prog (LtwoL.mk' fun _ _ _ _ => False) 100 Tryd.f83 [.v (.int .u8 c)]).sat (hands Tryd.prog Tryd.f83 (.bool (lttI c)))) = (
let x0 := bif decide (c ≥ (97 : Int)) then decide (c ≤ (122 : Int)) else false;
True ∧ Value.bool (bif decide (c ≥ (65 : Int)) then bif decide (c ≤ (90 : Int)) then true else x0 else x0) = Value.bool (lttI c)) := by kernel_rfl

theorem dig_goal (c : Int) : ((run Tryd.prog (LrA.mk' fun _ _ _ _ => False) 100 Tryd.f80 [.v (.int .u8 c)]).sat (hands Tryd.prog Tryd.f80 (.bool (digI c)))) = (
True ∧ Value.bool (bif decide (c ≥ (48 : Int)) then decide (c ≤ (57 : Int)) else false) = Value.bool (digI c)) := by kernel_rfl

theorem ins_goal (c : Int) : ((run Tryd.prog (LrB.mk' fun _ _ _ _ => False) 100 Tryd.f84 [.v (.int .u8 c)]).sat (hands Tryd.prog Tryd.f84 (.bool (insI c)))) = (
True ∧ Value.bool (bif lttI c then true else bif digI c then true else bif c == (95 : Int) then true else c == (46 : Int)) = Value.bool (insI c)) := by kernel_rfl

theorem hx_goal (c : Int) : ((run Tryd.prog (LrC.mk' fun _ _ _ _ => False) 100 Tryd.f102 [.v (.int .u8 c)]).sat (hands Tryd.prog Tryd.f102 (.int .i64 (hxI c)))) = (
True ∧ Value.int IntKind.i64 (bif digI c then IntKind.i64.wrap (IntKind.u8.wrap (c - (48 : Int))) else bif bif decide (c ≥ (97 : Int)) then decide (c ≤ (102 : Int)) else false then IntKind.i64.wrap (IntKind.i64.wrap (IntKind.u8.wrap (c - (97 : Int))) + (10 : Int)) else bif bif decide (c ≥ (65 :
    Int)) then decide (c ≤ (70 : Int)) else false then IntKind.i64.wrap (IntKind.i64.wrap (IntKind.u8.wrap (c - (65 : Int))) + (10 : Int)) else (-1 : Int)) = Value.int IntKind.i64 (hxI c)) := by kernel_rfl

theorem wdl_round (σ : Dt) (α : At') (rest : Nat → Value) : (lWdL.goal Tryd.prog LrD.mk' 1000 bWdL σ α rest) = (
let x0 := σ.I 1 < (↑(σ.S 0).size : Int);
let x1 := decide x0;
let x2 := bif x1 then insI (↑((σ.S 0).data.getD (σ.I 1).toNat (0 : UInt8)).toNat : Int) else false;
let x3 := IntKind.i64.wrap (σ.I 1 + (1 : Int));
let x4 := twI isIns (σ.S 0) (σ.I 1);
true = true ∧ (x1 = true → (0 : Int) ≤ σ.I 1 ∧ x0) ∧ (x2 = true → true = true ∧ true = true ∧ True ∧ WdP (σ.S 0) x3 ∧ ((↑(σ.S 0).size : Int) - x3).toNat < ((↑(σ.S 0).size : Int) - σ.I 1).toNat ∧ Po.leaf (Ex.exit 0) [(0, Pt.gs (σ.S 0)), (3, Pt.gi IntKind.i64 (twI isIns (σ.S 0) x3))] [] [] = Po.leaf
    (Ex.exit 0) [(0, Pt.gs (σ.S 0)), (3, Pt.gi IntKind.i64 x4)] [] [] ∧ asSt ([], []) = ([], [])) ∧ (x2 = false → true = true ∧ Ex.exit 0 = Ex.exit 0 ∧ true = true ∧ (True ∧ σ.S 0 = σ.S 0) ∧ σ.I 1 = x4)) := by kernel_rfl

theorem wd_goal (σ : Dt) (α : At') : (cWd.goal Tryd.prog LwdL.mk' 1000 Tryd.f85 σ α) = (
(True ∧ WdP (σ.S 0) (0 : Int)) ∧ True ∧ Ex.ret = Ex.ret ∧ true = true ∧ True ∧ twI isIns (σ.S 0) (0 : Int) = twI isIns (σ.S 0) (0 : Int)) := by kernel_rfl

theorem dcl_round (σ : Dt) (α : At') (rest : Nat → Value) : (lDcL.goal Tryd.prog Lwd.mk' 1000 bDcL σ α rest) = (
let x0 := σ.I 1 < (↑(σ.S 0).size : Int);
let x1 := decide x0;
let x2 := (0 : Int) ≤ σ.I 1 ∧ x0;
let x3 := (↑((σ.S 0).data.getD (σ.I 1).toNat (0 : UInt8)).toNat : Int);
let x4 := !digI x3;
let x5 := dcO (σ.I 2) (σ.S 0) (σ.I 1);
let x8 := True ∧ σ.S 0 = σ.S 0;
let x9 := true = true ∧ (x5 = true → Ex.exit 0 = Ex.ret ∧ true = true ∧ False) ∧ (x5 = false → Ex.ret = Ex.ret ∧ true = true ∧ x8 ∧ false = false);
let x10 := IntKind.u64.wrap (IntKind.u8.wrap (x3 - (48 : Int)));
let x11 := IntKind.u64.wrap ((IntKind.u64.wrap ((18446744073709551615 : Int) - x10)).tdiv (10 : Int));
let x12 := decide (σ.I 2 > x11);
let x13 := IntKind.u64.wrap (IntKind.u64.wrap ((10 : Int) * σ.I 2) + x10);
let x14 := IntKind.i64.wrap (σ.I 1 + (1 : Int));
let x15 := dcV (σ.I 2) (σ.S 0) (σ.I 1);
true = true ∧ (x1 = true → x2 ∧ (x4 = true → x9) ∧ (x4 = false → x2 ∧ (x12 = true → x9) ∧ (x12 = false → true = true ∧ true = true ∧ True ∧ DcP x13 (σ.S 0) x14 ∧ ((↑(σ.S 0).size : Int) - x14).toNat < ((↑(σ.S 0).size : Int) - σ.I 1).toNat ∧ Po.ite (dcO x13 (σ.S 0) x14) (Po.leaf (Ex.exit 0) [(0, Pt.gs
    (σ.S 0)), (4, Pt.gi IntKind.u64 (dcV x13 (σ.S 0) x14))] [] []) (Po.leaf Ex.ret [(0, Pt.gs (σ.S 0)), (2, Pt.c (Value.int IntKind.i64 (0 : Int))), (3, Pt.gb false)] [] []) = Po.ite x5 (Po.leaf (Ex.exit 0) [(0, Pt.gs (σ.S 0)), (4, Pt.gi IntKind.u64 x15)] [] []) (Po.leaf Ex.ret [(0, Pt.gs (σ.S 0)),
    (2, Pt.c (Value.int IntKind.i64 (0 : Int))), (3, Pt.gb false)] [] []) ∧ asSt ([], []) = ([], [])))) ∧ (x1 = false → true = true ∧ (x5 = true → Ex.exit 0 = Ex.exit 0 ∧ true = true ∧ x8 ∧ σ.I 2 = x15) ∧ (x5 = false → Ex.ret = Ex.exit 0 ∧ true = true ∧ False))) := by kernel_rfl

theorem dc_goal (σ : Dt) (α : At') : (cDc.goal Tryd.prog LdcL.mk' 1000 Tryd.f103 σ α) = (
let x0 := decide ((↑(σ.S 0).size : Int) > (1 : Int));
let x1 := decide ((↑(σ.S 0).size : Int) > (20 : Int));
let x2 := bif x0 then bif (↑((σ.S 0).data.getD 0 (0 : UInt8)).toNat : Int) == (48 : Int) then true else x1 else x1;
let x3 := dcO (0 : Int) (σ.S 0) (0 : Int);
(x0 = true → (0 : Int) ≤ (0 : Int) ∧ (0 : Int) < (↑(σ.S 0).size : Int)) ∧ (x2 = false → True ∧ DcP (0 : Int) (σ.S 0) (0 : Int)) ∧ True ∧ Ex.ret = Ex.ret ∧ true = true ∧ (True ∧ (bif x2 then (0 : Int) else bif x3 then IntKind.i64.wrap (dcV (0 : Int) (σ.S 0) (0 : Int)) else (0 : Int)) = decV (σ.S 0))
    ∧ (bif x2 then false else bif x3 then true else false) = decO (σ.S 0)) := by kernel_rfl

theorem hxl_round (σ : Dt) (α : At') (rest : Nat → Value) : (lHxL.goal Tryd.prog Ldc.mk' 1000 bHxL σ α rest) = (
let x0 := decide (σ.I 3 < σ.I 1);
let x1 := hxI (↑((σ.S 0).data.getD (σ.I 3).toNat (0 : UInt8)).toNat : Int);
let x2 := decide (x1 < (0 : Int));
let x3 := hxO (σ.I 2) (σ.S 0) (σ.I 1) (σ.I 3);
let x6 := (True ∧ σ.S 0 = σ.S 0) ∧ σ.I 1 = σ.I 1;
let x7 := IntKind.u64.wrap (↑(BitVec.ofInt 64 (IntKind.u64.wrap (σ.I 2 * (16 : Int))) ||| BitVec.ofInt 64 (IntKind.u64.wrap x1)).toNat : Int);
let x8 := IntKind.i64.wrap (σ.I 3 + (1 : Int));
let x9 := hxV (σ.I 2) (σ.S 0) (σ.I 1) (σ.I 3);
true = true ∧ (x0 = true → ((0 : Int) ≤ σ.I 3 ∧ σ.I 3 < (↑(σ.S 0).size : Int)) ∧ (x2 = true → true = true ∧ (x3 = true → Ex.exit 0 = Ex.ret ∧ true = true ∧ False) ∧ (x3 = false → Ex.ret = Ex.ret ∧ true = true ∧ x6 ∧ false = false)) ∧ (x2 = false → true = true ∧ true = true ∧ True ∧ HxP x7 (σ.S 0) (σ.I 1) x8 ∧ (σ.I
    1 - x8).toNat < (σ.I 1 - σ.I 3).toNat ∧ Po.ite (hxO x7 (σ.S 0) (σ.I 1) x8) (Po.leaf (Ex.exit 0) [(0, Pt.gs (σ.S 0)), (5, Pt.gi IntKind.i64 (σ.I 1)), (6, Pt.gi IntKind.u64 (hxV x7 (σ.S 0) (σ.I 1) x8))] [] []) (Po.leaf Ex.ret [(0, Pt.gs (σ.S 0)), (5, Pt.gi IntKind.i64 (σ.I 1)), (2, Pt.c (Value.int
    IntKind.i64 (0 : Int))), (3, Pt.c (Value.int IntKind.i64 (0 : Int))), (4, Pt.gb false)] [] []) = Po.ite x3 (Po.leaf (Ex.exit 0) [(0, Pt.gs (σ.S 0)), (5, Pt.gi IntKind.i64 (σ.I 1)), (6, Pt.gi IntKind.u64 x9)] [] []) (Po.leaf Ex.ret [(0, Pt.gs (σ.S 0)), (5, Pt.gi IntKind.i64 (σ.I 1)), (2, Pt.c
    (Value.int IntKind.i64 (0 : Int))), (3, Pt.c (Value.int IntKind.i64 (0 : Int))), (4, Pt.gb false)] [] []) ∧ asSt ([], []) = ([], []))) ∧ (x0 = false → true = true ∧ (x3 = true → Ex.exit 0 = Ex.exit 0 ∧ true = true ∧ x6 ∧ σ.I 2 = x9) ∧ (x3 = false → Ex.ret = Ex.exit 0 ∧ true = true ∧ False))) := by kernel_rfl

theorem rn_goal (σ : Dt) (α : At') : (cRn.goal Tryd.prog LhxL.mk' 1000 Tryd.f81 σ α) = (
let x0 := (0 : Int) ≤ (0 : Int) ∧ (0 : Int) < (↑(σ.S 0).size : Int);
let x1 := (↑((σ.S 0).data.getD 0 (0 : UInt8)).toNat : Int);
let x2 := x1 == (39 : Int);
let x3 := decide ((↑(σ.S 0).size : Int) < (3 : Int));
let x4 := (0 : Int) ≤ (1 : Int) ∧ (1 : Int) < (↑(σ.S 0).size : Int);
let x5 := (↑((σ.S 0).data.getD 1 (0 : UInt8)).toNat : Int);
let x6 := decide (x5 < (33 : Int));
let x7 := decide (x5 > (126 : Int));
let x8 := bif x3 then true else bif x6 then true else bif x7 then true else (↑((σ.S 0).data.getD 2 (0 : UInt8)).toNat : Int) != (39 : Int);
let x9 := (↑(σ.S 0).size : Int) == (3 : Int);
let x10 := IntKind.i64.wrap x5;
let x11 := decide (twI isIns (σ.S 0) (0 : Int) > (2 : Int));
let x12 := decide (twI isIns (σ.S 0) (0 : Int) ≤ (18 : Int));
let x13 := x1 == (48 : Int);
let x14 := bif x11 then bif x12 then bif x13 then x5 == (120 : Int) else false else false else false;
let x15 := (σ.S 0).extract 0 (twI isIns (σ.S 0) (0 : Int)).toNat;
let x16 := hxO (0 : Int) (σ.S 0) (twI isIns (σ.S 0) (0 : Int)) (2 : Int);
x0 ∧ (x2 = true → (x3 = false → x4 ∧ (x6 = false → x4 ∧ (x7 = false → (0 : Int) ≤ (2 : Int) ∧ (2 : Int) < (↑(σ.S 0).size : Int)))) ∧ (x8 = true → True ∧ Ex.ret = Ex.ret ∧ true = true ∧ ((True ∧ (0 : Int) = rnV (σ.S 0)) ∧ (0 : Int) = rnN (σ.S 0)) ∧ false = rnO (σ.S 0)) ∧ (x8 = false → x4 ∧ (x9 =
    false → (0 : Int) ≤ (3 : Int) ∧ (3 : Int) < (↑(σ.S 0).size : Int)) ∧ True ∧ Ex.ret = Ex.ret ∧ true = true ∧ ((True ∧ (bif x9 then x10 else x10) = rnV (σ.S 0)) ∧ (3 : Int) = rnN (σ.S 0)) ∧ (bif x9 then true else !insI (↑((σ.S 0).data.getD 3 (0 : UInt8)).toNat : Int)) = rnO (σ.S 0))) ∧ (x2 = false
    → (True ∧ (σ.S 0).size ≤ 65536) ∧ (x11 = true → x12 = true → x0 ∧ (x13 = true → x4)) ∧ ((x14 = true → True ∧ HxP (0 : Int) (σ.S 0) (twI isIns (σ.S 0) (0 : Int)) (2 : Int)) ∧ (x14 = false → ((0 : Int) ≤ twI isIns (σ.S 0) (0 : Int) ∧ twI isIns (σ.S 0) (0 : Int) ≤ (↑(σ.S 0).size : Int)) ∧ True ∧
    x15.size ≤ 65536)) ∧ True ∧ Ex.ret = Ex.ret ∧ true = true ∧ ((True ∧ (bif x14 then bif x16 then IntKind.i64.wrap (hxV (0 : Int) (σ.S 0) (twI isIns (σ.S 0) (0 : Int)) (2 : Int)) else (0 : Int) else decV x15) = rnV (σ.S 0)) ∧ (bif x14 then bif x16 then twI isIns (σ.S 0) (0 : Int) else (0 : Int)
    else twI isIns (σ.S 0) (0 : Int)) = rnN (σ.S 0)) ∧ (bif x14 then bif x16 then true else false else decO x15) = rnO (σ.S 0))) := by kernel_rfl

end Go.Proofs.YtfjldllegmfooaaDoor.Lx
end

section
/- The document's scanner, words and numbers: shown. No condition. -/
set_option maxRecDepth 100000
namespace Go.Proofs.YtfjldllegmfooaaDoor.Lx
open Go.RowKit Go.IntWalk Go.Proofs.YtfjldllegmfooaaDoor.X

theorem u8_some {f : Int → Value} : ∀ {vs : List Value} {z : Value}, u8S f vs = some z → ∃ c, vs = [.int .u8 c] ∧ z = f c
  | [.int .u8 c], z, h => ⟨c, rfl, by simpa [u8S] using h.symm⟩
theorem good_rA : Lib.Good Tryd.prog LrA := lib_pure good_twoL Tryd.func83 100 _ fun vs z hz => by
  obtain ⟨c, rfl, rfl⟩ := u8_some hz
  show (run Tryd.prog (LtwoL.mk' fun _ _ _ _ => False) 100 Tryd.f83 [.v (.int .u8 c)]).sat _
  rw [let_goal]
  intro x0
  refine ⟨trivial, congrArg Value.bool ?_⟩
  show (bif decide (c ≥ 65) then bif decide (c ≤ 90) then true else (bif decide (c ≥ 97) then decide (c ≤ 122) else false) else (bif decide (c ≥ 97) then decide (c ≤ 122) else false)) = decide _
  by_cases h1 : c ≥ 65 <;> by_cases h2 : c ≤ 90 <;> by_cases h3 : c ≥ 97 <;> by_cases h4 : c ≤ 122 <;> simp [h1, h2, h3, h4] <;> omega
theorem good_rB : Lib.Good Tryd.prog LrB := lib_pure good_rA Tryd.func80 100 _ fun vs z hz => by
  obtain ⟨c, rfl, rfl⟩ := u8_some hz
  show (run Tryd.prog (LrA.mk' fun _ _ _ _ => False) 100 Tryd.f80 [.v (.int .u8 c)]).sat _
  rw [dig_goal]
  refine ⟨trivial, congrArg Value.bool ?_⟩
  unfold digI
  by_cases h1 : c ≥ 48 <;> by_cases h2 : c ≤ 57 <;> simp [h1, h2] <;> omega
theorem good_rC : Lib.Good Tryd.prog LrC := lib_pure good_rB Tryd.func84 100 _ fun vs z hz => by
  obtain ⟨c, rfl, rfl⟩ := u8_some hz
  show (run Tryd.prog (LrB.mk' fun _ _ _ _ => False) 100 Tryd.f84 [.v (.int .u8 c)]).sat _
  rw [ins_goal]
  refine ⟨trivial, congrArg Value.bool ?_⟩
  unfold insI
  cases lttI c <;> cases digI c <;> cases c == 95 <;> rfl
theorem good_rD : Lib.Good Tryd.prog LrD := lib_pure good_rC Tryd.func102 100 _ fun vs z hz => by
  obtain ⟨c, rfl, rfl⟩ := u8_some hz
  show (run Tryd.prog (LrC.mk' fun _ _ _ _ => False) 100 Tryd.f102 [.v (.int .u8 c)]).sat _
  rw [hx_goal]
  refine ⟨trivial, congrArg (Value.int _) ?_⟩
  unfold hxI digI
  by_cases h1 : 48 ≤ c ∧ c ≤ 57
  · rw [if_pos h1, decide_eq_true h1, cond_true, u8_in _ (by omega), i64_in _ (by omega)]
  · rw [if_neg h1, decide_eq_false h1, cond_false]
    by_cases h2 : 97 ≤ c ∧ c ≤ 102
    · rw [if_pos h2, decide_eq_true (show c ≥ 97 from h2.1), decide_eq_true h2.2, cond_true, cond_true, u8_in _ (by omega), i64_in (c - 97) (by omega), i64_in _ (by omega)]
    · rw [if_neg h2]
      have e : (bif decide (c ≥ 97) then decide (c ≤ 102) else false) = false := by
        by_cases a : c ≥ 97 <;> by_cases b : c ≤ 102 <;> simp [a, b] <;> omega
      rw [e, cond_false]
      by_cases h3 : 65 ≤ c ∧ c ≤ 70
      · rw [if_pos h3, decide_eq_true (show c ≥ 65 from h3.1), decide_eq_true h3.2, cond_true, cond_true, u8_in _ (by omega), i64_in (c - 65) (by omega), i64_in _ (by omega)]
      · rw [if_neg h3]
        have e : (bif decide (c ≥ 65) then decide (c ≤ 70) else false) = false := by
          by_cases a : c ≥ 65 <;> by_cases b : c ≤ 70 <;> simp [a, b] <;> omega
        rw [e, cond_false]
theorem ins_all : ∀ c : Fin 256, insI (c.val : Int) = isIns (UInt8.ofNat c.val) := by decide +kernel
theorem insI_b (c : UInt8) : insI (c.toNat : Int) = isIns c := by have := ins_all ⟨c.toNat, c.toNat_lt⟩; rwa [UInt8.ofNat_toNat] at this
theorem dig_all : ∀ c : Fin 256, digI (c.val : Int) = isDig (UInt8.ofNat c.val) := by decide +kernel
theorem digI_b (c : UInt8) : digI (c.toNat : Int) = isDig c := by have := dig_all ⟨c.toNat, c.toNat_lt⟩; rwa [UInt8.ofNat_toNat] at this
theorem hx_all : ∀ c : Fin 256, hxI (c.val : Int) = (match hexV (UInt8.ofNat c.val) with | some d => (d : Int) | none => -1) := by decide +kernel
theorem hxI_b (c : UInt8) : hxI (c.toNat : Int) = (match hexV c with | some d => (d : Int) | none => -1) := by have := hx_all ⟨c.toNat, c.toNat_lt⟩; rwa [UInt8.ofNat_toNat] at this
theorem good_wdL : Lib.Good Tryd.prog LwdL := lib_loop good_rD 2 "ref.go:53" (by kernel_rfl) lWdL 1000 fun σ α rest hp => by
  refine (wdl_round σ α rest).mpr ?_
  obtain ⟨h0, h1, h2⟩ := (show WdP (σ.S 0) (σ.I 1) from hp)
  intro x0 x1 x2 x3 x4
  have e2 : x2 = bif x1 then isIns (byt (σ.S 0).data.toList (σ.I 1).toNat) else false := by
    show (bif x1 then insI _ else false) = _
    rw [getD_byt, insI_b]
  refine ⟨rfl, fun h => ⟨h0, of_decide_eq_true h⟩, fun h => ?_, fun h => ?_⟩
  · rw [e2] at h
    cases hx : x1 with
    | false => rw [hx] at h; cases h
    | true =>
      rw [hx] at h
      have hlt : σ.I 1 < (σ.S 0).size := of_decide_eq_true hx
      have e3 : x3 = σ.I 1 + 1 := i64_in _ (by omega)
      refine ⟨rfl, rfl, trivial, ⟨by omega, by omega, h2⟩, by omega, ?_, rfl⟩
      rw [show twI isIns (σ.S 0) x3 = x4 by rw [e3]; exact (twI_step h0 hlt h).symm]
  · rw [e2] at h
    refine ⟨rfl, rfl, rfl, ⟨trivial, rfl⟩, (twI_stop h0 fun hlt => ?_).symm⟩
    rw [show x1 = true from decide_eq_true hlt] at h; exact h
theorem good_wd : Lib.Good Tryd.prog Lwd := lib_con good_wdL Tryd.func85 cWd 1000 fun σ α hp => by
  rw [wd_goal]
  exact ⟨⟨trivial, Int.le_refl _, Int.natCast_nonneg _, hp⟩, trivial, rfl, rfl, trivial, rfl⟩
theorem good_dcL : Lib.Good Tryd.prog LdcL := lib_loop good_wd 5 "ref.go:65" (by kernel_rfl) lDcL 1000 fun σ α rest hp => by
  refine (dcl_round σ α rest).mpr ?_
  obtain ⟨v0, v1, h0, h1, h2⟩ := (show DcP (σ.I 2) (σ.S 0) (σ.I 1) from hp)
  intro x0 x1 x2 x3 x4 x5 x8 x9 x10 x11 x12 x13 x14 x15
  have bad : x5 = false → x9 := fun h => ⟨rfl, fun h' => by (rw [h] at h'; cases h'), fun _ => ⟨rfl, rfl, ⟨trivial, rfl⟩, rfl⟩⟩
  refine ⟨rfl, fun h => ?_, fun h => ?_⟩
  · have hlt : σ.I 1 < (σ.S 0).size := of_decide_eq_true h
    have hd : (σ.S 0).data.toList.drop (σ.I 1).toNat = _ :: (σ.S 0).data.toList.drop (σ.I 1 + 1).toNat := rest_cons h0 hlt
    have e3 : x3 = ((byt (σ.S 0).data.toList (σ.I 1).toNat).toNat : Int) := by show ((_ : Nat) : Int) = _; rw [getD_byt]
    generalize byt (σ.S 0).data.toList (σ.I 1).toNat = c at hd e3
    have e4 : x4 = !isDig c := by show (!digI x3) = _; rw [e3, digI_b]
    have e5 : x5 = (decF (σ.I 2).toNat (c :: (σ.S 0).data.toList.drop (σ.I 1 + 1).toNat)).isSome := by show (decF _ _).isSome = _; rw [hd]
    have e15 : x15 = (((decF (σ.I 2).toNat (c :: (σ.S 0).data.toList.drop (σ.I 1 + 1).toNat)).getD 0 : Nat) : Int) := by show (((decF _ _).getD 0 : Nat) : Int) = _; rw [hd]
    refine ⟨⟨h0, hlt⟩, fun h4 => bad ?_, fun h4 => ⟨⟨h0, hlt⟩, fun h12 => bad ?_, fun h12 => ?_⟩⟩
    · rw [e4] at h4
      rw [e5, decF, if_neg (fun hh => by rw [hh.1] at h4; cases h4)]; rfl
    · rw [e4] at h4
      have hdg : isDig c = true := by simpa using h4
      have hin := isDig_in hdg
      have e10 : x10 = (c.toNat : Int) - 48 := by show IntKind.u64.wrap (IntKind.u8.wrap (x3 - 48)) = _; rw [e3, u8_in _ (by omega), u64_in _ (by omega)]
      have e11 : x11 = (18446744073709551615 - ((c.toNat : Int) - 48)) / 10 := by
        show IntKind.u64.wrap ((IntKind.u64.wrap (18446744073709551615 - x10)).tdiv 10) = _
        rw [e10, u64_in (18446744073709551615 - ((c.toNat : Int) - 48)) (by omega), Int.tdiv_eq_ediv_of_nonneg (by omega), u64_in _ (by omega)]
      have h12 : σ.I 2 > x11 := of_decide_eq_true h12
      rw [e5, decF, if_neg (fun hh => by have := hh.2; omega)]; rfl
    · rw [e4] at h4
      have hdg : isDig c = true := by simpa using h4
      have hin := isDig_in hdg
      have e10 : x10 = (c.toNat : Int) - 48 := by show IntKind.u64.wrap (IntKind.u8.wrap (x3 - 48)) = _; rw [e3, u8_in _ (by omega), u64_in _ (by omega)]
      have e11 : x11 = (18446744073709551615 - ((c.toNat : Int) - 48)) / 10 := by
        show IntKind.u64.wrap ((IntKind.u64.wrap (18446744073709551615 - x10)).tdiv 10) = _
        rw [e10, u64_in (18446744073709551615 - ((c.toNat : Int) - 48)) (by omega), Int.tdiv_eq_ediv_of_nonneg (by omega), u64_in _ (by omega)]
      have h12 : ¬ σ.I 2 > x11 := of_decide_eq_false h12
      have e13 : x13 = 10 * σ.I 2 + ((c.toNat : Int) - 48) := by
        show IntKind.u64.wrap (IntKind.u64.wrap (10 * σ.I 2) + x10) = _
        rw [e10, u64_in (10 * σ.I 2) (by omega), u64_in _ (by omega)]
      have e13n : x13.toNat = 10 * (σ.I 2).toNat + (c.toNat - 48) := by omega
      have e14 : x14 = σ.I 1 + 1 := i64_in _ (by omega)
      have step : decF (σ.I 2).toNat (c :: (σ.S 0).data.toList.drop (σ.I 1 + 1).toNat) = decF x13.toNat ((σ.S 0).data.toList.drop x14.toNat) := by
        rw [decF, if_pos ⟨hdg, by omega⟩, e13n, e14]
      have f1 : dcO x13 (σ.S 0) x14 = x5 := by rw [e5, step]; rfl
      have f2 : dcV x13 (σ.S 0) x14 = x15 := by rw [e15, step]; rfl
      exact ⟨rfl, rfl, trivial, ⟨by omega, by omega, by omega, by omega, h2⟩, by omega, by rw [f1, f2], rfl⟩
  · have hge : ¬ σ.I 1 < (σ.S 0).size := of_decide_eq_false h
    have hd : (σ.S 0).data.toList.drop (σ.I 1).toNat = [] := rest_nil hge
    have e5 : x5 = true := by show (decF _ _).isSome = _; rw [hd]; rfl
    have e15 : x15 = σ.I 2 := by show (((decF _ _).getD 0 : Nat) : Int) = _; rw [hd]; show (((σ.I 2).toNat : Nat) : Int) = _; omega
    exact ⟨rfl, fun _ => ⟨rfl, rfl, ⟨trivial, rfl⟩, e15.symm⟩, fun h => by (rw [e5] at h; cases h)⟩
theorem bytZ (s : ByteArray) (i n : Nat) (hn : n < 256) : ((((s.data.getD i (0 : UInt8)).toNat : Nat) : Int) == (n : Int)) = decide (byt s.data.toList i = UInt8.ofNat n) := by
  rw [getD_byt, Bool.eq_iff_iff, beq_iff_eq, decide_eq_true_iff]
  constructor
  · intro h; have h := Int.ofNat.inj h; rw [← h, UInt8.ofNat_toNat]
  · intro h; rw [h, UInt8.toNat_ofNat']; congr 1; omega
theorem good_dc : Lib.Good Tryd.prog Ldc := lib_con good_dcL Tryd.func103 cDc 1000 fun σ α hp => by
  rw [dc_goal]
  have hp : (σ.S 0).size ≤ 65536 := hp
  intro x0 x1 x2 x3
  have hL := data_len (σ.S 0)
  have e2 : x2 = (decide (1 < (σ.S 0).data.toList.length ∧ byt (σ.S 0).data.toList 0 = 48) || decide (20 < (σ.S 0).data.toList.length)) := by
    have hb := bytZ (σ.S 0) 0 48 (by decide)
    have hb : (((((σ.S 0).data.getD 0 (0 : UInt8)).toNat : Nat) : Int) == 48) = decide (byt (σ.S 0).data.toList 0 = 48) := hb
    show (bif decide (((σ.S 0).size : Int) > 1) then bif _ then true else decide (((σ.S 0).size : Int) > 20) else decide (((σ.S 0).size : Int) > 20)) = _
    rw [hb, hL]
    by_cases a : 1 < (σ.S 0).size <;> by_cases b : 20 < (σ.S 0).size <;> by_cases c : byt (σ.S 0).data.toList 0 = 48 <;> simp [a, b, c] <;> omega
  have e3 : x3 = (decF 0 (σ.S 0).data.toList).isSome := rfl
  have eo : decO (σ.S 0) = (!x2 && x3) := by rw [e2, e3]; rfl
  refine ⟨fun h => ⟨Int.le_refl _, by have : ((σ.S 0).size : Int) > 1 := of_decide_eq_true h; omega⟩, fun _ => ⟨trivial, Int.le_refl _, by decide, Int.le_refl _, Int.natCast_nonneg _, hp⟩, trivial, rfl, rfl, ⟨trivial, ?_⟩, ?_⟩
  · show (bif x2 then 0 else bif x3 then _ else 0) = (if decO (σ.S 0) = true then _ else _)
    rw [eo]
    cases x2 <;> cases x3 <;> rfl
  · rw [eo]
    cases x2 <;> cases x3 <;> rfl
theorem or16 {v d : Nat} (hv : v < 1152921504606846976) (hd : d < 16) : ((BitVec.ofInt 64 (IntKind.u64.wrap ((v : Int) * 16)) ||| BitVec.ofInt 64 (IntKind.u64.wrap (d : Int))).toNat : Int) = 16 * v + d := by
  rw [u64_in _ (by omega), u64_in _ (by omega), BitVec.toNat_or]
  have e1 : (BitVec.ofInt 64 ((v : Int) * 16)).toNat = 2 ^ 4 * v := by
    rw [BitVec.toNat_ofInt]; omega
  have e2 : (BitVec.ofInt 64 (d : Int)).toNat = d := by
    rw [BitVec.toNat_ofInt]; omega
  rw [e1, e2, ← Nat.two_pow_add_eq_or_of_lt (by omega : d < 2 ^ 4)]
  omega
theorem good_hxL : Lib.Good Tryd.prog LhxL := lib_loop good_dc 9 "ref.go:89" (by kernel_rfl) lHxL 1000 fun σ α rest hp => by
  refine (hxl_round σ α rest).mpr ?_
  obtain ⟨v0, v1, h0, h1, h2, h3⟩ := (show HxP (σ.I 2) (σ.S 0) (σ.I 1) (σ.I 3) from hp)
  intro x0 x1 x2 x3 x6 x7 x8 x9
  have hL := data_len (σ.S 0)
  refine ⟨rfl, fun h => ?_, fun h => ?_⟩
  · have hlt : σ.I 3 < σ.I 1 := of_decide_eq_true h
    have hl : (σ.I 3).toNat < ((σ.S 0).data.toList.take (σ.I 1).toNat).length := by rw [List.length_take]; omega
    have hd : hxL (σ.S 0) (σ.I 1) (σ.I 3) = byt (σ.S 0).data.toList (σ.I 3).toNat :: hxL (σ.S 0) (σ.I 1) (σ.I 3 + 1) := by
      unfold hxL
      rw [List.drop_eq_getElem_cons hl, show (σ.I 3 + 1).toNat = (σ.I 3).toNat + 1 by omega, List.getElem_take]
      congr 1
      unfold byt; rw [getD_in _ _ (by omega)]
    have e1 : x1 = (match hexV (byt (σ.S 0).data.toList (σ.I 3).toNat) with | some d => (d : Int) | none => -1) := by show hxI ((_ : Nat) : Int) = _; rw [getD_byt, hxI_b]
    generalize byt (σ.S 0).data.toList (σ.I 3).toNat = c at hd e1
    have e3 : x3 = (hexF (σ.I 2).toNat (c :: hxL (σ.S 0) (σ.I 1) (σ.I 3 + 1))).isSome := by show (hexF _ _).isSome = _; rw [hd]
    have e9 : x9 = (((hexF (σ.I 2).toNat (c :: hxL (σ.S 0) (σ.I 1) (σ.I 3 + 1))).getD 0 : Nat) : Int) := by show (((hexF _ _).getD 0 : Nat) : Int) = _; rw [hd]
    refine ⟨⟨by omega, by omega⟩, fun hb => ?_, fun hb => ?_⟩
    · cases hx : hexV c with
      | some d => rw [hx] at e1; have e1 : x1 = (d : Int) := e1; have : x1 < 0 := of_decide_eq_true hb; omega
      | none =>
        have e3' : x3 = false := by rw [e3, hexF, hx]; rfl
        exact ⟨rfl, fun h => by (rw [e3'] at h; cases h), fun _ => ⟨rfl, rfl, ⟨⟨trivial, rfl⟩, rfl⟩, rfl⟩⟩
    · cases hx : hexV c with
      | none => rw [hx] at e1; have e1 : x1 = -1 := e1; have : ¬ x1 < 0 := of_decide_eq_false hb; omega
      | some d =>
        rw [hx] at e1
        have hdl := hexV_lt hx
        have hp15 : (16 : Int) ^ (σ.I 3 - 2).toNat ≤ 16 ^ 15 := by
          have := Nat.pow_le_pow_right (n := 16) (by decide) (show (σ.I 3 - 2).toNat ≤ 15 by omega)
          exact_mod_cast this
        have e15 : (16 : Int) ^ 15 = 1152921504606846976 := by decide
        have hv : σ.I 2 < 1152921504606846976 := Int.lt_of_lt_of_le v1 (e15 ▸ hp15)
        have ev : ((σ.I 2).toNat : Int) = σ.I 2 := by omega
        have e7 : x7 = 16 * σ.I 2 + d := by
          show IntKind.u64.wrap (((BitVec.ofInt 64 (IntKind.u64.wrap (σ.I 2 * 16)) ||| BitVec.ofInt 64 (IntKind.u64.wrap x1)).toNat : Nat) : Int) = _
          rw [e1, ← ev]
          have := or16 (v := (σ.I 2).toNat) (d := d) (by omega) hdl
          rw [show (((BitVec.ofInt 64 (IntKind.u64.wrap (((σ.I 2).toNat : Int) * 16)) ||| BitVec.ofInt 64 (IntKind.u64.wrap ((d : Nat) : Int))).toNat : Nat) : Int) = _ from this]
          exact u64_in _ (by omega)
        have e7n : x7.toNat = 16 * (σ.I 2).toNat + d := by omega
        have e8 : x8 = σ.I 3 + 1 := i64_in _ (by omega)
        have step : hexF (σ.I 2).toNat (c :: hxL (σ.S 0) (σ.I 1) (σ.I 3 + 1)) = hexF x7.toNat (hxL (σ.S 0) (σ.I 1) x8) := by
          rw [hexF, hx, e7n, e8]
        have f1 : hxO x7 (σ.S 0) (σ.I 1) x8 = x3 := by rw [e3, step]; rfl
        have f2 : hxV x7 (σ.S 0) (σ.I 1) x8 = x9 := by rw [e9, step]; rfl
        refine ⟨rfl, rfl, trivial, ⟨by omega, ?_, by omega, by omega, h2, h3⟩, by omega, by rw [f1, f2], rfl⟩
        rw [e8, show (σ.I 3 + 1 - 2).toNat = (σ.I 3 - 2).toNat + 1 by omega, Int.pow_succ]
        omega
  · have hge : ¬ σ.I 3 < σ.I 1 := of_decide_eq_false h
    have hd : hxL (σ.S 0) (σ.I 1) (σ.I 3) = [] := by unfold hxL; rw [List.drop_of_length_le (by rw [List.length_take]; omega)]
    have e3 : x3 = true := by show (hexF _ _).isSome = _; rw [hd]; rfl
    have e9 : x9 = σ.I 2 := by show (((hexF _ _).getD 0 : Nat) : Int) = _; rw [hd]; show (((σ.I 2).toNat : Nat) : Int) = _; omega
    exact ⟨rfl, fun _ => ⟨rfl, rfl, ⟨⟨trivial, rfl⟩, rfl⟩, e9.symm⟩, fun h => by (rw [e3] at h; cases h)⟩
theorem good_rn : Lib.Good Tryd.prog Lrn := lib_con good_hxL Tryd.func81 cRn 1000 fun σ α hp => by
  rw [rn_goal]
  obtain ⟨hp1, hp2⟩ := (show 1 ≤ (σ.S 0).size ∧ (σ.S 0).size ≤ 65536 from hp)
  intro x0 x1 x2 x3 x4 x5 x6 x7 x8 x9 x10 x11 x12 x13 x14 x15 x16
  have hL := data_len (σ.S 0)
  have e2 : x2 = decide (byt (σ.S 0).data.toList 0 = 39) := bytZ _ 0 39 (by decide)
  have e5 : x5 = ((byt (σ.S 0).data.toList 1).toNat : Int) := by show ((_ : Nat) : Int) = _; rw [getD_byt]
  refine ⟨⟨Int.le_refl _, by omega⟩, fun h2 => ?_, fun h2 => ?_⟩
  · rw [e2] at h2
    have h2 := of_decide_eq_true h2
    have e8 : x8 = decide ((σ.S 0).data.toList.length < 3 ∨ (byt (σ.S 0).data.toList 1).toNat < 33 ∨ (byt (σ.S 0).data.toList 1).toNat > 126 ∨ byt (σ.S 0).data.toList 2 ≠ 39) := by
      have hb : (((((σ.S 0).data.getD 2 (0 : UInt8)).toNat : Nat) : Int) == 39) = decide (byt (σ.S 0).data.toList 2 = 39) := bytZ _ 2 39 (by decide)
      show (bif decide (((σ.S 0).size : Int) < 3) then true else bif decide (x5 < 33) then true else bif decide (x5 > 126) then true else !(((((σ.S 0).data.getD 2 (0 : UInt8)).toNat : Nat) : Int) == 39)) = _
      rw [hb, e5, hL]
      by_cases a : (σ.S 0).size < 3 <;> by_cases b : (byt (σ.S 0).data.toList 1).toNat < 33 <;> by_cases c : (byt (σ.S 0).data.toList 1).toNat > 126 <;> by_cases d : byt (σ.S 0).data.toList 2 = 39 <;> simp [a, b, c, d] <;> omega
    have h3 : x3 = false → 3 ≤ (σ.S 0).size := fun h => by have : ¬ ((σ.S 0).size : Int) < 3 := of_decide_eq_false h; omega
    refine ⟨fun a => ⟨⟨by decide, by have := h3 a; omega⟩, fun _ => ⟨⟨by decide, by have := h3 a; omega⟩, fun _ => ⟨by decide, by have := h3 a; omega⟩⟩⟩, fun h8 => ?_, fun h8 => ?_⟩
    · rw [e8] at h8
      have e : rnum (σ.S 0).data.toList = (0, 0, false) := by unfold rnum; rw [if_pos h2, if_pos (of_decide_eq_true h8)]
      unfold rnV rnN rnO
      rw [e]
      exact ⟨trivial, rfl, rfl, ⟨⟨trivial, rfl⟩, rfl⟩, rfl⟩
    · rw [e8] at h8
      have h8' := of_decide_eq_false h8
      have e : rnum (σ.S 0).data.toList = (((byt (σ.S 0).data.toList 1).toNat : Int), (3 : Int), decide ((σ.S 0).data.toList.length = 3) || !isIns (byt (σ.S 0).data.toList 3)) := by unfold rnum; rw [if_pos h2, if_neg h8']
      have hs3 : 3 ≤ (σ.S 0).size := Nat.le_of_not_lt fun a => h8' (.inl (by omega))
      have e9 : x9 = decide ((σ.S 0).data.toList.length = 3) := by
        show (((σ.S 0).size : Int) == 3) = _
        rw [Bool.eq_iff_iff, beq_iff_eq, decide_eq_true_iff, hL]; omega
      have e10 : x10 = ((byt (σ.S 0).data.toList 1).toNat : Int) := by
        show IntKind.i64.wrap x5 = _
        rw [e5]; exact i64_in _ (by have := UInt8.toNat_lt (byt (σ.S 0).data.toList 1); omega)
      unfold rnV rnN rnO
      rw [e]
      refine ⟨⟨by decide, by omega⟩, fun h9 => ⟨by decide, ?_⟩, trivial, rfl, rfl, ⟨⟨trivial, ?_⟩, rfl⟩, ?_⟩
      · rw [e9] at h9
        have := of_decide_eq_false h9; omega
      · rw [e10]; cases x9 <;> rfl
      · rw [e9, getD_byt, insI_b]
        cases decide ((σ.S 0).data.toList.length = 3) <;> rfl
  · rw [e2] at h2
    have h2 := of_decide_eq_false h2
    have et := twI_0 isIns (σ.S 0)
    have htl := tw_le isIns (σ.S 0).data.toList
    have e14 : x14 = decide (((σ.S 0).data.toList.takeWhile isIns).length > 2 ∧ ((σ.S 0).data.toList.takeWhile isIns).length ≤ 18 ∧ byt (σ.S 0).data.toList 0 = 48 ∧ byt (σ.S 0).data.toList 1 = 120) := by
      have ha : (((((σ.S 0).data.getD 0 (0 : UInt8)).toNat : Nat) : Int) == 48) = decide (byt (σ.S 0).data.toList 0 = 48) := bytZ _ 0 48 (by decide)
      have hb : (((((σ.S 0).data.getD 1 (0 : UInt8)).toNat : Nat) : Int) == 120) = decide (byt (σ.S 0).data.toList 1 = 120) := bytZ _ 1 120 (by decide)
      show (bif decide (twI isIns (σ.S 0) 0 > 2) then bif decide (twI isIns (σ.S 0) 0 ≤ 18) then bif (((((σ.S 0).data.getD 0 (0 : UInt8)).toNat : Nat) : Int) == 48) then (((((σ.S 0).data.getD 1 (0 : UInt8)).toNat : Nat) : Int) == 120) else false else false else false) = _
      rw [ha, hb, et]
      by_cases a : ((σ.S 0).data.toList.takeWhile isIns).length > 2 <;> by_cases b : ((σ.S 0).data.toList.takeWhile isIns).length ≤ 18 <;> by_cases c : byt (σ.S 0).data.toList 0 = 48 <;> by_cases d : byt (σ.S 0).data.toList 1 = 120 <;> simp [a, b, c, d] <;> omega
    have e15 : x15 = bs ((σ.S 0).data.toList.take ((σ.S 0).data.toList.takeWhile isIns).length) := by
      show (σ.S 0).extract 0 (twI isIns (σ.S 0) 0).toNat = _
      rw [et, Int.toNat_natCast, ext_l]
    have z15 : x15.size ≤ 65536 := by rw [e15, bs_size, List.length_take]; omega
    have e : rnum (σ.S 0).data.toList = if ((σ.S 0).data.toList.takeWhile isIns).length > 2 ∧ ((σ.S 0).data.toList.takeWhile isIns).length ≤ 18 ∧ byt (σ.S 0).data.toList 0 = 48 ∧ byt (σ.S 0).data.toList 1 = 120 then
        match hexF 0 (((σ.S 0).data.toList.take ((σ.S 0).data.toList.takeWhile isIns).length).drop 2) with
        | some v => (i64 v, (((σ.S 0).data.toList.takeWhile isIns).length : Int), true)
        | none => (0, 0, false)
      else (if dcOk ((σ.S 0).data.toList.take ((σ.S 0).data.toList.takeWhile isIns).length) = true then i64 ((decF 0 ((σ.S 0).data.toList.take ((σ.S 0).data.toList.takeWhile isIns).length)).getD 0) else 0, (((σ.S 0).data.toList.takeWhile isIns).length : Int), dcOk ((σ.S 0).data.toList.take ((σ.S 0).data.toList.takeWhile isIns).length)) := by
      unfold rnum; rw [if_neg h2]
      first | done | rfl
    refine ⟨⟨trivial, hp2⟩, fun h11 _ => ⟨⟨Int.le_refl _, by omega⟩, fun _ => ⟨by decide, ?_⟩⟩, ⟨fun h14 => ⟨trivial, ?_⟩, fun _ => ⟨⟨by rw [et]; omega, by rw [et]; omega⟩, trivial, z15⟩⟩, trivial, rfl, rfl, ?_⟩
    · have : twI isIns (σ.S 0) 0 > 2 := of_decide_eq_true h11
      rw [et] at this; omega
    · rw [e14] at h14
      have h14 := of_decide_eq_true h14
      exact ⟨Int.le_refl _, by decide, Int.le_refl _, by rw [et]; omega, by rw [et]; omega, by rw [et]; omega⟩
    · unfold rnV rnN rnO
      rw [e, e14]
      by_cases h14 : ((σ.S 0).data.toList.takeWhile isIns).length > 2 ∧ ((σ.S 0).data.toList.takeWhile isIns).length ≤ 18 ∧ byt (σ.S 0).data.toList 0 = 48 ∧ byt (σ.S 0).data.toList 1 = 120
      · rw [if_pos h14, decide_eq_true h14]
        have e16 : x16 = (hexF 0 (((σ.S 0).data.toList.take ((σ.S 0).data.toList.takeWhile isIns).length).drop 2)).isSome := by
          show (hexF _ (hxL _ (twI isIns (σ.S 0) 0) 2)).isSome = _
          unfold hxL; rw [et, Int.toNat_natCast]; rfl
        have ev : hxV 0 (σ.S 0) (twI isIns (σ.S 0) 0) 2 = (((hexF 0 (((σ.S 0).data.toList.take ((σ.S 0).data.toList.takeWhile isIns).length).drop 2)).getD 0 : Nat) : Int) := by
          unfold hxV hxL; rw [et, Int.toNat_natCast]; rfl
        rw [e16, ev, et]
        cases hexF 0 (((σ.S 0).data.toList.take ((σ.S 0).data.toList.takeWhile isIns).length).drop 2) with
        | none => exact ⟨⟨⟨trivial, rfl⟩, rfl⟩, rfl⟩
        | some v => exact ⟨⟨⟨trivial, rfl⟩, rfl⟩, rfl⟩
      · rw [if_neg h14, decide_eq_false h14, et]
        have ed : x15.data.toList = (σ.S 0).data.toList.take ((σ.S 0).data.toList.takeWhile isIns).length := by rw [e15, bs_data]
        have f1 : decV x15 = if dcOk ((σ.S 0).data.toList.take ((σ.S 0).data.toList.takeWhile isIns).length) = true then i64 ((decF 0 ((σ.S 0).data.toList.take ((σ.S 0).data.toList.takeWhile isIns).length)).getD 0) else 0 := by unfold decV; rw [ed]
        have f2 : decO x15 = dcOk ((σ.S 0).data.toList.take ((σ.S 0).data.toList.takeWhile isIns).length) := by unfold decO; rw [ed]
        simp only [cond_false]
        rw [f1, f2]
        and_intros <;> first | exact True.intro | exact Eq.refl _
end Go.Proofs.YtfjldllegmfooaaDoor.Lx
end

section
/- The document's scanner: texts, signs, tokens, lines: contracts. No condition. -/
namespace Go.Proofs.YtfjldllegmfooaaDoor.Lx
open Go.RowKit Go.IntWalk Go.Proofs.YtfjldllegmfooaaDoor.X

def escX : Bs → UInt8 × Nat × Bool
  | h :: l :: _ => match hexV h, hexV l with
    | some a, some b => (UInt8.ofNat (16 * a + b), 3, true)
    | _, _ => (0, 0, false)
  | _ => (0, 0, false)
/-- An escape behind its backslash: the byte, its length, is it one. -/
def escT : Bs → UInt8 × Nat × Bool
  | [] => (0, 0, false)
  | c :: r =>
    if c = 92 ∨ c = 34 then (c, 1, true)
    else if c = 110 then (10, 1, true)
    else if c = 116 then (9, 1, true)
    else if c = 48 then (0, 1, true)
    else if c = 120 then escX r
    else (0, 0, false)
def esB (s : ByteArray) : Int := ((escT s.data.toList).1.toNat : Int)
def esN (s : ByteArray) : Int := ((escT s.data.toList).2.1 : Int)
def esO (s : ByteArray) : Bool := (escT s.data.toList).2.2
def cEs : Con where
  ps := [.s 0]
  bl := []
  top := 0
  pre := fun σ => (σ.S 0).size ≤ 65536
  post := fun σ => .leaf .ret [(0, .t [.gi .u8 (esB (σ.S 0)), .gi .i64 (esN (σ.S 0)), .gb (esO (σ.S 0))])] [] []
noncomputable def Les : Lib := { Lrn with cs := (104, cEs) :: Lrn.cs }
def RqP (s : ByteArray) (xs : List (List Value)) (i : Int) : Prop := 0 ≤ i ∧ i ≤ s.size ∧ s.size ≤ 65536 ∧ (xs.length : Int) ≤ i
def cRqL : Con where
  ps := [.s 0, .r 8 5 bK, .i .i64 5]
  bl := []
  top := 12
  pre := fun σ => RqP (σ.S 0) (σ.R 8) (σ.I 5)
  post := fun σ => .ite (quoF (σ.S 0) (σ.I 5)) (.leaf (.exit 0) [(0, .gs (σ.S 0))] [] [8])
    (.leaf .ret [(0, .gs (σ.S 0)), (2, .gs (quoX (σ.R 8) (σ.S 0) (σ.I 5))), (3, .gi .i64 (quoN (σ.S 0) (σ.I 5))), (4, .gb (quoO (σ.S 0) (σ.I 5)))] [] [8])
noncomputable def bRqL : Code := loopAt Tryd.prog 3 "ref.go:127"
noncomputable def lRqL : LCon := { c := cRqL, sl := [0, 5, 6], nt := Tryd.f82.ntmps, hv := nubN (writes bRqL) [], meas := fun σ => ((σ.S 0).size - σ.I 5).toNat, mvr := [8] }
noncomputable def LrqL : Lib := { Les with ls := (3, "ref.go:127", lRqL) :: Les.ls }
def cRq : Con where
  ps := [.s 0]
  bl := []
  top := 0
  pre := fun σ => 1 ≤ (σ.S 0).size ∧ (σ.S 0).size ≤ 65536
  post := fun σ => .leaf .ret [(0, .t [.gs (quoX [] (σ.S 0) 1), .gi .i64 (quoN (σ.S 0) 1), .gb (quoO (σ.S 0) 1)])] [] []
noncomputable def Lrq : Lib := { LrqL with cs := (82, cRq) :: LrqL.cs }
def sgnT (l : Bs) : Nat := if 1 < l.length ∧ (byt l 0 = 60 ∧ byt l 1 = 60 ∨ byt l 0 = 62 ∧ byt l 1 = 62) then 2 else if signs.contains (byt l 0) = true then 1 else 0
def sgN (s : ByteArray) : Int := (sgnT s.data.toList : Int)
def cSg : Con where
  ps := [.s 0]
  bl := []
  top := 0
  pre := fun σ => 1 ≤ (σ.S 0).size ∧ (σ.S 0).size ≤ 65536
  post := fun σ => .leaf .ret [(0, .gi .i64 (sgN (σ.S 0)))] [] []
noncomputable def Lsg : Lib := { Lrq with cs := (86, cSg) :: Lrq.cs }
/-- How far a register's name runs. -/
def regI (s : ByteArray) (i : Int) : Int := if 1 < i then twI isReg s i else if i < s.size ∧ isLet (byt s.data.toList i.toNat) = true then twI isReg s (i + 1) else i
def cRgL : Con where
  ps := [.s 0, .i .i64 1]
  bl := []
  top := 0
  pre := fun σ => 1 ≤ σ.I 1 ∧ WdP (σ.S 0) (σ.I 1)
  post := fun σ => .leaf (.exit 1) [(0, .gs (σ.S 0)), (12, .gi .i64 (regI (σ.S 0) (σ.I 1)))] [] []
noncomputable def bRgL : Code := loopAt Tryd.prog 12 "ref.go:176"
noncomputable def lRgL : LCon := { c := cRgL, sl := [0, 12], nt := Tryd.f55.ntmps, hv := nubN (writes bRgL) [], meas := fun σ => ((σ.S 0).size - σ.I 1).toNat }
noncomputable def LrgL : Lib := { Lsg with ls := (12, "ref.go:176", lRgL) :: Lsg.ls }
/-- What the document's one hands back: kind, number, text, length, is it one. -/
def rone (s : ByteArray) : Int × Int × ByteArray × Int × Bool :=
  let l := s.data.toList
  if byt l 0 = 59 then (6, 0, ByteArray.empty, 1, true)
  else if isDig (byt l 0) = true ∨ byt l 0 = 39 then (2, rnV s, ByteArray.empty, rnN s, rnO s)
  else if byt l 0 = 34 then (3, 0, quoX [] s 1, quoN s 1, quoO s 1)
  else if byt l 0 = 37 then (5, 0, bs ((l.take (regI s 1).toNat).drop 1), regI s 1, decide (1 < regI s 1))
  else if isIns (byt l 0) = true then (1, 0, bs (l.take (l.takeWhile isIns).length), ((l.takeWhile isIns).length : Int), decide ((l.takeWhile isIns).length ≤ 255))
  else (4, 0, bs (l.take (sgnT l)), (sgnT l : Int), decide (0 < sgnT l))
def roK (s : ByteArray) : Int := (rone s).1
def roV (s : ByteArray) : Int := (rone s).2.1
def roX (s : ByteArray) : ByteArray := (rone s).2.2.1
def roN (s : ByteArray) : Int := (rone s).2.2.2.1
def roO (s : ByteArray) : Bool := (rone s).2.2.2.2
def cRo : Con where
  ps := [.s 0]
  bl := []
  top := 0
  pre := fun σ => 1 ≤ (σ.S 0).size ∧ (σ.S 0).size ≤ 65536
  post := fun σ => .leaf .ret [(0, .t [tokP (roK (σ.S 0)) (roV (σ.S 0)) (roX (σ.S 0)), .gi .i64 (roN (σ.S 0)), .gb (roO (σ.S 0))])] [] []
noncomputable def Lro : Lib := { LrgL with cs := (55, cRo) :: LrgL.cs }
def cRlL : Con where
  ps := [.s 0, .i .i64 1, .r 4 42 tokK]
  bl := []
  top := 8
  pre := fun σ => (σ.R 4).length + (σ.S 0).size ≤ 65536
  post := fun σ => .ite (tksO (σ.S 0))
    (.leaf (.exit 0) [(1, .gi .i64 (σ.I 1)), (6, .gr 8 42 tokK (tksR (σ.R 4) (σ.I 1) (σ.S 0)))] [] [4])
    (.leaf .ret [(1, .gi .i64 (σ.I 1)), (4, .c (.slice none 0 0)), (5, .gb false)] [] [4])
noncomputable def bRlL : Code := loopAt Tryd.prog 2 "ref.go:191"
noncomputable def lRlL : LCon := { c := cRlL, sl := [0, 1, 6], nt := Tryd.f37.ntmps, hv := nubN (writes bRlL) [], meas := fun σ => (σ.S 0).size, mvr := [4] }
noncomputable def LrlL : Lib := { Lro with ls := (2, "ref.go:191", lRlL) :: Lro.ls }
def cRl : Con where
  ps := [.s 0, .i .i64 1]
  bl := []
  top := 2
  pre := fun σ => (σ.S 0).size ≤ 65536
  post := fun σ => .leaf .ret [(0, .t [.gr 4 42 tokK (lnR (σ.I 1) (σ.S 0)), .gb (lnO (σ.S 0))])] [] []
noncomputable def Lrl : Lib := { LrlL with cs := (37, cRl) :: LrlL.cs }
def RaP (ys xs : List (List Value)) (i : Int) : Prop := xs.length ≤ 65537 ∧ 0 ≤ i ∧ i ≤ xs.length ∧ ys.length + bulk ((strsOf xs).drop i.toNat) ≤ 65537
def cRaL : Con where
  ps := [.r 4 42 tokK, .r 0 9 [.str], .i .i64 8]
  bl := []
  top := 10
  pre := fun σ => RaP (σ.R 4) (σ.R 0) (σ.I 8)
  post := fun σ => .ite (lsO (σ.R 0) (σ.I 8))
    (.leaf (.exit 0) [(5, .k 0 (σ.R 0).length), (6, .gr 10 42 tokK (lsR (σ.R 4) (σ.R 0) (σ.I 8)))] [] [4])
    (.leaf .ret [(5, .k 0 (σ.R 0).length), (2, .c (.slice none 0 0)), (3, .gi .i64 (lsN (σ.R 0) (σ.I 8))), (4, .gi .i64 100)] [] [4])
noncomputable def bRaL : Code := loopAt Tryd.prog 8 "ref.go:236"
noncomputable def lRaL : LCon := { c := cRaL, sl := [6, 5, 7], nt := Tryd.f13.ntmps, hv := nubN (writes bRaL) [], meas := fun σ => ((σ.R 0).length - σ.I 8).toNat, mvr := [4] }
noncomputable def LraL : Lib := { Lrl with ls := (8, "ref.go:236", lRaL) :: Lrl.ls }
def cRa : Con where
  ps := [.s 0]
  bl := []
  top := 0
  pre := fun _ => True
  post := fun σ => .leaf .ret [(0, .t [.gr 0 42 tokK (allR (σ.S 0)), .gi .i64 (allL (σ.S 0)), .gi .i64 (allE (σ.S 0))])] [] []
noncomputable def Lra : Lib := { LraL with cs := (13, cRa) :: LraL.cs }
end Go.Proofs.YtfjldllegmfooaaDoor.Lx
end

section
/- Written by vc.py: what is to be shown, read out. No condition. -/
set_option maxRecDepth 1000000
set_option maxHeartbeats 0
namespace Go.Proofs.YtfjldllegmfooaaDoor.Lx
open Go.RowKit Go.Proofs.YtfjldllegmfooaaDoor.X
theorem es_goal (σ : Dt) (α : At') : (cEs.goal Tryd.prog Lrn.mk' 1000 Tryd.f104 σ α) = (
let x0 := (σ.S 0).toList == [];
let x1 := True ∧ (0 : Int) = esB (σ.S 0);
let x2 := True ∧ Ex.ret = Ex.ret ∧ true = true ∧ (x1 ∧ (0 : Int) = esN (σ.S 0)) ∧ false = esO (σ.S 0);
let x3 := (0 : Int) ≤ (0 : Int) ∧ (0 : Int) < (↑(σ.S 0).size : Int);
let x4 := (↑((σ.S 0).data.getD 0 (0 : UInt8)).toNat : Int);
let x5 := x4 == (92 : Int);
let x6 := bif x5 then x5 else x4 == (34 : Int);
let x7 := x4 == (110 : Int);
let x8 := x4 == (116 : Int);
let x9 := x4 == (48 : Int);
let x10 := x4 == (120 : Int);
let x11 := decide ((↑(σ.S 0).size : Int) > (2 : Int));
let x12 := (0 : Int) ≤ (1 : Int) ∧ (1 : Int) < (↑(σ.S 0).size : Int);
let x13 := hxI (↑((σ.S 0).data.getD 1 (0 : UInt8)).toNat : Int);
let x14 := decide (x13 ≥ (0 : Int));
let x15 := (0 : Int) ≤ (2 : Int) ∧ (2 : Int) < (↑(σ.S 0).size : Int);
let x16 := hxI (↑((σ.S 0).data.getD 2 (0 : UInt8)).toNat : Int);
let x17 := bif x11 then bif x14 then decide (x16 ≥ (0 : Int)) else false else false;
(x0 = true → x2) ∧ (x0 = false → x3 ∧ (x6 = true → x3 ∧ True ∧ Ex.ret = Ex.ret ∧ true = true ∧ ((True ∧ x4 = esB (σ.S 0)) ∧ (1 : Int) = esN (σ.S 0)) ∧ true = esO (σ.S 0)) ∧ (x6 = false → (x7 = true → True ∧ Ex.ret = Ex.ret ∧ true = true ∧ ((True ∧ (10 : Int) = esB (σ.S 0)) ∧ (1 : Int) = esN (σ.S 0))
    ∧ true = esO (σ.S 0)) ∧ (x7 = false → (x8 = true → True ∧ Ex.ret = Ex.ret ∧ true = true ∧ ((True ∧ (9 : Int) = esB (σ.S 0)) ∧ (1 : Int) = esN (σ.S 0)) ∧ true = esO (σ.S 0)) ∧ (x8 = false → (x9 = true → True ∧ Ex.ret = Ex.ret ∧ true = true ∧ (x1 ∧ (1 : Int) = esN (σ.S 0)) ∧ true = esO (σ.S 0)) ∧
    (x9 = false → (x10 = true → (x11 = true → x12 ∧ (x14 = true → x15)) ∧ (x17 = true → x12 ∧ x15 ∧ True ∧ Ex.ret = Ex.ret ∧ true = true ∧ ((True ∧ IntKind.u8.wrap (IntKind.i64.wrap (IntKind.i64.wrap ((16 : Int) * x13) + x16)) = esB (σ.S 0)) ∧ (3 : Int) = esN (σ.S 0)) ∧ true = esO (σ.S 0)) ∧ (x17 =
    false → x2)) ∧ (x10 = false → x2))))))) := by kernel_rfl

theorem rql_round (σ : Dt) (α : At') (rest : Nat → Value) : (lRqL.goal Tryd.prog Les.mk' 1000 bRqL σ α rest) = (
let x0 := σ.I 5 < (↑(σ.S 0).size : Int);
let x1 := decide x0;
let x2 := (↑((σ.S 0).data.getD (σ.I 5).toNat (0 : UInt8)).toNat : Int);
let x3 := x2 == (34 : Int);
let x4 := quoF (σ.S 0) (σ.I 5) = true;
let x5 := quoF (σ.S 0) (σ.I 5) = false;
let x6 := True ∧ σ.S 0 = σ.S 0;
let x7 := quoX (σ.R 8) (σ.S 0) (σ.I 5);
let x8 := IntKind.i64.wrap (σ.I 5 + (1 : Int));
let x9 := bif decide (x2 < (32 : Int)) then true else decide (x2 > (126 : Int));
let x10 := true = true ∧ (x4 → Ex.exit 0 = Ex.ret ∧ true = true ∧ False) ∧ (x5 → Ex.ret = Ex.ret ∧ true = true ∧ ((x6 ∧ (ByteArray.mk (#[])) = x7) ∧ (0 : Int) = quoN (σ.S 0) (σ.I 5)) ∧ false = quoO (σ.S 0) (σ.I 5));
let x11 := x2 == (92 : Int);
let x12 := (σ.S 0).extract x8.toNat (σ.S 0).size;
let x13 := !esO x12;
let x14 := (σ.R 8).length = (σ.R 8).length;
let x15 := σ.R 8 ++ [[Value.int IntKind.u8 (esB x12)]];
let x16 := x15.length;
let x17 := IntKind.i64.wrap (IntKind.i64.wrap (σ.I 5 + esN x12) + (1 : Int));
let x18 := ((↑(σ.S 0).size : Int) - σ.I 5).toNat;
let x19 := asSt ([], []) = ([], []);
let x20 := σ.R 8 ++ [[Value.int IntKind.u8 x2]];
let x21 := x20.length;
true = true ∧ (x1 = true → ((0 : Int) ≤ σ.I 5 ∧ x0) ∧ (x3 = true → (σ.R 8).length ≤ (σ.R 8).length ∧ true = true ∧ (x4 → Ex.exit 0 = Ex.ret ∧ true = true ∧ False) ∧ (x5 → Ex.ret = Ex.ret ∧ true = true ∧ ((x6 ∧ (ByteArray.mk (List.map (fun r => UInt8.ofNat (asI (r.getD 0 (Value.tuple #[]))).toNat)
    (List.take (σ.R 8).length (σ.R 8))).toArray) = x7) ∧ x8 = quoN (σ.S 0) (σ.I 5)) ∧ true = quoO (σ.S 0) (σ.I 5))) ∧ (x3 = false → (x9 = true → x10) ∧ (x9 = false → (x11 = true → ((0 : Int) ≤ x8 ∧ x8 ≤ (↑(σ.S 0).size : Int)) ∧ (True ∧ x12.size ≤ 65536) ∧ (x13 = true → x10) ∧ (x13 =
    false → (x14 ∧ True ∧ x16 ≤ 9223372036854775807 ∧ x16 * 1 ≤ 140737488355328) ∧ true = true ∧ true = true ∧ (True ∧ x16 = x16) ∧ RqP (σ.S 0) x15 x17 ∧ ((↑(σ.S 0).size : Int) - x17).toNat < x18 ∧ Po.ite (quoF (σ.S 0) x17) (Po.leaf (Ex.exit 0) [(0, Pt.gs (σ.S 0))] [] [8]) (Po.leaf Ex.ret [(0, Pt.gs
    (σ.S 0)), (2, Pt.gs (quoX x15 (σ.S 0) x17)), (3, Pt.gi IntKind.i64 (quoN (σ.S 0) x17)), (4, Pt.gb (quoO (σ.S 0) x17))] [] [8]) = Po.ite (quoF (σ.S 0) (σ.I 5)) (Po.leaf (Ex.exit 0) [(0, Pt.gs (σ.S 0))] [] [8]) (Po.leaf Ex.ret [(0, Pt.gs (σ.S 0)), (2, Pt.gs x7), (3, Pt.gi IntKind.i64 (quoN (σ.S 0)
    (σ.I 5))), (4, Pt.gb (quoO (σ.S 0) (σ.I 5)))] [] [8]) ∧ x19)) ∧ (x11 = false → (x14 ∧ True ∧ x21 ≤ 9223372036854775807 ∧ x21 * 1 ≤ 140737488355328) ∧ true = true ∧ true = true ∧ (True ∧ x21 = x21) ∧ RqP (σ.S 0) x20 x8 ∧ ((↑(σ.S 0).size : Int) - x8).toNat < x18 ∧ Po.ite (quoF (σ.S 0) x8) (Po.leaf
    (Ex.exit 0) [(0, Pt.gs (σ.S 0))] [] [8]) (Po.leaf Ex.ret [(0, Pt.gs (σ.S 0)), (2, Pt.gs (quoX x20 (σ.S 0) x8)), (3, Pt.gi IntKind.i64 (quoN (σ.S 0) x8)), (4, Pt.gb (quoO (σ.S 0) x8))] [] [8]) = Po.ite (quoF (σ.S 0) (σ.I 5)) (Po.leaf (Ex.exit 0) [(0, Pt.gs (σ.S 0))] [] [8]) (Po.leaf Ex.ret [(0,
    Pt.gs (σ.S 0)), (2, Pt.gs x7), (3, Pt.gi IntKind.i64 (quoN (σ.S 0) (σ.I 5))), (4, Pt.gb (quoO (σ.S 0) (σ.I 5)))] [] [8]) ∧ x19)))) ∧ (x1 = false → true = true ∧ (x4 → Ex.exit 0 = Ex.exit 0 ∧ true = true ∧ x6) ∧ (x5 → Ex.ret = Ex.exit 0 ∧ true = true ∧ False))) := by kernel_rfl

theorem rq_goal (σ : Dt) (α : At') : (cRq.goal Tryd.prog LrqL.mk' 1000 Tryd.f82 σ α) = (
let x0 := quoX [] (σ.S 0) (1 : Int);
((True ∧ 0 = 0) ∧ RqP (σ.S 0) [] (1 : Int)) ∧ True ∧ Ex.ret = Ex.ret ∧ true = true ∧ ((True ∧ (bif quoF (σ.S 0) (1 : Int) then (ByteArray.mk (#[])) else x0) = x0) ∧ (bif quoF (σ.S 0) (1 : Int) then (0 : Int) else quoN (σ.S 0) (1 : Int)) = quoN (σ.S 0) (1 : Int)) ∧ (bif quoF (σ.S 0) (1 : Int)
    then false else quoO (σ.S 0) (1 : Int)) = quoO (σ.S 0) (1 : Int)) := by kernel_rfl

theorem sg_goal (σ : Dt) (α : At') : (cSg.goal Tryd.prog Lrq.mk' 1000 Tryd.f86 σ α) = (
let x0 := decide ((↑(σ.S 0).size : Int) > (1 : Int));
let x1 := (0 : Int) ≤ (2 : Int) ∧ (2 : Int) ≤ (↑(σ.S 0).size : Int);
let x2 := (ByteArray.mk (#[(60 : UInt8), (60 : UInt8)]));
let x3 := ((σ.S 0).extract 0 2).toList == [x2.get! 0, x2.get! 1];
let x4 := True ∧ Ex.ret = Ex.ret ∧ true = true ∧ True ∧ (2 : Int) = sgN (σ.S 0);
let x5 := (ByteArray.mk (#[(62 : UInt8), (62 : UInt8)]));
let x6 := ((σ.S 0).extract 0 2).toList == [x5.get! 0, x5.get! 1];
let x7 := (0 : Int) ≤ (0 : Int) ∧ (0 : Int) < (↑(σ.S 0).size : Int);
let x8 := (↑((σ.S 0).data.getD 0 (0 : UInt8)).toNat : Int);
let x9 := x8 == (44 : Int);
let x10 := True ∧ Ex.ret = Ex.ret ∧ true = true ∧ True ∧ (1 : Int) = sgN (σ.S 0);
let x11 := x8 == (40 : Int);
let x12 := x8 == (41 : Int);
let x13 := x8 == (58 : Int);
let x14 := x8 == (36 : Int);
let x15 := x8 == (43 : Int);
let x16 := x8 == (45 : Int);
let x17 := x8 == (42 : Int);
let x18 := x8 == (47 : Int);
let x19 := x8 == (38 : Int);
let x20 := x8 == (126 : Int);
let x21 := x8 == (64 : Int);
let x22 := x8 == (61 : Int);
let x23 := x8 == (124 : Int);
let x24 := x8 == (94 : Int);
let x25 := x7 ∧ (x9 = true → x10) ∧ (x9 = false → x7 ∧ (x11 = true → x10) ∧ (x11 = false → x7 ∧ (x12 = true → x10) ∧ (x12 = false → x7 ∧ (x13 = true → x10) ∧ (x13 = false → x7 ∧ (x14 = true → x10) ∧ (x14 = false → x7 ∧ (x15 = true → x10) ∧ (x15 = false → x7 ∧ (x16 = true → x10) ∧ (x16 = false → x7 ∧
    (x17 = true → x10) ∧ (x17 = false → x7 ∧ (x18 = true → x10) ∧ (x18 = false → x7 ∧ (x19 = true → x10) ∧ (x19 = false → x7 ∧ (x20 = true → x10) ∧ (x20 = false → x7 ∧ (x21 = true → x10) ∧ (x21 = false → x7 ∧ (x22 = true → x10) ∧ (x22 = false → x7 ∧ (x23 = true → x10) ∧ (x23 = false → x7 ∧ (x24 =
    true → x10) ∧ (x24 = false → True ∧ Ex.ret = Ex.ret ∧ true = true ∧ True ∧ (0 : Int) = sgN (σ.S (0 : Nat)))))))))))))))));
(x0 = true → x1 ∧ (x3 = true → x4) ∧ (x3 = false → x1 ∧ (x6 = true → x4) ∧ (x6 = false → x25))) ∧ (x0 = false → x25)) := by kernel_rfl

theorem rgl_round (σ : Dt) (α : At') (rest : Nat → Value) : (lRgL.goal Tryd.prog Lsg.mk' 1000 bRgL σ α rest) = (
let x0 := σ.I 1 < (↑(σ.S 0).size : Int);
let x1 := decide x0;
let x2 := (0 : Int) ≤ σ.I 1 ∧ x0;
let x3 := (↑((σ.S 0).data.getD (σ.I 1).toNat (0 : UInt8)).toNat : Int);
let x4 := lttI x3;
let x5 := decide (σ.I 1 > (1 : Int));
let x6 := bif x1 then bif x4 then true else bif x5 then digI x3 else false else false;
let x7 := IntKind.i64.wrap (σ.I 1 + (1 : Int));
true = true ∧ (x1 = true → x2 ∧ (x4 = false → x5 = true → x2)) ∧ (x6 = true → true = true ∧ true = true ∧ True ∧ ((1 : Int) ≤ x7 ∧ WdP (σ.S 0) x7) ∧ ((↑(σ.S 0).size : Int) - x7).toNat < ((↑(σ.S 0).size : Int) - σ.I 1).toNat ∧ Po.leaf (Ex.exit 1) [(0, Pt.gs (σ.S 0)), (12, Pt.gi IntKind.i64 (regI (σ.S
    0) x7))] [] [] = Po.leaf (Ex.exit 1) [(0, Pt.gs (σ.S 0)), (12, Pt.gi IntKind.i64 (regI (σ.S 0) (σ.I 1)))] [] [] ∧ asSt ([], []) = ([], [])) ∧ (x6 = false → true = true ∧ Ex.exit 1 = Ex.exit 1 ∧ true = true ∧ (True ∧ σ.S 0 = σ.S 0) ∧ σ.I 1 = regI (σ.S 0) (σ.I 1))) := by kernel_rfl

theorem ro_goal (σ : Dt) (α : At') : (cRo.goal Tryd.prog LrgL.mk' 1000 Tryd.f55 σ α) = (
let x0 := (↑((σ.S 0).data.getD 0 (0 : UInt8)).toNat : Int);
let x1 := x0 == (59 : Int);
let x2 := bif digI x0 then true else x0 == (39 : Int);
let x3 := (σ.S 0).size ≤ 65536;
let x4 := True ∧ 1 ≤ (σ.S 0).size ∧ x3;
let x5 := x0 == (34 : Int);
let x6 := x0 == (37 : Int);
let x7 := insI x0;
((0 : Int) ≤ (0 : Int) ∧ (0 : Int) < (↑(σ.S 0).size : Int)) ∧ (x1 = false → (x2 = true → x4) ∧ (x2 = false → (x5 = true → x4) ∧ (x5 = false → (x6 = true → (True ∧ (1 : Int) ≤ (1 : Int) ∧ WdP (σ.S 0) (1 : Int)) ∧ ((0 : Int) ≤ regI (σ.S 0) (1 : Int) ∧ regI (σ.S 0) (1 : Int) ≤ (↑(σ.S 0).size : Int)) ∧
    (0 : Int) ≤ (1 : Int) ∧ (1 : Int) ≤ regI (σ.S 0) (1 : Int)) ∧ (x6 = false → (x7 = true → (True ∧ x3) ∧ (0 : Int) ≤ twI isIns (σ.S 0) (0 : Int) ∧ twI isIns (σ.S 0) (0 : Int) ≤ (↑(σ.S 0).size : Int)) ∧ (x7 = false → x4 ∧ (0 : Int) ≤ sgN (σ.S 0) ∧ sgN (σ.S 0) ≤ (↑(σ.S 0).size : Int)))))) ∧ True ∧
    Ex.ret = Ex.ret ∧ true = true ∧ ((((True ∧ (bif x1 then (6 : Int) else bif x2 then (2 : Int) else bif x5 then (3 : Int) else bif x6 then (5 : Int) else bif x7 then (1 : Int) else (4 : Int)) = roK (σ.S 0)) ∧ (bif x1 then (0 : Int) else bif x2 then rnV (σ.S 0) else (0 : Int)) = roV (σ.S 0)) ∧ (bif
    x1 then (ByteArray.mk (#[])) else bif x2 then (ByteArray.mk (#[])) else bif x5 then quoX [] (σ.S 0) (1 : Int) else bif x6 then (σ.S 0).extract 1 (regI (σ.S 0) (1 : Int)).toNat else bif x7 then (σ.S 0).extract 0 (twI isIns (σ.S 0) (0 : Int)).toNat else (σ.S 0).extract 0 (sgN (σ.S
    0)).toNat) = roX (σ.S 0)) ∧ (bif x1 then (1 : Int) else bif x2 then rnN (σ.S 0) else bif x5 then quoN (σ.S 0) (1 : Int) else bif x6 then regI (σ.S 0) (1 : Int) else bif x7 then twI isIns (σ.S 0) (0 : Int) else sgN (σ.S 0)) = roN (σ.S 0)) ∧ (bif x1 then true else bif x2 then rnO (σ.S 0) else bif
    x5 then quoO (σ.S 0) (1 : Int) else bif x6 then decide (regI (σ.S 0) (1 : Int) > (1 : Int)) else bif x7 then decide (twI isIns (σ.S 0) (0 : Int) ≤ (255 : Int)) else decide (sgN (σ.S 0) > (0 : Int))) = roO (σ.S 0)) := by kernel_rfl

theorem rll_round (σ : Dt) (α : At') (rest : Nat → Value) : (lRlL.goal Tryd.prog Lro.mk' 1000 bRlL σ α rest) = (
let x0 := !(σ.S 0).toList == [];
let x1 := (0 : Int) ≤ (0 : Int) ∧ (0 : Int) < (↑(σ.S 0).size : Int);
let x2 := (↑((σ.S 0).data.getD 0 (0 : UInt8)).toNat : Int);
let x3 := bif x0 then x2 != (35 : Int) else false;
let x4 := x2 == (32 : Int);
let x5 := bif x4 then true else x2 == (9 : Int);
let x6 := (σ.R 4).length = (σ.R 4).length;
let x7 := (σ.S 0).extract 1 (σ.S 0).size;
let x8 := x7.size;
let x9 := tksR (σ.R 4) (σ.I 1) (σ.S 0);
let x10 := asSt ([], []) = ([], []);
let x11 := True ∧ σ.I 1 = σ.I 1;
let x12 := σ.R 4 ++ [[Value.int IntKind.i64 (roK (σ.S 0)), Value.int IntKind.i64 (σ.I 1), Value.int IntKind.i64 (roV (σ.S 0)), Value.string (roX (σ.S 0))]];
let x13 := x12.length;
let x14 := (σ.S 0).extract (roN (σ.S 0)).toNat (σ.S 0).size;
let x15 := x14.size;
true = true ∧ (x0 = true → x1) ∧ (x3 = true → x1 ∧ (x4 = false → x1) ∧ (x5 = true → ((0 : Int) ≤ (1 : Int) ∧ (1 : Int) ≤ (↑(σ.S 0).size : Int)) ∧ true = true ∧ true = true ∧ (True ∧ x6) ∧ (σ.R 4).length + x8 ≤ 65536 ∧ x8 < (σ.S 0).size ∧ Po.ite (tksO x7) (Po.leaf (Ex.exit 0) [(1, Pt.gi IntKind.i64
    (σ.I 1)), (6, Pt.gr 8 (42 : TypeId) [PK.int IntKind.i64, PK.int IntKind.i64, PK.int IntKind.i64, PK.str] (tksR (σ.R 4) (σ.I 1) x7))] [] [4]) (Po.leaf Ex.ret [(1, Pt.gi IntKind.i64 (σ.I 1)), (4, Pt.c (Value.slice none 0 0)), (5, Pt.gb false)] [] [4]) = Po.ite (tksO (σ.S 0))
    (Po.leaf (Ex.exit 0) [(1, Pt.gi IntKind.i64 (σ.I 1)), (6, Pt.gr 8 (42 : TypeId) [PK.int IntKind.i64, PK.int IntKind.i64, PK.int IntKind.i64, PK.str] x9)] [] [4]) (Po.leaf Ex.ret [(1, Pt.gi IntKind.i64 (σ.I 1)), (4, Pt.c (Value.slice none 0 0)), (5, Pt.gb false)] [] [4]) ∧
    x10) ∧ (x5 = false → (True ∧ 1 ≤ (σ.S 0).size ∧ (σ.S 0).size ≤ 65536) ∧ ((!roO (σ.S 0)) = true → true = true ∧ (tksO (σ.S 0) = true → Ex.exit 0 = Ex.ret ∧ true = true ∧ False) ∧ (tksO (σ.S 0) = false → Ex.ret = Ex.ret ∧ true = true ∧ x11 ∧ false = false)) ∧ ((!roO (σ.S 0)) = false → (x6 ∧ True ∧
    x13 ≤ 9223372036854775807 ∧ x13 * 40 ≤ 140737488355328) ∧ ((0 : Int) ≤ roN (σ.S 0) ∧ roN (σ.S 0) ≤ (↑(σ.S 0).size : Int)) ∧ true = true ∧ true = true ∧ (True ∧ x13 = x13) ∧ x13 + x15 ≤ 65536 ∧ x15 < (σ.S 0).size ∧ Po.ite (tksO x14) (Po.leaf (Ex.exit 0) [(1, Pt.gi IntKind.i64 (σ.I 1)), (6, Pt.gr
    8 (42 : TypeId) [PK.int IntKind.i64, PK.int IntKind.i64, PK.int IntKind.i64, PK.str] (tksR x12 (σ.I 1) x14))] [] [4]) (Po.leaf Ex.ret [(1, Pt.gi IntKind.i64 (σ.I 1)), (4, Pt.c (Value.slice none 0 0)), (5, Pt.gb false)] [] [4]) = Po.ite (tksO (σ.S 0)) (Po.leaf (Ex.exit 0)
    [(1, Pt.gi IntKind.i64 (σ.I 1)), (6, Pt.gr 8 (42 : TypeId) [PK.int IntKind.i64, PK.int IntKind.i64, PK.int IntKind.i64, PK.str] x9)] [] [4]) (Po.leaf Ex.ret [(1, Pt.gi IntKind.i64 (σ.I 1)), (4, Pt.c (Value.slice none 0 0)), (5, Pt.gb false)] [] [4]) ∧ x10))) ∧ (x3 = false →
    true = true ∧ (tksO (σ.S 0) = true → Ex.exit 0 = Ex.exit 0 ∧ true = true ∧ x11 ∧ x6 ∧ σ.R 4 = x9) ∧ (tksO (σ.S 0) = false → Ex.ret = Ex.exit 0 ∧ true = true ∧ False))) := by kernel_rfl

theorem rl_goal (σ : Dt) (α : At') : (cRl.goal Tryd.prog LrlL.mk' 1000 Tryd.f37 σ α) = (
let x0 := tksR [] (σ.I 1) (σ.S 0);
let x1 := x0.length;
let x2 := (↑x1 : Int);
let x3 := decide (x2 > (0 : Int));
let x4 := x1 = x1;
let x5 := x0 ++ [[Value.int IntKind.i64 (6 : Int), Value.int IntKind.i64 (σ.I 1), Value.int IntKind.i64 (0 : Int), Value.string (ByteArray.mk (#[]))]];
let x6 := x5.length;
((True ∧ 0 = 0) ∧ 0 + (σ.S 0).size ≤ 65536) ∧ (tksO (σ.S 0) = true → (x3 = true → (x4 ∧ True ∧ x6 ≤ 9223372036854775807 ∧ x6 * 40 ≤ 140737488355328) ∧ True ∧ Ex.ret = Ex.ret ∧ true = true ∧ (True ∧ x6 = x6 ∧ x5 = lnR (σ.I 1) (σ.S 0)) ∧ true = lnO (σ.S 0)) ∧ (x3 = false → True ∧ Ex.ret = Ex.ret ∧
    true = true ∧ (True ∧ x4 ∧ x0 = lnR (σ.I 1) (σ.S 0)) ∧ true = lnO (σ.S 0))) ∧ (tksO (σ.S 0) = false → True ∧ Ex.ret = Ex.ret ∧ true = true ∧ (True ∧ 0 = 0 ∧ [] = lnR (σ.I 1) (σ.S 0)) ∧ false = lnO (σ.S 0))) := by kernel_rfl

theorem ral_round (σ : Dt) (α : At') (rest : Nat → Value) : (lRaL.goal Tryd.prog Lrl.mk' 1000 bRaL σ α rest) = (
let x0 := σ.I 8 < (↑(σ.R 0).length : Int);
let x1 := decide x0;
let x2 := asS (((σ.R 0).getD (σ.I 8).toNat []).getD 0 (Value.tuple #[]));
let x3 := !lnO x2;
let x4 := lsO (σ.R 0) (σ.I 8) = true;
let x5 := lsO (σ.R 0) (σ.I 8) = false;
let x6 := (σ.R 0).length = (σ.R 0).length;
let x7 := True ∧ x6;
let x8 := IntKind.i64.wrap (σ.I 8 + (1 : Int));
let x9 := x6 ∧ σ.R 0 = σ.R 0;
let x10 := (σ.R 4).length = (σ.R 4).length;
let x11 := lnR x8 x2;
let x12 := x11.length;
let x13 := σ.R 4 ++ List.take x12 x11;
let x14 := x13.length;
let x15 := lsR (σ.R 4) (σ.R 0) (σ.I 8);
true = true ∧ (x1 = true → ((0 : Int) ≤ σ.I 8 ∧ x0 ∧ (σ.R 0).length ≤ (σ.R 0).length) ∧ (σ.I 8).toNat < (σ.R 0).length ∧ (True ∧ x2.size ≤ 65536) ∧ (x3 = true → true = true ∧ (x4 → Ex.exit 0 = Ex.ret ∧ true = true ∧ False) ∧ (x5 → Ex.ret = Ex.ret ∧ true = true ∧ ((x7 ∧ x8 = lsN (σ.R 0) (σ.I 8)) ∧
    (100 : Int) = (100 : Int)) ∧ x9)) ∧ (x3 = false → (x10 ∧ x12 ≤ x12 ∧ x14 ≤ 9223372036854775807 ∧ x14 * 40 ≤ 140737488355328) ∧ true = true ∧ true = true ∧ ((True ∧ x14 = x14) ∧ x6) ∧ RaP x13 (σ.R 0) x8 ∧ ((↑(σ.R 0).length : Int) - x8).toNat < ((↑(σ.R 0).length : Int) - σ.I 8).toNat ∧ Po.ite (lsO
    (σ.R 0) x8) (Po.leaf (Ex.exit 0) [(5, Pt.k 0 (σ.R 0).length), (6, Pt.gr 10 (42 : TypeId) [PK.int IntKind.i64, PK.int IntKind.i64, PK.int IntKind.i64, PK.str] (lsR x13 (σ.R 0) x8))] [] [4]) (Po.leaf Ex.ret [(5, Pt.k 0 (σ.R 0).length), (2, Pt.c (Value.slice none 0 0)), (3,
    Pt.gi IntKind.i64 (lsN (σ.R 0) x8)), (4, Pt.gi IntKind.i64 (100 : Int))] [] [4]) = Po.ite (lsO (σ.R 0) (σ.I 8)) (Po.leaf (Ex.exit 0) [(5, Pt.k 0 (σ.R 0).length), (6, Pt.gr 10 (42 : TypeId) [PK.int IntKind.i64, PK.int IntKind.i64, PK.int IntKind.i64, PK.str] x15)] [] [4])
    (Po.leaf Ex.ret [(5, Pt.k 0 (σ.R 0).length), (2, Pt.c (Value.slice none 0 0)), (3, Pt.gi IntKind.i64 (lsN (σ.R 0) (σ.I 8))), (4, Pt.gi IntKind.i64 (100 : Int))] [] [4]) ∧ asSt ([], [(0, (9 : TypeId), [PK.str], σ.R 0)]) = ([], [(0, (9 : TypeId), [PK.str], σ.R 0)]))) ∧ (x1 =
    false → true = true ∧ (x4 → Ex.exit 0 = Ex.exit 0 ∧ true = true ∧ (x7 ∧ x10 ∧ σ.R 4 = x15) ∧ x9) ∧ (x5 → Ex.ret = Ex.exit 0 ∧ true = true ∧ False))) := by kernel_rfl

theorem ra_goal (σ : Dt) (α : At') : (cRa.goal Tryd.prog LraL.mk' 1000 Tryd.f13 σ α) = (
let x0 := decide ((↑(σ.S 0).size : Int) > (65536 : Int));
let x1 := True ∧ 0 = 0 ∧ [] = allR (σ.S 0);
let x2 := True ∧ Ex.ret = Ex.ret ∧ true = true ∧ (x1 ∧ (0 : Int) = allL (σ.S 0)) ∧ (6 : Int) = allE (σ.S 0);
let x3 := decide ((↑(lnsR (σ.S 0)).length : Int) > (4000 : Int));
let x4 := lsR [] (lnsR (σ.S 0)) (0 : Int);
let x5 := x4.length;
(x0 = true → x2) ∧ (x0 = false → (True ∧ (σ.S 0).size ≤ 1099511627776) ∧ (x3 = true → x2) ∧ (x3 = false → (((True ∧ 0 = 0) ∧ (lnsR (σ.S 0)).length = (lnsR (σ.S 0)).length) ∧ RaP [] (lnsR (σ.S 0)) (0 : Int)) ∧ (lsO (lnsR (σ.S 0)) (0 : Int) = true → True ∧ Ex.ret = Ex.ret ∧ true = true ∧ ((True ∧ x5 =
    x5 ∧ x4 = allR (σ.S 0)) ∧ (0 : Int) = allL (σ.S 0)) ∧ (0 : Int) = allE (σ.S 0)) ∧ (lsO (lnsR (σ.S 0)) (0 : Int) = false → True ∧ Ex.ret = Ex.ret ∧ true = true ∧ (x1 ∧ lsN (lnsR (σ.S 0)) (0 : Int) = allL (σ.S 0)) ∧ (100 : Int) = allE (σ.S 0))))) := by kernel_rfl

end Go.Proofs.YtfjldllegmfooaaDoor.Lx
end

section
/- The document's scanner: texts, signs, tokens, lines: shown. No condition. -/
set_option maxRecDepth 100000
namespace Go.Proofs.YtfjldllegmfooaaDoor.Lx
open Go.RowKit Go.IntWalk Go.Proofs.YtfjldllegmfooaaDoor.X

theorem byt_cons {s : ByteArray} {c : UInt8} {r : Bs} (h : s.data.toList = c :: r) (i : Nat) : byt s.data.toList (i + 1) = byt r i := by rw [h]; rfl
theorem byt_head {s : ByteArray} {c : UInt8} {r : Bs} (h : s.data.toList = c :: r) : byt s.data.toList 0 = c := by rw [h]; rfl
theorem hxO_b (c : UInt8) : decide (hxI (c.toNat : Int) ≥ 0) = (hexV c).isSome := by
  rw [hxI_b]
  cases hexV c with
  | none => rfl
  | some d => exact decide_eq_true (Int.natCast_nonneg d)
theorem good_es : Lib.Good Tryd.prog Les := lib_con good_rn Tryd.func104 cEs 1000 fun σ α hp => by
  rw [es_goal]
  have hp : (σ.S 0).size ≤ 65536 := hp
  intro x0 x1 x2 x3 x4 x5 x6 x7 x8 x9 x10 x11 x12 x13 x14 x15 x16 x17
  have hL := data_len (σ.S 0)
  have eb : ∀ n : Nat, n < 256 → (x4 == (n : Int)) = decide (byt (σ.S 0).data.toList 0 = UInt8.ofNat n) := fun n hn => bytZ (σ.S 0) 0 n hn
  have g : ∀ (b : UInt8) (n : Nat) (o : Bool), escT (σ.S 0).data.toList = (b, n, o) → ((True ∧ (b.toNat : Int) = esB (σ.S 0)) ∧ (n : Int) = esN (σ.S 0)) ∧ o = esO (σ.S 0) := fun b n o h => by
    unfold esB esN esO; rw [h]; exact ⟨⟨⟨trivial, rfl⟩, rfl⟩, rfl⟩
  have g2 : escT (σ.S 0).data.toList = (0, 0, false) → x2 := fun h => ⟨trivial, rfl, rfl, g 0 0 false h⟩
  have e0 : x0 = decide ((σ.S 0).data.toList = []) := by
    show ((σ.S 0).toList == []) = _
    rw [ByteArray.toList_eq, Bool.eq_iff_iff, beq_iff_eq, decide_eq_true_iff]
  refine ⟨fun h => g2 ?_, fun h => ?_⟩
  · rw [e0] at h; rw [of_decide_eq_true h]; rfl
  · rw [e0] at h
    have hne := of_decide_eq_false h
    have hpos := List.length_pos_iff.2 hne
    have e6 : x6 = decide (byt (σ.S 0).data.toList 0 = 92 ∨ byt (σ.S 0).data.toList 0 = 34) := by
      have a := eb 92 (by decide)
      have b := eb 34 (by decide)
      show (bif x4 == 92 then x4 == 92 else x4 == 34) = _
      rw [show (x4 == 92) = _ from a, show (x4 == 34) = _ from b]
      by_cases h : byt (σ.S 0).data.toList 0 = 92 <;> by_cases h' : byt (σ.S 0).data.toList 0 = 34 <;> simp [h, h']
    have e7 : x7 = decide (byt (σ.S 0).data.toList 0 = 110) := eb 110 (by decide)
    have e8 : x8 = decide (byt (σ.S 0).data.toList 0 = 116) := eb 116 (by decide)
    have e9 : x9 = decide (byt (σ.S 0).data.toList 0 = 48) := eb 48 (by decide)
    have e10 : x10 = decide (byt (σ.S 0).data.toList 0 = 120) := eb 120 (by decide)
    have e4 : x4 = ((byt (σ.S 0).data.toList 0).toNat : Int) := by show ((_ : Nat) : Int) = _; rw [getD_byt]
    have e13 : x13 = hxI ((byt (σ.S 0).data.toList 1).toNat : Int) := by show hxI ((_ : Nat) : Int) = _; rw [getD_byt]
    have e16 : x16 = hxI ((byt (σ.S 0).data.toList 2).toNat : Int) := by show hxI ((_ : Nat) : Int) = _; rw [getD_byt]
    have e14 : x14 = (hexV (byt (σ.S 0).data.toList 1)).isSome := by show decide (x13 ≥ 0) = _; rw [e13, hxO_b]
    have e17 : x17 = (decide (2 < (σ.S 0).data.toList.length) && ((hexV (byt (σ.S 0).data.toList 1)).isSome && (hexV (byt (σ.S 0).data.toList 2)).isSome)) := by
      show (bif decide (((σ.S 0).size : Int) > 2) then bif x14 then decide (x16 ≥ 0) else false else false) = _
      rw [e14, e16, hxO_b, hL]
      by_cases a : 2 < (σ.S 0).size <;> cases (hexV (byt (σ.S 0).data.toList 1)).isSome <;> simp [a] <;> omega
    obtain ⟨c, r, hcr⟩ := List.exists_cons_of_ne_nil hne
    have hc := byt_head hcr
    have hE : escT (σ.S 0).data.toList = escT (c :: r) := by rw [hcr]
    rw [hc] at e6 e7 e8 e9 e10 e4
    have h3 : x3 := ⟨Int.le_refl _, by omega⟩
    refine ⟨h3, fun h => ⟨h3, trivial, rfl, rfl, ?_⟩, fun h6 => ⟨fun h => ⟨trivial, rfl, rfl, ?_⟩, fun h7 => ⟨fun h => ⟨trivial, rfl, rfl, ?_⟩, fun h8 => ⟨fun h => ⟨trivial, rfl, rfl, ?_⟩, fun h9 => ⟨fun h => ?_, fun h => g2 ?_⟩⟩⟩⟩⟩
    · rw [e6] at h; rw [e4]
      exact g c 1 true (by rw [hE, escT]; rw [if_pos (of_decide_eq_true h)])
    · rw [e6] at h6; rw [e7] at h
      exact g 10 1 true (by rw [hE, escT]; rw [if_neg (of_decide_eq_false h6), if_pos (of_decide_eq_true h)])
    · rw [e6] at h6; rw [e7] at h7; rw [e8] at h
      exact g 9 1 true (by rw [hE, escT]; rw [if_neg (of_decide_eq_false h6), if_neg (of_decide_eq_false h7), if_pos (of_decide_eq_true h)])
    · rw [e6] at h6; rw [e7] at h7; rw [e8] at h8; rw [e9] at h
      exact g 0 1 true (by rw [hE, escT]; rw [if_neg (of_decide_eq_false h6), if_neg (of_decide_eq_false h7), if_neg (of_decide_eq_false h8), if_pos (of_decide_eq_true h)])
    · rw [e6] at h6; rw [e7] at h7; rw [e8] at h8; rw [e9] at h9; rw [e10] at h
      have hX : escT (c :: r) = escX r := by
        rw [escT, if_neg (of_decide_eq_false h6), if_neg (of_decide_eq_false h7), if_neg (of_decide_eq_false h8), if_neg (of_decide_eq_false h9), if_pos (of_decide_eq_true h)]
      have h11 : x11 = true → 2 < (σ.S 0).size := fun h => by have : ((σ.S 0).size : Int) > 2 := of_decide_eq_true h; omega
      refine ⟨fun a => ⟨⟨by decide, by have := h11 a; omega⟩, fun _ => ⟨by decide, by have := h11 a; omega⟩⟩, fun h17 => ?_, fun h17 => g2 ?_⟩
      · rw [e17] at h17
        simp only [Bool.and_eq_true, decide_eq_true_eq] at h17
        obtain ⟨k1, k2, k3⟩ := h17
        have b1 := byt_cons hcr 0
        have b2 := byt_cons hcr 1
        rw [show (0 : Nat) + 1 = 1 from rfl] at b1
        rw [show (1 : Nat) + 1 = 2 from rfl] at b2
        match r, hX, hcr, b1, b2 with
        | [], _, hcr, _, _ => rw [hcr] at k1; simp at k1
        | [_], _, hcr, _, _ => rw [hcr] at k1; simp at k1
        | h' :: l' :: r', hX, hcr, b1, b2 =>
          have b1 : byt (σ.S 0).data.toList 1 = h' := b1
          have b2 : byt (σ.S 0).data.toList 2 = l' := b2
          rw [b1] at k2 e13
          rw [b2] at k3 e16
          obtain ⟨a, ha⟩ := Option.isSome_iff_exists.1 k2
          obtain ⟨b, hb⟩ := Option.isSome_iff_exists.1 k3
          have la := hexV_lt ha
          have lb := hexV_lt hb
          rw [hxI_b, ha] at e13
          rw [hxI_b, hb] at e16
          have e13 : x13 = (a : Int) := e13
          have e16 : x16 = (b : Int) := e16
          have ev : IntKind.u8.wrap (IntKind.i64.wrap (IntKind.i64.wrap ((16 : Int) * x13) + x16)) = ((UInt8.ofNat (16 * a + b)).toNat : Int) := by
            rw [e13, e16, i64_in (16 * (a : Int)) (by omega), i64_in _ (by omega), u8_in _ (by omega), UInt8.toNat_ofNat']
            omega
          refine ⟨⟨by decide, by omega⟩, ⟨by decide, by omega⟩, trivial, rfl, rfl, ?_⟩
          rw [ev]
          exact g _ 3 true (by rw [hE, hX]; simp only [escX, ha, hb])
      · rw [e17] at h17
        rw [hE, hX]
        rcases r with _ | ⟨h', _ | ⟨l', r'⟩⟩
        · rfl
        · rfl
        · have b1 : byt (σ.S 0).data.toList 1 = h' := by rw [hcr]; rfl
          have b2 : byt (σ.S 0).data.toList 2 = l' := by rw [hcr]; rfl
          rw [b1, b2, hcr] at h17
          simp only [List.length_cons] at h17
          cases ha : hexV h' <;> cases hb : hexV l' <;> simp [escX, ha, hb] at h17 ⊢
    · rw [e6] at h6; rw [e7] at h7; rw [e8] at h8; rw [e9] at h9; rw [e10] at h
      rw [hE, escT]; rw [if_neg (of_decide_eq_false h6), if_neg (of_decide_eq_false h7), if_neg (of_decide_eq_false h8), if_neg (of_decide_eq_false h9), if_neg (of_decide_eq_false h)]
theorem esc_quo (r : Bs) : ((escT r).2.2 = true → (escT r).2.1 ≤ r.length ∧ 1 ≤ (escT r).2.1 ∧ quo (92 :: r) = (quo (r.drop (escT r).2.1)).map (fun q => ((escT r).1 :: q.1, q.2 + ((escT r).2.1 + 1))) ∧ quoEnd (92 :: r) = quoEnd (r.drop (escT r).2.1)) ∧
    ((escT r).2.2 = false → quo (92 :: r) = none ∧ quoEnd (92 :: r) = false) := by
  cases r with
  | nil => exact ⟨fun h => (by cases h), fun _ => ⟨by rw [quo.eq_def]; rfl, by rw [quoEnd.eq_def]; rfl⟩⟩
  | cons e r =>
    rw [quo_92, end_92]
    by_cases k1 : e = 92 ∨ e = 34
    · have he : escT (e :: r) = (e, 1, true) := by rw [escT, if_pos k1]
      rw [he, if_pos k1, if_pos (by rcases k1 with k | k <;> simp [k])]
      exact ⟨fun _ => ⟨by simp, Nat.le_refl _, rfl, rfl⟩, fun h => by cases h⟩
    · by_cases k2 : e = 110
      · have he : escT (e :: r) = (10, 1, true) := by rw [escT, if_neg k1, if_pos k2]
        rw [he, if_neg k1, if_pos k2, if_pos (by simp [k2])]
        exact ⟨fun _ => ⟨by simp, Nat.le_refl _, rfl, rfl⟩, fun h => by cases h⟩
      · by_cases k3 : e = 116
        · have he : escT (e :: r) = (9, 1, true) := by rw [escT, if_neg k1, if_neg k2, if_pos k3]
          rw [he, if_neg k1, if_neg k2, if_pos k3, if_pos (by simp [k3])]
          exact ⟨fun _ => ⟨by simp, Nat.le_refl _, rfl, rfl⟩, fun h => by cases h⟩
        · by_cases k4 : e = 48
          · have he : escT (e :: r) = (0, 1, true) := by rw [escT, if_neg k1, if_neg k2, if_neg k3, if_pos k4]
            rw [he, if_neg k1, if_neg k2, if_neg k3, if_pos k4, if_pos (by simp [k4])]
            exact ⟨fun _ => ⟨by simp, Nat.le_refl _, rfl, rfl⟩, fun h => by cases h⟩
          · have kn : ¬ (e = 92 ∨ e = 34 ∨ e = 110 ∨ e = 116 ∨ e = 48) := by
              rintro (h | h | h | h | h)
              · exact k1 (.inl h)
              · exact k1 (.inr h)
              · exact k2 h
              · exact k3 h
              · exact k4 h
            rw [if_neg k1, if_neg k2, if_neg k3, if_neg k4, if_neg kn]
            by_cases k5 : e = 120
            · rw [if_pos k5, if_pos k5]
              rcases r with _ | ⟨h, _ | ⟨l, r⟩⟩
              · have he : escT [e] = (0, 0, false) := by rw [escT, if_neg k1, if_neg k2, if_neg k3, if_neg k4, if_pos k5]; rfl
                rw [he]; exact ⟨fun h => (by cases h), fun _ => ⟨rfl, rfl⟩⟩
              · have he : escT [e, h] = (0, 0, false) := by rw [escT, if_neg k1, if_neg k2, if_neg k3, if_neg k4, if_pos k5]; rfl
                rw [he]; exact ⟨fun h => (by cases h), fun _ => ⟨rfl, rfl⟩⟩
              · have he : escT (e :: h :: l :: r) = match hexV h, hexV l with | some a, some b => (UInt8.ofNat (16 * a + b), 3, true) | _, _ => (0, 0, false) := by rw [escT, if_neg k1, if_neg k2, if_neg k3, if_neg k4, if_pos k5]; rfl
                rw [he]
                cases ha : hexV h with
                | none => exact ⟨fun h => (by cases h), fun _ => ⟨by simp [ha], by simp [ha]⟩⟩
                | some a =>
                  cases hb : hexV l with
                  | none => exact ⟨fun h => (by cases h), fun _ => ⟨by simp [ha, hb], by simp [ha, hb]⟩⟩
                  | some b => exact ⟨fun _ => ⟨by simp, by simp, by simp [ha, hb], by simp [ha, hb]⟩, fun h => by cases h⟩
            · have he : escT (e :: r) = (0, 0, false) := by rw [escT, if_neg k1, if_neg k2, if_neg k3, if_neg k4, if_neg k5]
              rw [he, if_neg k5, if_neg k5]
              exact ⟨fun h => (by cases h), fun _ => ⟨rfl, rfl⟩⟩
theorem stp_all {s : ByteArray} {i i' : Int} {c : UInt8} (xs : List (List Value)) {v : Int} (hs : Stp s i i' c) (hv : v = c.toNat) : quoF s i' = quoF s i ∧ quoO s i' = quoO s i ∧ quoN s i' = quoN s i ∧ quoX (xs ++ [[Value.int IntKind.u8 v]]) s i' = quoX xs s i := by
  obtain ⟨d, e1, e2, e3⟩ := hs
  refine ⟨e3.symm, by unfold quoO; rw [e2, Option.isSome_map], ?_, ?_⟩
  · unfold quoN; rw [e2]
    cases quo (restB s i') with
    | none => rfl
    | some q => show i' + (q.2 : Int) = i + ((q.2 + d : Nat) : Int); omega
  · unfold quoX; rw [e2]
    cases quo (restB s i') with
    | none => rfl
    | some q => show rowsStr _ = rowsStr _; rw [hv, List.append_assoc]; rfl
theorem good_rqL : Lib.Good Tryd.prog LrqL := lib_loop good_es 3 "ref.go:127" (by kernel_rfl) lRqL 1000 fun σ α rest hp => by
  refine (rql_round σ α rest).mpr ?_
  obtain ⟨h0, h1, hz, hx⟩ := (show RqP (σ.S 0) (σ.R 8) (σ.I 5) from hp)
  intro x0 x1 x2 x3 x4 x5 x6 x7 x8 x9 x10 x11 x12 x13 x14 x15 x16 x17 x18 x19 x20 x21
  have hL := data_len (σ.S 0)
  have bad : quo (restB (σ.S 0) (σ.I 5)) = none → quoEnd (restB (σ.S 0) (σ.I 5)) = false → x10 := fun e1 e2 => by
    refine ⟨rfl, fun h => ?_, fun _ => ⟨rfl, rfl, ⟨⟨⟨trivial, rfl⟩, ?_⟩, ?_⟩, ?_⟩⟩
    · have h : quoEnd _ = true := h
      rw [e2] at h; cases h
    · show _ = quoX _ _ _; unfold quoX; rw [e1]; rfl
    · unfold quoN; rw [e1]
    · unfold quoO; rw [e1]; rfl
  refine ⟨rfl, fun h => ?_, fun h => ?_⟩
  · have hlt : σ.I 5 < (σ.S 0).size := of_decide_eq_true h
    have hr := rest_cons h0 hlt
    have e8 : x8 = σ.I 5 + 1 := i64_in _ (by omega)
    have e2 : x2 = ((byt (σ.S 0).data.toList (σ.I 5).toNat).toNat : Int) := by show ((_ : Nat) : Int) = _; rw [getD_byt]
    have e3 : x3 = decide (byt (σ.S 0).data.toList (σ.I 5).toNat = 34) := bytZ _ _ 34 (by decide)
    have e11 : x11 = decide (byt (σ.S 0).data.toList (σ.I 5).toNat = 92) := bytZ _ _ 92 (by decide)
    have e9 : x9 = decide ((byt (σ.S 0).data.toList (σ.I 5).toNat).toNat < 32 ∨ (byt (σ.S 0).data.toList (σ.I 5).toNat).toNat > 126) := by
      show (bif decide (x2 < 32) then true else decide (x2 > 126)) = _
      rw [e2]
      by_cases a : (byt (σ.S 0).data.toList (σ.I 5).toNat).toNat < 32 <;> by_cases b : (byt (σ.S 0).data.toList (σ.I 5).toNat).toNat > 126 <;> simp [a, b] <;> omega
    generalize byt (σ.S 0).data.toList (σ.I 5).toNat = c at hr e2 e3 e9 e11
    refine ⟨⟨h0, hlt⟩, fun h3 => ?_, fun h3 => ⟨fun h9 => ?_, fun h9 => ⟨fun h11 => ?_, fun h11 => ?_⟩⟩⟩
    · rw [e3] at h3
      have hc := of_decide_eq_true h3
      subst hc
      have eq : quo (restB (σ.S 0) (σ.I 5)) = some ([], 1) := by rw [hr, quo_end]
      have ee : quoEnd (restB (σ.S 0) (σ.I 5)) = false := by rw [hr, quoEnd.eq_def]; rfl
      refine ⟨Nat.le_refl _, rfl, fun h => ?_, fun _ => ⟨rfl, rfl, ⟨⟨⟨trivial, rfl⟩, ?_⟩, ?_⟩, ?_⟩⟩
      · have h : quoEnd _ = true := h
        rw [ee] at h; cases h
      · show _ = quoX _ _ _
        unfold quoX; rw [eq, List.take_length]
        show rowsStr (σ.R 8) = rowsStr (σ.R 8 ++ [])
        rw [List.append_nil]
      · unfold quoN; rw [eq, e8]; rfl
      · unfold quoO; rw [eq]; rfl
    · rw [e3] at h3; rw [e9] at h9
      obtain ⟨q1, q2⟩ := quo_no c (restB (σ.S 0) (σ.I 5 + 1)) (of_decide_eq_false h3) (of_decide_eq_true h9)
      exact bad (by rw [hr, q1]) (by rw [hr, q2])
    · rw [e11] at h11
      have hc := of_decide_eq_true h11
      subst hc
      have e12 : x12.data.toList = restB (σ.S 0) (σ.I 5 + 1) := by
        show ((σ.S 0).extract x8.toNat (σ.S 0).size).data.toList = _
        rw [ext_r, bs_data, e8]; rfl
      have z12 : x12.size ≤ 65536 := by rw [← data_len, e12]; unfold restB; rw [List.length_drop]; omega
      obtain ⟨g1, g2⟩ := esc_quo (restB (σ.S 0) (σ.I 5 + 1))
      have e13 : x13 = !(escT (restB (σ.S 0) (σ.I 5 + 1))).2.2 := by show (!(escT x12.data.toList).2.2) = _; rw [e12]
      refine ⟨⟨by omega, by omega⟩, ⟨trivial, z12⟩, fun h13 => ?_, fun h13 => ?_⟩
      · rw [e13] at h13
        obtain ⟨q1, q2⟩ := g2 (by simpa using h13)
        exact bad (by rw [hr, q1]) (by rw [hr, q2])
      · rw [e13] at h13
        obtain ⟨q1, q2, q3, q4⟩ := g1 (by simpa using h13)
        have hrl : (restB (σ.S 0) (σ.I 5 + 1)).length = (σ.S 0).size - (σ.I 5 + 1).toNat := by unfold restB; rw [List.length_drop, hL]
        have en : esN x12 = ((escT (restB (σ.S 0) (σ.I 5 + 1))).2.1 : Int) := by unfold esN; rw [e12]
        have eB : esB x12 = ((escT (restB (σ.S 0) (σ.I 5 + 1))).1.toNat : Int) := by unfold esB; rw [e12]
        generalize hE : escT (restB (σ.S 0) (σ.I 5 + 1)) = E at q1 q2 q3 q4 en eB
        have e17 : x17 = σ.I 5 + 1 + (E.2.1 : Int) := by
          show IntKind.i64.wrap (IntKind.i64.wrap (σ.I 5 + esN x12) + 1) = _
          rw [en, i64_in (σ.I 5 + _) (by omega), i64_in _ (by omega)]; omega
        have hst : Stp (σ.S 0) (σ.I 5) x17 E.1 := by
          refine ⟨E.2.1 + 1, by rw [e17]; omega, ?_, ?_⟩
          · rw [hr, q3, e17]
            have : (restB (σ.S 0) (σ.I 5 + 1)).drop E.2.1 = restB (σ.S 0) (σ.I 5 + 1 + (E.2.1 : Int)) := by unfold restB; rw [List.drop_drop]; congr 1; omega
            rw [this]
          · rw [hr, q4, e17]
            have : (restB (σ.S 0) (σ.I 5 + 1)).drop E.2.1 = restB (σ.S 0) (σ.I 5 + 1 + (E.2.1 : Int)) := by unfold restB; rw [List.drop_drop]; congr 1; omega
            rw [this]
        obtain ⟨f1, f2, f3, f4⟩ := stp_all (σ.R 8) hst eB
        have l15 : x16 = (σ.R 8).length + 1 := by show (σ.R 8 ++ [_]).length = _; simp
        refine ⟨⟨rfl, trivial, by omega, by omega⟩, rfl, rfl, ⟨trivial, rfl⟩, ⟨by omega, by omega, hz, by show (x16 : Int) ≤ _; omega⟩, by show (_ - x17).toNat < (_ - σ.I 5).toNat; omega, by rw [f1, f2, f3, show quoX x15 (σ.S 0) x17 = x7 from f4], rfl⟩
    · rw [e3] at h3; rw [e9] at h9; rw [e11] at h11
      obtain ⟨q1, q2⟩ := quo_c c (restB (σ.S 0) (σ.I 5 + 1)) (of_decide_eq_false h3) (of_decide_eq_false h9) (of_decide_eq_false h11)
      have hst : Stp (σ.S 0) (σ.I 5) x8 c := ⟨1, by omega, by rw [hr, q1, e8], by rw [hr, q2, e8]⟩
      obtain ⟨f1, f2, f3, f4⟩ := stp_all (σ.R 8) hst e2
      have l20 : x21 = (σ.R 8).length + 1 := by show (σ.R 8 ++ [_]).length = _; simp
      refine ⟨⟨rfl, trivial, by omega, by omega⟩, rfl, rfl, ⟨trivial, rfl⟩, ⟨by omega, by omega, hz, by show (x21 : Int) ≤ _; omega⟩, by show (_ - x8).toNat < (_ - σ.I 5).toNat; omega, by rw [f1, f2, f3, show quoX x20 (σ.S 0) x8 = x7 from f4], rfl⟩
  · have hge : ¬ σ.I 5 < (σ.S 0).size := of_decide_eq_false h
    refine ⟨rfl, fun _ => ⟨rfl, rfl, trivial, rfl⟩, fun h => ?_⟩
    have h : quoEnd (restB _ _) = false := h
    rw [rest_nil hge] at h; cases h
theorem good_rq : Lib.Good Tryd.prog Lrq := lib_con good_rqL Tryd.func82 cRq 1000 fun σ α hp => by
  rw [rq_goal]
  obtain ⟨h0, h1⟩ := (show 1 ≤ (σ.S 0).size ∧ (σ.S 0).size ≤ 65536 from hp)
  intro x0
  refine ⟨⟨⟨trivial, rfl⟩, by decide, by omega, h1, by decide⟩, trivial, rfl, rfl, ?_⟩
  cases hf : quoF (σ.S 0) 1 with
  | false => exact ⟨⟨⟨trivial, rfl⟩, rfl⟩, rfl⟩
  | true =>
    have hq : quo (restB (σ.S 0) 1) = none := end_none _ _ (Nat.le_refl _) hf
    refine ⟨⟨⟨trivial, ?_⟩, ?_⟩, ?_⟩
    · show _ = quoX _ _ _; unfold quoX; rw [hq]; rfl
    · show (0 : Int) = quoN _ _; unfold quoN; rw [hq]
    · show false = quoO _ _; unfold quoO; rw [hq]; rfl
theorem good_sg : Lib.Good Tryd.prog Lsg := lib_con good_rq Tryd.func86 cSg 1000 fun σ α hp => by
  rw [sg_goal]
  obtain ⟨hp1, hp2⟩ := (show 1 ≤ (σ.S 0).size ∧ (σ.S 0).size ≤ 65536 from hp)
  intro x0 x1 x2 x3 x4 x5 x6 x7 x8 x9 x10 x11 x12 x13 x14 x15 x16 x17 x18 x19 x20 x21 x22 x23 x24 x25
  have hL := data_len (σ.S 0)
  have h7 : x7 := ⟨Int.le_refl _, by omega⟩
  have bz : ∀ n : Nat, n < 256 → (((((σ.S 0).data.getD 0 (0 : UInt8)).toNat : Int) == (n : Int)) = true → byt (σ.S 0).data.toList 0 = UInt8.ofNat n) ∧ (byt (σ.S 0).data.toList 0 = UInt8.ofNat n → ((((σ.S 0).data.getD 0 (0 : UInt8)).toNat : Int) == (n : Int)) = true) := fun n hn => by
    rw [bytZ _ 0 n hn]; exact ⟨of_decide_eq_true, decide_eq_true⟩
  have h25 : ¬ (1 < (σ.S 0).data.toList.length ∧ (byt (σ.S 0).data.toList 0 = 60 ∧ byt (σ.S 0).data.toList 1 = 60 ∨ byt (σ.S 0).data.toList 0 = 62 ∧ byt (σ.S 0).data.toList 1 = 62)) → x25 := by
    intro hn
    have hc : sgnT (σ.S 0).data.toList = if signs.contains (byt (σ.S 0).data.toList 0) = true then 1 else 0 := by unfold sgnT; rw [if_neg hn]
    have g1 : signs.contains (byt (σ.S 0).data.toList 0) = true → (1 : Int) = sgN (σ.S 0) := fun h => by unfold sgN; rw [hc, if_pos h]; rfl
    have g0 : signs.contains (byt (σ.S 0).data.toList 0) = false → (0 : Int) = sgN (σ.S 0) := fun h => by unfold sgN; rw [hc, if_neg (by rw [h]; simp)]; rfl
    exact ⟨h7, fun h => ⟨trivial, rfl, rfl, trivial, g1 (by rw [(bz 44 (by decide)).1 h]; decide)⟩, fun n0 => ⟨h7, fun h => ⟨trivial, rfl, rfl, trivial, g1 (by rw [(bz 40 (by decide)).1 h]; decide)⟩, fun n1 => ⟨h7, fun h => ⟨trivial, rfl, rfl, trivial, g1 (by rw [(bz 41 (by decide)).1 h]; decide)⟩, fun n2 => ⟨h7, fun h => ⟨trivial, rfl, rfl, trivial, g1 (by rw [(bz 58 (by decide)).1 h]; decide)⟩, fun n3 => ⟨h7, fun h => ⟨trivial, rfl, rfl, trivial, g1 (by rw [(bz 36 (by decide)).1 h]; decide)⟩, fun n4 => ⟨h7, fun h => ⟨trivial, rfl, rfl, trivial, g1 (by rw [(bz 43 (by decide)).1 h]; decide)⟩, fun n5 => ⟨h7, fun h => ⟨trivial, rfl, rfl, trivial, g1 (by rw [(bz 45 (by decide)).1 h]; decide)⟩, fun n6 => ⟨h7, fun h => ⟨trivial, rfl, rfl, trivial, g1 (by rw [(bz 42 (by decide)).1 h]; decide)⟩, fun n7 => ⟨h7, fun h => ⟨trivial, rfl, rfl, trivial, g1 (by rw [(bz 47 (by decide)).1 h]; decide)⟩, fun n8 => ⟨h7, fun h => ⟨trivial, rfl, rfl, trivial, g1 (by rw [(bz 38 (by decide)).1 h]; decide)⟩, fun n9 => ⟨h7, fun h => ⟨trivial, rfl, rfl, trivial, g1 (by rw [(bz 126 (by decide)).1 h]; decide)⟩, fun n10 => ⟨h7, fun h => ⟨trivial, rfl, rfl, trivial, g1 (by rw [(bz 64 (by decide)).1 h]; decide)⟩, fun n11 => ⟨h7, fun h => ⟨trivial, rfl, rfl, trivial, g1 (by rw [(bz 61 (by decide)).1 h]; decide)⟩, fun n12 => ⟨h7, fun h => ⟨trivial, rfl, rfl, trivial, g1 (by rw [(bz 124 (by decide)).1 h]; decide)⟩, fun n13 => ⟨h7, fun h => ⟨trivial, rfl, rfl, trivial, g1 (by rw [(bz 94 (by decide)).1 h]; decide)⟩, fun n14 => ⟨trivial, rfl, rfl, trivial, g0 (by
      have q : ∀ n : Nat, n < 256 → ((((σ.S 0).data.getD 0 (0 : UInt8)).toNat : Int) == (n : Int)) = false → byt (σ.S 0).data.toList 0 ≠ UInt8.ofNat n := fun n hn h e => by rw [(bz n hn).2 e] at h; cases h
      have q0 := q 44 (by decide) n0
      have q1 := q 40 (by decide) n1
      have q2 := q 41 (by decide) n2
      have q3 := q 58 (by decide) n3
      have q4 := q 36 (by decide) n4
      have q5 := q 43 (by decide) n5
      have q6 := q 45 (by decide) n6
      have q7 := q 42 (by decide) n7
      have q8 := q 47 (by decide) n8
      have q9 := q 38 (by decide) n9
      have q10 := q 126 (by decide) n10
      have q11 := q 64 (by decide) n11
      have q12 := q 61 (by decide) n12
      have q13 := q 124 (by decide) n13
      have q14 := q 94 (by decide) n14
      generalize byt (σ.S 0).data.toList 0 = c at *
      cases hs : signs.contains c with
      | false => rfl
      | true =>
        have : c ∈ signs := by simpa using hs
        simp only [signs, List.mem_cons, List.not_mem_nil, or_false] at this
        rcases this with e | e | e | e | e | e | e | e | e | e | e | e | e | e | e
        · exact absurd e q0
        · exact absurd e q1
        · exact absurd e q2
        · exact absurd e q3
        · exact absurd e q4
        · exact absurd e q5
        · exact absurd e q6
        · exact absurd e q7
        · exact absurd e q8
        · exact absurd e q9
        · exact absurd e q10
        · exact absurd e q11
        · exact absurd e q12
        · exact absurd e q13
        · exact absurd e q14
    )⟩⟩⟩⟩⟩⟩⟩⟩⟩⟩⟩⟩⟩⟩⟩⟩
  have h2 : ∀ c : UInt8, 1 < (σ.S 0).size → (((σ.S 0).extract 0 2).toList == [c, c]) = decide (byt (σ.S 0).data.toList 0 = c ∧ byt (σ.S 0).data.toList 1 = c) := fun c h => by
    rw [ByteArray.toList_eq, ext_l, bs_data, Bool.eq_iff_iff, beq_iff_eq, decide_eq_true_iff]
    match hl : (σ.S 0).data.toList, hL with
    | [], hL => simp at hL; omega
    | [_], hL => simp at hL; omega
    | a :: b :: r, _ => simp [byt]
  refine ⟨fun h => ?_, fun h => ?_⟩
  · have h0 : 1 < (σ.S 0).size := by have : ((σ.S 0).size : Int) > 1 := of_decide_eq_true h; omega
    have e3 : x3 = decide (byt (σ.S 0).data.toList 0 = 60 ∧ byt (σ.S 0).data.toList 1 = 60) := h2 60 h0
    have e6 : x6 = decide (byt (σ.S 0).data.toList 0 = 62 ∧ byt (σ.S 0).data.toList 1 = 62) := h2 62 h0
    have g4 : (1 < (σ.S 0).data.toList.length ∧ (byt (σ.S 0).data.toList 0 = 60 ∧ byt (σ.S 0).data.toList 1 = 60 ∨ byt (σ.S 0).data.toList 0 = 62 ∧ byt (σ.S 0).data.toList 1 = 62)) → x4 := fun h => ⟨trivial, rfl, rfl, trivial, by unfold sgN sgnT; rw [if_pos h]; rfl⟩
    refine ⟨⟨by decide, by omega⟩, fun h3 => g4 ?_, fun h3 => ⟨⟨by decide, by omega⟩, fun h6 => g4 ?_, fun h6 => h25 ?_⟩⟩
    · rw [e3] at h3; exact ⟨by omega, .inl (of_decide_eq_true h3)⟩
    · rw [e6] at h6; exact ⟨by omega, .inr (of_decide_eq_true h6)⟩
    · rw [e3] at h3; rw [e6] at h6
      rintro ⟨_, h | h⟩
      · exact of_decide_eq_false h3 h
      · exact of_decide_eq_false h6 h
  · have h0 : ¬ 1 < (σ.S 0).size := by have : ¬ ((σ.S 0).size : Int) > 1 := of_decide_eq_false h; omega
    exact h25 fun h => h0 (by omega)
end Go.Proofs.YtfjldllegmfooaaDoor.Lx
end

section
/- The document's scanner: tokens and lines are the program's. No condition. -/
set_option maxRecDepth 100000
namespace Go.Proofs.YtfjldllegmfooaaDoor.Lx
open Go.RowKit Go.IntWalk Go.Proofs.YtfjldllegmfooaaDoor.X

theorem ltt_all : ∀ c : Fin 256, lttI (c.val : Int) = isLet (UInt8.ofNat c.val) := by decide +kernel
theorem lttI_b (c : UInt8) : lttI (c.toNat : Int) = isLet c := by have := ltt_all ⟨c.toNat, c.toNat_lt⟩; rwa [UInt8.ofNat_toNat] at this
theorem twI_le {p : UInt8 → Bool} {s : ByteArray} {i : Int} (h0 : 0 ≤ i) (h1 : i ≤ s.size) : i ≤ twI p s i ∧ twI p s i ≤ s.size := by
  unfold twI
  have := tw_le p (s.data.toList.drop i.toNat)
  rw [List.length_drop, data_len] at this
  omega
theorem good_rgL : Lib.Good Tryd.prog LrgL := lib_loop good_sg 12 "ref.go:176" (by kernel_rfl) lRgL 1000 fun σ α rest hp => by
  refine (rgl_round σ α rest).mpr ?_
  obtain ⟨h1, h0, hs, hz⟩ := (show 1 ≤ σ.I 1 ∧ WdP (σ.S 0) (σ.I 1) from hp)
  intro x0 x1 x2 x3 x4 x5 x6 x7
  have e3 : x3 = ((byt (σ.S 0).data.toList (σ.I 1).toNat).toNat : Int) := by show ((_ : Nat) : Int) = _; rw [getD_byt]
  have e6 : x6 = bif x1 then bif isLet (byt (σ.S 0).data.toList (σ.I 1).toNat) then true else bif x5 then isDig (byt (σ.S 0).data.toList (σ.I 1).toNat) else false else false := by
    show (bif x1 then bif lttI x3 then true else bif x5 then digI x3 else false else false) = _
    rw [e3, lttI_b, digI_b]
  have h2 : x1 = true → x2 := fun h => ⟨h0, of_decide_eq_true h⟩
  refine ⟨rfl, fun h => ⟨h2 h, fun _ _ => h2 h⟩, fun h => ?_, fun h => ?_⟩
  · rw [e6] at h
    cases hx : x1 with
    | false => rw [hx] at h; cases h
    | true =>
      rw [hx] at h
      have hlt : σ.I 1 < (σ.S 0).size := of_decide_eq_true hx
      have e7 : x7 = σ.I 1 + 1 := i64_in _ (by omega)
      have key : regI (σ.S 0) x7 = regI (σ.S 0) (σ.I 1) := by
        rw [e7]
        unfold regI
        rw [if_pos (by omega)]
        by_cases hi : 1 < σ.I 1
        · rw [if_pos hi]
          refine (twI_step h0 hlt ?_).symm
          rw [show x5 = true from decide_eq_true hi] at h
          unfold isReg
          cases hL : isLet (byt (σ.S 0).data.toList (σ.I 1).toNat) with
          | true => rfl
          | false => rw [hL] at h; exact h
        · rw [if_neg hi, if_pos]
          refine ⟨hlt, ?_⟩
          rw [show x5 = false from decide_eq_false hi] at h
          cases hL : isLet (byt (σ.S 0).data.toList (σ.I 1).toNat) with
          | true => rfl
          | false => rw [hL] at h; cases h
      exact ⟨rfl, rfl, trivial, ⟨by omega, by omega, by omega, hz⟩, by omega, by rw [key], rfl⟩
  · rw [e6] at h
    refine ⟨rfl, rfl, rfl, ⟨trivial, rfl⟩, ?_⟩
    unfold regI
    by_cases hi : 1 < σ.I 1
    · rw [if_pos hi]
      refine (twI_stop h0 fun hlt => ?_).symm
      rw [show x1 = true from decide_eq_true hlt, show x5 = true from decide_eq_true hi] at h
      unfold isReg
      cases hL : isLet (byt (σ.S 0).data.toList (σ.I 1).toNat) with
      | true => rw [hL] at h; cases h
      | false => rw [hL] at h; exact h
    · rw [if_neg hi, if_neg]
      rintro ⟨hlt, hL⟩
      rw [show x1 = true from decide_eq_true hlt, hL] at h
      cases h
theorem sgnT_le (l : Bs) (h : 1 ≤ l.length) : sgnT l ≤ l.length ∧ sgnT l ≤ 2 := by
  unfold sgnT
  split
  · rename_i h; omega
  · split <;> omega
theorem regI_le {s : ByteArray} (h : 1 ≤ s.size) : 1 ≤ regI s 1 ∧ regI s 1 ≤ s.size := by
  unfold regI
  rw [if_neg (by decide)]
  split
  · rename_i hh
    have := twI_le (p := isReg) (s := s) (i := 1 + 1) (by decide) (by omega)
    omega
  · omega
theorem good_ro : Lib.Good Tryd.prog Lro := lib_con good_rgL Tryd.func55 cRo 1000 fun σ α hp => by
  rw [ro_goal]
  obtain ⟨hp1, hp2⟩ := (show 1 ≤ (σ.S 0).size ∧ (σ.S 0).size ≤ 65536 from hp)
  intro x0 x1 x2 x3 x4 x5 x6 x7
  have hL := data_len (σ.S 0)
  have e0 : x0 = ((byt (σ.S 0).data.toList 0).toNat : Int) := by show ((_ : Nat) : Int) = _; rw [getD_byt]
  have e1 : x1 = decide (byt (σ.S 0).data.toList 0 = 59) := bytZ _ 0 59 (by decide)
  have e39 : (x0 == 39) = decide (byt (σ.S 0).data.toList 0 = 39) := bytZ _ 0 39 (by decide)
  have e2 : x2 = decide (isDig (byt (σ.S 0).data.toList 0) = true ∨ byt (σ.S 0).data.toList 0 = 39) := by
    show (bif digI x0 then true else x0 == 39) = _
    rw [e39, e0, digI_b]
    cases isDig (byt (σ.S 0).data.toList 0) <;> by_cases h : byt (σ.S 0).data.toList 0 = 39 <;> simp [h]
  have e5 : x5 = decide (byt (σ.S 0).data.toList 0 = 34) := bytZ _ 0 34 (by decide)
  have e6 : x6 = decide (byt (σ.S 0).data.toList 0 = 37) := bytZ _ 0 37 (by decide)
  have e7 : x7 = isIns (byt (σ.S 0).data.toList 0) := by show insI x0 = _; rw [e0, insI_b]
  have h4 : x4 := ⟨trivial, hp1, hp2⟩
  have hreg := regI_le hp1
  have htw := twI_le (p := isIns) (s := σ.S 0) (Int.le_refl 0) (Int.natCast_nonneg _)
  have hsg := sgnT_le (σ.S 0).data.toList (by omega)
  have et := twI_0 isIns (σ.S 0)
  refine ⟨⟨Int.le_refl _, by omega⟩, fun _ => ⟨fun _ => h4, fun _ => ⟨fun _ => h4, fun _ => ⟨fun _ => ⟨⟨trivial, Int.le_refl _, by decide, by omega, hp2⟩, ⟨by omega, hreg.2⟩, by decide, hreg.1⟩, fun _ => ⟨fun _ => ⟨⟨trivial, hp2⟩, htw⟩, fun _ => ⟨h4, Int.natCast_nonneg _, by unfold sgN; omega⟩⟩⟩⟩⟩, trivial, rfl, rfl, ?_⟩
  rw [e1, e2, e5, e6, e7]
  have fin : ∀ (k v : Int) (x : ByteArray) (n : Int) (o : Bool), rone (σ.S 0) = (k, v, x, n, o) → ((((True ∧ k = roK (σ.S 0)) ∧ v = roV (σ.S 0)) ∧ x = roX (σ.S 0)) ∧ n = roN (σ.S 0)) ∧ o = roO (σ.S 0) := fun k v x n o h => by
    unfold roK roV roX roN roO; rw [h]; exact ⟨⟨⟨⟨⟨trivial, rfl⟩, rfl⟩, rfl⟩, rfl⟩, rfl⟩
  by_cases h1 : byt (σ.S 0).data.toList 0 = 59
  · simp only [decide_eq_true h1, cond_true]
    exact fin _ _ _ _ _ (by unfold rone; rw [if_pos h1]; rfl)
  · by_cases h2 : isDig (byt (σ.S 0).data.toList 0) = true ∨ byt (σ.S 0).data.toList 0 = 39
    · simp only [decide_eq_false h1, decide_eq_true h2, cond_true, cond_false]
      exact fin _ _ _ _ _ (by unfold rone; rw [if_neg h1, if_pos h2]; rfl)
    · by_cases h5 : byt (σ.S 0).data.toList 0 = 34
      · simp only [decide_eq_false h1, decide_eq_false h2, decide_eq_true h5, cond_true, cond_false]
        exact fin _ _ _ _ _ (by unfold rone; rw [if_neg h1, if_neg h2, if_pos h5])
      · by_cases h6 : byt (σ.S 0).data.toList 0 = 37
        · simp only [decide_eq_false h1, decide_eq_false h2, decide_eq_false h5, decide_eq_true h6, cond_true, cond_false]
          exact fin _ _ _ _ _ (by unfold rone; rw [if_neg h1, if_neg h2, if_neg h5, if_pos h6, ext_m])
        · by_cases h7 : isIns (byt (σ.S 0).data.toList 0) = true
          · simp only [decide_eq_false h1, decide_eq_false h2, decide_eq_false h5, decide_eq_false h6, h7, cond_true, cond_false]
            refine fin _ _ _ _ _ ?_
            unfold rone
            rw [if_neg h1, if_neg h2, if_neg h5, if_neg h6, if_pos h7, et, Int.toNat_natCast, ext_l]
            have : decide ((((σ.S 0).data.toList.takeWhile isIns).length : Int) ≤ 255) = decide (((σ.S 0).data.toList.takeWhile isIns).length ≤ 255) := decide_eq_decide.2 (by omega)
            rw [this]
          · have h7' : isIns (byt (σ.S 0).data.toList 0) = false := by simpa using h7
            simp only [decide_eq_false h1, decide_eq_false h2, decide_eq_false h5, decide_eq_false h6, h7', cond_false]
            refine fin _ _ _ _ _ ?_
            unfold rone
            rw [if_neg h1, if_neg h2, if_neg h5, if_neg h6, if_neg h7]
            unfold sgN
            rw [Int.toNat_natCast, ext_l]
            have : decide ((sgnT (σ.S 0).data.toList : Int) > 0) = decide (0 < sgnT (σ.S 0).data.toList) := decide_eq_decide.2 (by omega)
            rw [this]
theorem hexF_eq : ∀ (l : Bs) (v : Nat), hexF v l = if l.all isHex = true then some (l.foldl (fun a c => 16 * a + (hexV c).getD 0) v) else none
  | [], v => rfl
  | c :: l, v => by
    rw [hexF, List.all_cons, List.foldl_cons]
    unfold isHex
    cases h : hexV c with
    | none => simp
    | some d =>
      simp only [Option.isSome_some, Bool.true_and, Option.getD_some]
      rw [hexF_eq l]; rfl
theorem fold_mono : ∀ (l : Bs) (v : Nat), v ≤ l.foldl (fun a c => 10 * a + (hexV c).getD 0) v
  | [], v => Nat.le_refl _
  | c :: l, v => by
    rw [List.foldl_cons]
    have := fold_mono l (10 * v + (hexV c).getD 0)
    omega
theorem decF_eq : ∀ (l : Bs) (v : Nat), v < 18446744073709551616 → decF v l = if l.all isDig = true ∧ l.foldl (fun a c => 10 * a + (hexV c).getD 0) v < 18446744073709551616 then some (l.foldl (fun a c => 10 * a + (hexV c).getD 0) v) else none
  | [], v, hv => by rw [if_pos ⟨rfl, hv⟩]; rfl
  | c :: l, v, hv => by
    rw [decF, List.all_cons, List.foldl_cons]
    cases hd : isDig c with
    | false => rw [if_neg (by simp), if_neg (by simp)]
    | true =>
      rw [hexV_dig hd, Option.getD_some]
      by_cases hlt : 10 * v + (c.toNat - 48) < 18446744073709551616
      · rw [if_pos ⟨rfl, hlt⟩, decF_eq l _ hlt]
        simp only [Bool.true_and]
      · rw [if_neg (fun h => hlt h.2), if_neg]
        rintro ⟨_, h⟩
        have := fold_mono l (10 * v + (c.toNat - 48))
        omega
theorem num_le {l : Bs} {q : Int × Nat} (h : numT l = some q) : q.2 ≤ l.length := by
  unfold numT at h
  dsimp only at h
  split at h
  · rename_i hx
    have hlen : 1 < l.length := byt_pos (by rw [hx.2]; decide)
    have := tw_le isHex (l.drop 2)
    rw [List.length_drop] at this
    split at h
    · cases h
    · simp only [Option.some.injEq] at h
      subst h
      show 2 + _ ≤ _; omega
  · split at h
    · cases h
    · simp only [Option.some.injEq] at h
      subst h
      exact tw_le isDig l
theorem quo_le : ∀ (k : Nat) (l b : Bs) (n : Nat), l.length ≤ k → quo l = some (b, n) → n ≤ l.length
  | _, [], b, n, _, h => by rw [quo.eq_def] at h; cases h
  | 0, _ :: _, _, _, hk, _ => by simp at hk
  | k + 1, c :: r, b, n, hk, h => by
    have hk : r.length ≤ k := by simpa using hk
    by_cases h1 : c = 34
    · subst h1; rw [quo_end] at h
      simp only [Option.some.injEq, Prod.mk.injEq] at h
      obtain ⟨_, rfl⟩ := h; simp
    · by_cases h2 : c.toNat < 32 ∨ c.toNat > 126
      · rw [(quo_no c r h1 h2).1] at h; cases h
      · by_cases h3 : c ≠ 92
        · rw [(quo_c c r h1 h2 h3).1] at h
          obtain ⟨q, hq, hz⟩ := Option.map_eq_some_iff.1 h
          simp only [Prod.mk.injEq] at hz
          obtain ⟨rfl, rfl⟩ := hz
          have := quo_le k r q.1 q.2 hk hq
          simp only [List.length_cons]; omega
        · have h3 : c = 92 := Decidable.not_not.1 h3
          subst h3
          cases r with
          | nil => rw [quo.eq_def] at h; cases h
          | cons e r =>
            have hk : r.length + 1 ≤ k := by simpa using hk
            have rec1 : ∀ (x : UInt8) (m : Nat), (quo r).map (fun q => (x :: q.1, q.2 + m)) = some (b, n) → n ≤ r.length + m := fun x m hm => by
              obtain ⟨q, hq, hz⟩ := Option.map_eq_some_iff.1 hm
              simp only [Prod.mk.injEq] at hz
              obtain ⟨rfl, rfl⟩ := hz
              have := quo_le k r q.1 q.2 (by omega) hq
              omega
            rw [quo_92] at h
            simp only [List.length_cons]
            split at h
            · have := rec1 _ _ h; omega
            · split at h
              · have := rec1 _ _ h; omega
              · split at h
                · have := rec1 _ _ h; omega
                · split at h
                  · have := rec1 _ _ h; omega
                  · split at h
                    · split at h
                      · rename_i r' _ _
                        split at h
                        · obtain ⟨q, hq, hz⟩ := Option.map_eq_some_iff.1 h
                          simp only [Prod.mk.injEq] at hz
                          obtain ⟨rfl, rfl⟩ := hz
                          have := quo_le k r' q.1 q.2 (by simp only [List.length_cons] at hk; omega) hq
                          simp only [List.length_cons]; omega
                        · cases h
                      · cases h
                    · cases h
theorem rnum_ref {l : Bs} (h39 : byt l 0 ≠ 39) : (∀ q, refNum l = some q → rnum l = (q.1, (q.2 : Int), true)) ∧ (refNum l = none → (rnum l).2.2 = false) := by
  unfold rnum refNum
  rw [if_neg h39]
  dsimp only
  have hle := tw_le isIns l
  generalize (l.takeWhile isIns).length = n at hle
  by_cases hx : n > 2 ∧ n ≤ 18 ∧ byt l 0 = 48 ∧ byt l 1 = 120
  · rw [if_pos hx, if_pos hx, hexF_eq]
    by_cases ha : ((l.take n).drop 2).all isHex = true
    · rw [if_pos ha, if_pos ha]
      exact ⟨fun q hq => by simp only [Option.some.injEq] at hq; subst hq; rfl, fun h => by cases h⟩
    · rw [if_neg ha, if_neg ha]
      exact ⟨fun q hq => (by cases hq), fun _ => rfl⟩
  · rw [if_neg hx, if_neg hx]
    have hb0 : 1 < n → byt (l.take n) 0 = byt l 0 := fun h => by
      cases l with
      | nil => simp
      | cons a l => cases n with
        | zero => omega
        | succ n => rfl
    have hlen : (l.take n).length = n := by rw [List.length_take]; omega
    have hd : dcOk (l.take n) = !decide ((n > 1 ∧ byt l 0 = 48) ∨ n > 20 ∨ decOk (l.take n) = false) := by
      unfold dcOk
      rw [hlen, decF_eq _ 0 (by decide)]
      unfold decOk valB
      by_cases a : n > 1
      · rw [hb0 a]
        by_cases b : byt l 0 = 48 <;> by_cases c : n > 20 <;> by_cases d : (l.take n).all isDig = true <;> by_cases e : (l.take n).foldl (fun a c => 10 * a + (hexV c).getD 0) 0 < 18446744073709551616 <;> simp [a, b, c, d, e] <;> omega
      · by_cases c : n > 20 <;> by_cases d : (l.take n).all isDig = true <;> by_cases e : (l.take n).foldl (fun a c => 10 * a + (hexV c).getD 0) 0 < 18446744073709551616 <;> simp [a, c, d, e] <;> omega
    by_cases hc : (n > 1 ∧ byt l 0 = 48) ∨ n > 20 ∨ decOk (l.take n) = false
    · rw [if_pos hc]
      refine ⟨fun q hq => (by cases hq), fun _ => ?_⟩
      show dcOk (l.take n) = false
      rw [hd, decide_eq_true hc]; rfl
    · rw [if_neg hc]
      have hok : dcOk (l.take n) = true := by rw [hd, decide_eq_false hc]; rfl
      refine ⟨fun q hq => ?_, fun h => by cases h⟩
      simp only [Option.some.injEq] at hq
      subst hq
      rw [if_pos hok, hok]
      have hk : decOk (l.take n) = true := by
        cases h : decOk (l.take n) with
        | true => rfl
        | false => exact absurd (.inr (.inr h)) hc
      unfold decOk valB at hk
      simp only [Bool.and_eq_true, decide_eq_true_eq] at hk
      rw [decF_eq _ 0 (by decide), if_pos hk]; rfl
theorem fst_dig : ∀ c : Fin 256, isDig (UInt8.ofNat c.val) = true → isFst (UInt8.ofNat c.val) = false ∧ UInt8.ofNat c.val ≠ 39 := by decide +kernel
theorem dig_not {c : UInt8} (h : isDig c = true) : isFst c = false ∧ c ≠ 39 := by have := fst_dig ⟨c.toNat, c.toNat_lt⟩; rw [UInt8.ofNat_toNat] at this; exact this h
/-- The document's token is the program's. -/
theorem ref_one {s : ByteArray} (h1 : 1 ≤ s.size) (hz : s.size ≤ 65536) : (roO s = true → nextT s.data.toList = some (⟨roK s, roV s, (roX s).data.toList⟩, (roN s).toNat) ∧ roN s = ((roN s).toNat : Int) ∧ roN s ≤ s.size) ∧ (roO s = false → nextT s.data.toList = none) := by
  have hL := data_len s
  unfold roK roV roX roN roO
  by_cases h59 : byt s.data.toList 0 = 59
  · have e : rone s = (6, 0, ByteArray.empty, 1, true) := by unfold rone; rw [if_pos h59]
    rw [e]
    refine ⟨fun _ => ⟨?_, rfl, by show (1 : Int) ≤ _; omega⟩, fun h => by cases h⟩
    unfold nextT
    rw [h59]; rfl
  by_cases hd : isDig (byt s.data.toList 0) = true
  · have e : rone s = (2, rnV s, ByteArray.empty, rnN s, rnO s) := by unfold rone; rw [if_neg h59, if_pos (.inl hd)]
    obtain ⟨nf, n39⟩ := dig_not hd
    obtain ⟨r1, r2⟩ := rnum_ref n39
    have hn : nextT s.data.toList = (numT s.data.toList).map fun q => (⟨2, q.1, []⟩, q.2) := by
      unfold nextT; simp only [nf, hd, Bool.false_eq_true, if_false, if_true]
    rw [e]
    unfold rnV rnN rnO
    rw [ref_num hd] at r1 r2
    cases hq : numT s.data.toList with
    | none =>
      rw [hq] at hn
      exact ⟨fun h => (by rw [r2 hq] at h; cases h), fun _ => hn⟩
    | some q =>
      rw [hq] at hn
      rw [r1 q hq]
      have hle := num_le hq
      exact ⟨fun _ => ⟨hn, rfl, by show (q.2 : Int) ≤ _; omega⟩, fun h => by cases h⟩
  by_cases h39 : byt s.data.toList 0 = 39
  · have e : rone s = (2, rnV s, ByteArray.empty, rnN s, rnO s) := by unfold rone; rw [if_neg h59, if_pos (.inr h39)]
    rw [e]
    unfold rnV rnN rnO rnum
    rw [if_pos h39]
    have hn : nextT s.data.toList = if (byt s.data.toList 1).toNat < 33 ∨ (byt s.data.toList 1).toNat > 126 ∨ byt s.data.toList 2 ≠ 39 ∨ isIns (byt s.data.toList 3) = true then none else some (⟨2, (byt s.data.toList 1).toNat, []⟩, 3) := by
      unfold nextT; rw [h39]; rfl
    rw [hn]
    by_cases hc : s.data.toList.length < 3 ∨ (byt s.data.toList 1).toNat < 33 ∨ (byt s.data.toList 1).toNat > 126 ∨ byt s.data.toList 2 ≠ 39
    · rw [if_pos hc]
      refine ⟨fun h => (by cases h), fun _ => if_pos ?_⟩
      rcases hc with h | h | h | h
      · refine .inr (.inr (.inl ?_))
        rw [byt_out (by omega)]; decide
      · exact .inl h
      · exact .inr (.inl h)
      · exact .inr (.inr (.inl h))
    · rw [if_neg hc]
      have hlen : 3 ≤ s.data.toList.length := Nat.le_of_not_lt fun h => hc (.inl h)
      have e3 : (decide (s.data.toList.length = 3) || !isIns (byt s.data.toList 3)) = !isIns (byt s.data.toList 3) := by
        by_cases h : s.data.toList.length = 3
        · rw [byt_out (by omega : s.data.toList.length ≤ 3)]; simp [show isIns 0 = false by decide]
        · rw [decide_eq_false h, Bool.false_or]
      rw [e3]
      cases hi : isIns (byt s.data.toList 3) with
      | true => exact ⟨fun h => (by cases h), fun _ => if_pos (.inr (.inr (.inr rfl)))⟩
      | false =>
        refine ⟨fun _ => ⟨if_neg ?_, rfl, by show (3 : Int) ≤ _; omega⟩, fun h => by cases h⟩
        rintro (h | h | h | h)
        · exact hc (.inr (.inl h))
        · exact hc (.inr (.inr (.inl h)))
        · exact hc (.inr (.inr (.inr h)))
        · cases h
  have hd2 : ¬ (isDig (byt s.data.toList 0) = true ∨ byt s.data.toList 0 = 39) := fun h => h.elim hd h39
  have hdf : isDig (byt s.data.toList 0) = false := by simpa using hd
  by_cases h34 : byt s.data.toList 0 = 34
  · have e : rone s = (3, 0, quoX [] s 1, quoN s 1, quoO s 1) := by unfold rone; rw [if_neg h59, if_neg hd2, if_pos h34]
    have hn : nextT s.data.toList = (quo (s.data.toList.drop 1)).map fun q => (⟨3, 0, q.1⟩, q.2 + 1) := by unfold nextT; rw [h34]; rfl
    rw [e, hn]
    unfold quoX quoN quoO
    have hr : restB s 1 = s.data.toList.drop 1 := rfl
    rw [hr]
    cases hq : quo (s.data.toList.drop 1) with
    | none => exact ⟨fun h => (by cases h), fun _ => rfl⟩
    | some q =>
      have hle := quo_le _ _ q.1 q.2 (Nat.le_refl _) hq
      rw [List.length_drop] at hle
      refine ⟨fun _ => ⟨?_, by show (1 + (q.2 : Int)) = (((1 + (q.2 : Int)).toNat : Nat) : Int); omega, by show 1 + (q.2 : Int) ≤ _; omega⟩, fun h => by cases h⟩
      show some ((⟨3, 0, q.1⟩ : Tok), q.2 + 1) = some (⟨3, 0, (rowsStr ([] ++ q.1.map fun c => [Value.int .u8 (c.toNat : Int)])).data.toList⟩, (1 + (q.2 : Int)).toNat)
      rw [List.nil_append, rows_bs, bs_data, show (1 + (q.2 : Int)).toNat = q.2 + 1 by omega]
  by_cases h37 : byt s.data.toList 0 = 37
  · have e : rone s = (5, 0, bs ((s.data.toList.take (regI s 1).toNat).drop 1), regI s 1, decide (1 < regI s 1)) := by unfold rone; rw [if_neg h59, if_neg hd2, if_neg h34, if_pos h37]
    have hn : nextT s.data.toList = if isLet (byt s.data.toList 1) = true then let m := 1 + ((s.data.toList.drop 1).takeWhile isReg).length; some (⟨5, 0, (s.data.toList.take m).drop 1⟩, m) else none := by unfold nextT; rw [h37]; rfl
    have hb := regI_le h1
    rw [e, hn]
    by_cases hl : isLet (byt s.data.toList 1) = true
    · have hlen : 1 < s.data.toList.length := byt_pos (by intro h; rw [h] at hl; revert hl; decide)
      have hg : regI s 1 = ((1 + ((s.data.toList.drop 1).takeWhile isReg).length : Nat) : Int) := by
        have hb1 : byt s.data.toList 1 = s.data.toList[1] := by unfold byt; rw [getD_in _ _ hlen]
        have hrg : isReg s.data.toList[1] = true := by unfold isReg; rw [← hb1, hl]; rfl
        unfold regI
        rw [if_neg (by decide), if_pos ⟨by omega, hl⟩]
        unfold twI
        rw [List.drop_eq_getElem_cons hlen, List.takeWhile_cons_of_pos hrg, List.length_cons]
        show (1 : Int) + 1 + ((((s.data.toList.drop 2).takeWhile isReg).length : Nat) : Int) = ((1 + (((s.data.toList.drop 2).takeWhile isReg).length + 1) : Nat) : Int)
        omega
      rw [if_pos hl, hg]
      refine ⟨fun _ => ⟨?_, rfl, by rw [← hg]; exact hb.2⟩, fun h => ?_⟩
      · rw [Int.toNat_natCast, bs_data]
      · have h : decide ((1 : Int) < ((1 + ((s.data.toList.drop 1).takeWhile isReg).length : Nat) : Int)) = false := h
        have h := of_decide_eq_false h
        have hb1 : byt s.data.toList 1 = s.data.toList[1] := by unfold byt; rw [getD_in _ _ hlen]
        have hrg : isReg s.data.toList[1] = true := by unfold isReg; rw [← hb1, hl]; rfl
        rw [List.drop_eq_getElem_cons hlen, List.takeWhile_cons_of_pos hrg, List.length_cons] at h
        omega
    · have hg : regI s 1 = 1 := by unfold regI; rw [if_neg (by decide), if_neg (fun h => hl h.2)]
      rw [if_neg hl, hg]
      exact ⟨fun h => (by cases h), fun _ => rfl⟩
  by_cases hi : isIns (byt s.data.toList 0) = true
  · have e : rone s = (1, 0, bs (s.data.toList.take (s.data.toList.takeWhile isIns).length), ((s.data.toList.takeWhile isIns).length : Int), decide ((s.data.toList.takeWhile isIns).length ≤ 255)) := by
      unfold rone; rw [if_neg h59, if_neg hd2, if_neg h34, if_neg h37, if_pos hi]
    have hf : isFst (byt s.data.toList 0) = true := by unfold isIns at hi; rw [hdf, Bool.or_false] at hi; exact hi
    have hn : nextT s.data.toList = if (s.data.toList.takeWhile isIns).length ≤ 255 then some (⟨1, 0, s.data.toList.take (s.data.toList.takeWhile isIns).length⟩, (s.data.toList.takeWhile isIns).length) else none := by
      unfold nextT; simp only [hf, if_true]
    have hle := tw_le isIns s.data.toList
    rw [e, hn]
    by_cases hc : (s.data.toList.takeWhile isIns).length ≤ 255
    · rw [if_pos hc]
      exact ⟨fun _ => ⟨rfl, rfl, by show ((s.data.toList.takeWhile isIns).length : Int) ≤ _; omega⟩, fun h => absurd hc (of_decide_eq_false h)⟩
    · rw [if_neg hc]
      exact ⟨fun h => absurd (of_decide_eq_true h) hc, fun _ => rfl⟩
  · have e : rone s = (4, 0, bs (s.data.toList.take (sgnT s.data.toList)), (sgnT s.data.toList : Int), decide (0 < sgnT s.data.toList)) := by
      unfold rone; rw [if_neg h59, if_neg hd2, if_neg h34, if_neg h37, if_neg hi]
    have hf : isFst (byt s.data.toList 0) = false := by
      cases h : isFst (byt s.data.toList 0) with
      | false => rfl
      | true => exact absurd (by unfold isIns; rw [h]; rfl) hi
    have hn : nextT s.data.toList = if (byt s.data.toList 0 = 60 ∨ byt s.data.toList 0 = 62) ∧ byt s.data.toList 1 = byt s.data.toList 0 then some (⟨4, 0, s.data.toList.take 2⟩, 2) else if signs.contains (byt s.data.toList 0) = true then some (⟨4, 0, s.data.toList.take 1⟩, 1) else none := by
      unfold nextT; simp only [hf, hdf, Bool.false_eq_true, if_false]
      rw [if_neg h37, if_neg h39, if_neg h34, if_neg h59]
    have hsg := sgnT_le s.data.toList (by omega)
    rw [e, hn]
    by_cases hc : (byt s.data.toList 0 = 60 ∨ byt s.data.toList 0 = 62) ∧ byt s.data.toList 1 = byt s.data.toList 0
    · have hlen : 1 < s.data.toList.length := byt_pos (by rw [hc.2]; rcases hc.1 with h | h <;> rw [h] <;> decide)
      have es : sgnT s.data.toList = 2 := by
        unfold sgnT
        rw [if_pos ⟨hlen, by rcases hc.1 with h | h <;> rw [hc.2, h] <;> simp⟩]
      rw [if_pos hc, es]
      exact ⟨fun _ => ⟨rfl, rfl, by show (2 : Int) ≤ _; omega⟩, fun h => by cases h⟩
    · have es : sgnT s.data.toList = if signs.contains (byt s.data.toList 0) = true then 1 else 0 := by
        unfold sgnT
        rw [if_neg]
        rintro ⟨_, h | h⟩
        · exact hc ⟨.inl h.1, by rw [h.1, h.2]⟩
        · exact hc ⟨.inr h.1, by rw [h.1, h.2]⟩
      rw [if_neg hc, es]
      by_cases hk : signs.contains (byt s.data.toList 0) = true
      · rw [if_pos hk, if_pos hk]
        exact ⟨fun _ => ⟨rfl, rfl, by show (1 : Int) ≤ _; omega⟩, fun h => by cases h⟩
      · rw [if_neg hk, if_neg hk]
        exact ⟨fun h => (by cases h), fun _ => rfl⟩
end Go.Proofs.YtfjldllegmfooaaDoor.Lx
end

section
/- The document's scanner: lines and texts are the program's. No condition. -/
set_option maxRecDepth 100000
namespace Go.Proofs.YtfjldllegmfooaaDoor.Lx
open Go.RowKit Go.IntWalk Go.Proofs.YtfjldllegmfooaaDoor.X

theorem lineX_none {l : Bs} (h0 : l ≠ []) (h1 : ¬ (byt l 0 = 32 ∨ byt l 0 = 9)) (h2 : byt l 0 ≠ 35) (h : nextT l = none) : lineX l = none := by
  cases l with
  | nil => exact absurd rfl h0
  | cons c r =>
    have h1 : ¬ (c = 32 ∨ c = 9) := h1
    have h2 : ¬ c = 35 := h2
    unfold lineX
    rw [List.length_cons, lineF, if_neg h1, if_neg h2, h]
theorem good_rlL : Lib.Good Tryd.prog LrlL := lib_loop good_ro 2 "ref.go:191" (by kernel_rfl) lRlL 1000 fun σ α rest hp => by
  refine (rll_round σ α rest).mpr ?_
  have hp : (σ.R 4).length + (σ.S 0).size ≤ 65536 := hp
  intro x0 x1 x2 x3 x4 x5 x6 x7 x8 x9 x10 x11 x12 x13 x14 x15
  have hL := data_len (σ.S 0)
  have e0 : x0 = !decide ((σ.S 0).data.toList = []) := by
    show (!((σ.S 0).toList == [])) = _
    rw [ByteArray.toList_eq]; congr 1
    rw [Bool.eq_iff_iff, beq_iff_eq, decide_eq_true_iff]
  have b35 : (x2 == 35) = decide (byt (σ.S 0).data.toList 0 = 35) := bytZ _ 0 35 (by decide)
  have e3 : x3 = (!decide ((σ.S 0).data.toList = []) && !decide (byt (σ.S 0).data.toList 0 = 35)) := by
    show (bif x0 then !(x2 == 35) else false) = _
    rw [b35, e0]
    cases decide ((σ.S 0).data.toList = []) <;> rfl
  have e5 : x5 = decide (byt (σ.S 0).data.toList 0 = 32 ∨ byt (σ.S 0).data.toList 0 = 9) := by
    have a : (x2 == 32) = decide (byt (σ.S 0).data.toList 0 = 32) := bytZ _ 0 32 (by decide)
    have b : (x2 == 9) = decide (byt (σ.S 0).data.toList 0 = 9) := bytZ _ 0 9 (by decide)
    show (bif x2 == 32 then true else x2 == 9) = _
    rw [a, b]
    by_cases h : byt (σ.S 0).data.toList 0 = 32 <;> by_cases h' : byt (σ.S 0).data.toList 0 = 9 <;> simp [h, h']
  have fin : lineX (σ.S 0).data.toList = some [] → true = true ∧ (tksO (σ.S 0) = true → Ex.exit 0 = Ex.exit 0 ∧ true = true ∧ x11 ∧ x6 ∧ σ.R 4 = x9) ∧ (tksO (σ.S 0) = false → Ex.ret = Ex.exit 0 ∧ true = true ∧ False) := fun h1 => by
    have t1 : tksO (σ.S 0) = true := by show (lineX _).isSome = _; rw [h1]; rfl
    have t2 : x9 = σ.R 4 := by
      show (match lineX (σ.S 0).data.toList with | none => _ | some q => _) = _
      rw [h1]; simp
    exact ⟨rfl, fun _ => ⟨rfl, rfl, ⟨trivial, rfl⟩, rfl, t2.symm⟩, fun h => by rw [t1] at h; cases h⟩
  refine ⟨rfl, fun h0 => ?_, fun h3 => ?_, fun h3 => fin ?_⟩
  · rw [e0] at h0
    have hne : (σ.S 0).data.toList ≠ [] := by simpa using h0
    have := List.length_pos_iff.2 hne
    exact ⟨Int.le_refl _, by omega⟩
  · rw [e3] at h3
    simp only [Bool.and_eq_true, Bool.not_eq_true', decide_eq_false_iff_not] at h3
    obtain ⟨hne, h35⟩ := h3
    have hpos := List.length_pos_iff.2 hne
    have hx1 : x1 := ⟨Int.le_refl _, by omega⟩
    refine ⟨hx1, fun _ => hx1, fun h5 => ?_, fun h5 => ⟨⟨trivial, by omega, by omega⟩, fun ho => ?_, fun ho => ?_⟩⟩
    · rw [e5] at h5
      obtain ⟨s1, _⟩ := tk_skip hne (of_decide_eq_true h5)
      have c1 : x7.data.toList = (σ.S 0).data.toList.drop 1 := by show ((σ.S 0).extract 1 (σ.S 0).size).data.toList = _; rw [ext_r, bs_data]
      have c2 : x8 = (σ.S 0).size - 1 := by show x7.size = _; rw [← data_len, c1, List.length_drop, hL]
      have t1 : tksO x7 = tksO (σ.S 0) := by show (lineX _).isSome = (lineX _).isSome; rw [c1, s1]
      have t2 : tksR (σ.R 4) (σ.I 1) x7 = x9 := by
        show (match lineX _ with | none => _ | some q => _) = (match lineX _ with | none => _ | some q => _)
        rw [c1, s1]
      exact ⟨⟨by decide, by omega⟩, rfl, rfl, ⟨trivial, rfl⟩, by omega, by omega, by rw [t1, t2], rfl⟩
    · rw [e5] at h5
      have hn := (ref_one (s := σ.S 0) (by omega) (by omega)).2 (by simpa using ho)
      have t1 : tksO (σ.S 0) = false := by show (lineX _).isSome = _; rw [lineX_none hne (of_decide_eq_false h5) h35 hn]; rfl
      exact ⟨rfl, fun h => (by rw [t1] at h; cases h), fun _ => ⟨rfl, rfl, ⟨trivial, rfl⟩, rfl⟩⟩
    · rw [e5] at h5
      obtain ⟨hn, hN, hNs⟩ := (ref_one (s := σ.S 0) (by omega) (by omega)).1 (by simpa using ho)
      have hpos' := next_pos hn
      have s1 := lineX_next hn
      have c1 : x14.data.toList = (σ.S 0).data.toList.drop (roN (σ.S 0)).toNat := by show ((σ.S 0).extract _ (σ.S 0).size).data.toList = _; rw [ext_r, bs_data]
      have c2 : x15 = (σ.S 0).size - (roN (σ.S 0)).toNat := by show x14.size = _; rw [← data_len, c1, List.length_drop, hL]
      have hl : x13 = (σ.R 4).length + 1 := by show (σ.R 4 ++ [_]).length = _; simp
      have t1 : tksO x14 = tksO (σ.S 0) := by show (lineX _).isSome = (lineX _).isSome; rw [c1, s1, Option.isSome_map]
      have t2 : tksR x12 (σ.I 1) x14 = x9 := by
        show (match lineX _ with | none => _ | some q => _) = (match lineX _ with | none => _ | some q => _)
        rw [c1, s1]
        cases hq : lineX ((σ.S 0).data.toList.drop (roN (σ.S 0)).toNat) with
        | none => rfl
        | some q =>
          show (σ.R 4 ++ [_]) ++ q.map (tokR (σ.I 1)) = σ.R 4 ++ (_ :: q).map (tokR (σ.I 1))
          rw [List.append_assoc, List.map_cons]
          have hb : bs (roX (σ.S 0)).data.toList = roX (σ.S 0) := bs_of _
          simp only [tokR, hb, List.singleton_append]
      exact ⟨⟨rfl, trivial, by omega, by omega⟩, ⟨by omega, hNs⟩, rfl, rfl, ⟨trivial, rfl⟩, by omega, by omega, by rw [t1, t2], rfl⟩
  · rw [e3] at h3
    by_cases hne : (σ.S 0).data.toList = []
    · rw [hne]; rfl
    · rw [decide_eq_false hne] at h3
      exact (tk_note (by simpa using h3)).1
theorem good_rl : Lib.Good Tryd.prog Lrl := lib_con good_rlL Tryd.func37 cRl 1000 fun σ α hp => by
  rw [rl_goal]
  have hp : (σ.S 0).size ≤ 65536 := hp
  intro x0 x1 x2 x3 x4 x5 x6
  have hL := data_len (σ.S 0)
  refine ⟨⟨⟨trivial, rfl⟩, by omega⟩, fun h => ?_, fun h => ?_⟩
  · have h : (lineX (σ.S 0).data.toList).isSome = true := h
    obtain ⟨q, hq⟩ := Option.isSome_iff_exists.1 h
    have hlen := lineF_len _ _ _ hq
    have e0 : x0 = q.map (tokR (σ.I 1)) := by
      show (match lineX (σ.S 0).data.toList with | none => _ | some q => _) = _
      rw [hq]; rfl
    have e1 : x1 = q.length := by show x0.length = _; rw [e0, List.length_map]
    have el := lineT_X hq
    have eo : lnO (σ.S 0) = true := by unfold lnO; rw [el]; rfl
    have er : lnR (σ.I 1) (σ.S 0) = (endsT q).map (tokR (σ.I 1)) := by unfold lnR; rw [el]; rfl
    have e3 : x3 = decide (q ≠ []) := decide_eq_decide.2 (by show x2 > 0 ↔ _; rw [show x2 = ((q.length : Nat) : Int) from congrArg _ e1]; cases q <;> simp)
    have e6 : x6 = q.length + 1 := by show (x0 ++ [_]).length = _; rw [e0]; simp
    refine ⟨fun h3 => ?_, fun h3 => ?_⟩
    · rw [e3] at h3
      have hne : q ≠ [] := of_decide_eq_true h3
      refine ⟨⟨rfl, trivial, by omega, by omega⟩, trivial, rfl, rfl, ⟨trivial, rfl, ?_⟩, eo.symm⟩
      rw [er]
      show x0 ++ [_] = _
      rw [e0]
      cases q with
      | nil => exact absurd rfl hne
      | cons a q => rw [endsT, List.map_append]; rfl
    · rw [e3] at h3
      have hn : q = [] := by simpa using h3
      refine ⟨trivial, rfl, rfl, ⟨trivial, rfl, ?_⟩, eo.symm⟩
      rw [er, e0, hn]; rfl
  · have h : (lineX (σ.S 0).data.toList).isSome = false := h
    have hq : lineX (σ.S 0).data.toList = none := by simpa using h
    have el := lineT_N hq
    exact ⟨trivial, rfl, rfl, ⟨trivial, rfl, by unfold lnR; rw [el]; rfl⟩, by unfold lnO; rw [el]; rfl⟩
theorem good_raL : Lib.Good Tryd.prog LraL := lib_loop good_rl 8 "ref.go:236" (by kernel_rfl) lRaL 1000 fun σ α rest hp => by
  refine (ral_round σ α rest).mpr ?_
  obtain ⟨hm, h0, h1, hb⟩ := (show RaP (σ.R 4) (σ.R 0) (σ.I 8) from hp)
  intro x0 x1 x2 x3 x4 x5 x6 x7 x8 x9 x10 x11 x12 x13 x14 x15
  refine ⟨rfl, fun h => ?_, fun h => ?_⟩
  · have hlt : σ.I 8 < (σ.R 0).length := of_decide_eq_true h
    have hlt' : (σ.I 8).toNat < (σ.R 0).length := by omega
    have e8 : x8 = σ.I 8 + 1 := i64_in _ (by omega)
    have hd := strs_at hlt'
    rw [hd, bulk_cons, data_len] at hb
    have hx2 : x2.size = (asS (((σ.R 0).getD (σ.I 8).toNat []).getD 0 undef)).size := rfl
    have hz : x2.size ≤ 65536 := by omega
    refine ⟨⟨h0, by omega, Nat.le_refl _⟩, hlt', ⟨trivial, hz⟩, fun h2 => ?_, fun h2 => ?_⟩
    · have hq : lineT x2.data.toList = none := by
        have : (!lnO x2) = true := h2
        unfold lnO at this; simpa using this
      have ht := lsT_bad hlt' hq
      refine ⟨rfl, fun h => ?_, fun _ => ⟨rfl, rfl, ⟨⟨⟨trivial, rfl⟩, ?_⟩, rfl⟩, rfl, rfl⟩⟩
      · have h : lsO (σ.R 0) (σ.I 8) = true := h
        unfold lsO at h; rw [ht] at h; cases h
      · show x8 = lsN _ _
        unfold lsN; rw [ht, e8]
        show _ = (((σ.I 8).toNat + 1 : Nat) : Int); omega
    · have hs : (lineT x2.data.toList).isSome = true := by
        have : (!lnO x2) = false := h2
        unfold lnO at this; simpa using this
      obtain ⟨ts, hq⟩ := Option.isSome_iff_exists.1 hs
      have ht := lsT_next h0 hlt' hq
      have hlen := lineT_len hq
      rw [data_len] at hlen
      have e10 : x11 = ts.map (tokR x8) := by show lnR _ _ = _; unfold lnR; rw [hq]; rfl
      have e11 : x12 = ts.length := by show x11.length = _; rw [e10, List.length_map]
      have e12 : x13 = σ.R 4 ++ ts.map (tokR x8) := by show σ.R 4 ++ List.take x12 x11 = _; rw [e10, e11, List.take_of_length_le (by simp)]
      have e13 : x14 = (σ.R 4).length + ts.length := by show x13.length = _; rw [e12]; simp
      have hz' : x2.size + 1 + bulk ((strsOf (σ.R 0)).drop ((σ.I 8).toNat + 1)) + (σ.R 4).length ≤ 65537 := by omega
      have e7' : x8.toNat = (σ.I 8).toNat + 1 := by omega
      have f1 : lsO (σ.R 0) x8 = lsO (σ.R 0) (σ.I 8) := by
        unfold lsO; rw [ht, e8]; cases lsT (σ.R 0) (σ.I 8 + 1) <;> rfl
      have f2 : lsN (σ.R 0) x8 = lsN (σ.R 0) (σ.I 8) := by
        unfold lsN; rw [ht, e8]; cases lsT (σ.R 0) (σ.I 8 + 1) <;> rfl
      have f3 : lsR x13 (σ.R 0) x8 = x15 := by
        show _ = lsR _ _ _
        unfold lsR; rw [ht, e12, e8]
        cases lsT (σ.R 0) (σ.I 8 + 1) with
        | error m => rfl
        | ok r =>
          show (σ.R 4 ++ ts.map (tokR (σ.I 8 + 1))) ++ toksR r = σ.R 4 ++ toksR (ts.map (fun t => ((σ.I 8).toNat + 1, t)) ++ r)
          unfold toksR
          rw [List.map_append, List.map_map, List.append_assoc]
          congr 2
          refine List.map_congr_left fun t _ => ?_
          show tokR (σ.I 8 + 1) t = tokR (((σ.I 8).toNat + 1 : Nat) : Int) t
          rw [show (((σ.I 8).toNat + 1 : Nat) : Int) = σ.I 8 + 1 by omega]
      exact ⟨⟨rfl, Nat.le_refl _, by omega, by omega⟩, rfl, rfl, ⟨⟨trivial, rfl⟩, rfl⟩, ⟨hm, by omega, by omega, by rw [e7']; show x14 + _ ≤ _; omega⟩, by omega, by rw [f1, f2, f3], rfl⟩
  · have hge : ¬ σ.I 8 < (σ.R 0).length := of_decide_eq_false h
    have ht : lsT (σ.R 0) (σ.I 8) = .ok [] := lsT_stop (by omega)
    refine ⟨rfl, fun _ => ⟨rfl, rfl, ⟨⟨trivial, rfl⟩, rfl, ?_⟩, rfl, rfl⟩, fun h => ?_⟩
    · show _ = lsR _ _ _
      unfold lsR; rw [ht]; simp [toksR]
    · have h : lsO (σ.R 0) (σ.I 8) = false := h
      unfold lsO at h; rw [ht] at h; cases h
theorem good_ra : Lib.Good Tryd.prog Lra := lib_con good_raL Tryd.func13 cRa 1000 fun σ α hp => by
  rw [ra_goal]
  intro x0 x1 x2 x3 x4 x5
  have hL := data_len (σ.S 0)
  have g2 : allT (σ.S 0).data.toList = .error (0, 6) → x2 := fun h => by
    refine ⟨trivial, rfl, rfl, ⟨⟨trivial, rfl, ?_⟩, ?_⟩, ?_⟩
    · show [] = allR _; unfold allR; rw [h]
    · show 0 = allL _; unfold allL; rw [h]; rfl
    · show 6 = allE _; unfold allE; rw [h]; rfl
  refine ⟨fun h => g2 ?_, fun h => ?_⟩
  · have h : (σ.S 0).size > 65536 := by have := of_decide_eq_true h; omega
    unfold allT; rw [if_pos (by omega)]
  · have hs : (σ.S 0).size ≤ 65536 := by have := of_decide_eq_false h; omega
    have el : (lnsR (σ.S 0)).length = (lines (σ.S 0).data.toList).length := by unfold lnsR rowsS; rw [List.length_map]
    have hlb := lines_bulk (l := (σ.S 0).data.toList) (by omega)
    have hlg := bulk_ge (lines (σ.S 0).data.toList)
    have es : strsOf (lnsR (σ.S 0)) = lines (σ.S 0).data.toList := by unfold lnsR; rw [strs_rows]
    have eT : lsT (lnsR (σ.S 0)) 0 = linesT 1 (lines (σ.S 0).data.toList) := by unfold lsT; rw [es]; rfl
    refine ⟨⟨trivial, by omega⟩, fun h10 => g2 ?_, fun h10 => ?_⟩
    · have h10 : ((lnsR (σ.S 0)).length : Int) > 4000 := of_decide_eq_true h10
      unfold allT; rw [if_neg (by omega), if_pos (by omega)]
    · have h10 : ¬ ((lnsR (σ.S 0)).length : Int) > 4000 := of_decide_eq_false h10
      have ea : allT (σ.S 0).data.toList = match lsT (lnsR (σ.S 0)) 0 with | .error n => .error (n, 100) | .ok r => .ok r := by
        unfold allT; rw [if_neg (by omega), if_neg (by omega), eT]
        first | done | (cases linesT 1 (lines (σ.S 0).data.toList) <;> rfl)
      refine ⟨⟨⟨⟨trivial, rfl⟩, rfl⟩, by omega, Int.le_refl _, Int.natCast_nonneg _, by show 0 + _ ≤ _; rw [show (0 : Int).toNat = 0 from rfl, List.drop_zero, es]; omega⟩, fun ho => ?_, fun ho => ?_⟩
      · have ho : lsO (lnsR (σ.S 0)) 0 = true := ho
        unfold lsO at ho
        cases hq : lsT (lnsR (σ.S 0)) 0 with
        | error m => rw [hq] at ho; cases ho
        | ok r =>
          rw [hq] at ea
          refine ⟨trivial, rfl, rfl, ⟨⟨trivial, rfl, ?_⟩, ?_⟩, ?_⟩
          · show lsR [] _ 0 = allR _; unfold allR lsR; rw [ea, hq]; rfl
          · show 0 = allL _; unfold allL; rw [ea]
          · show 0 = allE _; unfold allE; rw [ea]
      · have ho : lsO (lnsR (σ.S 0)) 0 = false := ho
        unfold lsO at ho
        cases hq : lsT (lnsR (σ.S 0)) 0 with
        | ok r => rw [hq] at ho; cases ho
        | error m =>
          rw [hq] at ea
          refine ⟨trivial, rfl, rfl, ⟨⟨trivial, rfl, ?_⟩, ?_⟩, ?_⟩
          · show [] = allR _; unfold allR; rw [ea]
          · show lsN _ 0 = allL _; unfold allL lsN; rw [ea, hq]
          · show 100 = allE _; unfold allE; rw [ea]; rfl
end Go.Proofs.YtfjldllegmfooaaDoor.Lx
end

section
/- LexerCuts: contracts. No condition. -/
namespace Go.Proofs.YtfjldllegmfooaaDoor.Lx
open Go.RowKit Go.IntWalk Go.Proofs.YtfjldllegmfooaaDoor.X

/-- Two rows of tokens that are told the same. -/
def rowSame (ln : Bool) (a b : List Value) : Bool := !(bif asI (a.getD 0 undef) != asI (b.getD 0 undef) then true else bif asI (a.getD 2 undef) != asI (b.getD 2 undef) then true else bif !((asS (a.getD 3 undef)).toList == (asS (b.getD 3 undef)).toList) then true else bif ln then asI (a.getD 1 undef) != asI (b.getD 1 undef) else false)
def sameFrom (ln : Bool) (A B : List (List Value)) (i : Int) : Bool := ((A.drop i.toNat).zip (B.drop i.toNat)).all fun q => rowSame ln q.1 q.2
def SmP (A B : List (List Value)) (i : Int) : Prop := A.length = B.length ∧ A.length ≤ 1099511627776 ∧ 0 ≤ i ∧ i ≤ A.length
def cSmL : Con where
  ps := [.r 0 32 tokK, .r 4 42 tokK, .b 8, .i .i64 9]
  bl := []
  top := 8
  pre := fun σ => SmP (σ.R 0) (σ.R 4) (σ.I 9)
  post := fun σ => .ite (sameFrom (σ.B 8) (σ.R 0) (σ.R 4) (σ.I 9))
    (.leaf (.exit 0) [(0, .k 0 (σ.R 0).length), (1, .k 4 (σ.R 4).length), (2, .gb (σ.B 8))] [] [])
    (.leaf .ret [(0, .k 0 (σ.R 0).length), (1, .k 4 (σ.R 4).length), (2, .gb (σ.B 8)), (6, .gb false)] [] [])
noncomputable def bSmL : Code := loopAt Tryd.prog 4 "law.go:23"
noncomputable def lSmL : LCon := { c := cSmL, sl := [0, 1, 2, 7], nt := Tryd.f14.ntmps, hv := nubN (writes bSmL) [], meas := fun σ => ((σ.R 0).length - σ.I 9).toNat }
noncomputable def LsmL : Lib := { Lra with ls := (4, "law.go:23", lSmL) :: Lra.ls }
def sameF (ln : Bool) (A B : List (List Value)) : Bool := decide (A.length = B.length) && sameFrom ln A B 0
def cSm : Con where
  ps := [.r 0 32 tokK, .r 4 42 tokK, .b 8]
  bl := []
  top := 8
  pre := fun σ => (σ.R 0).length ≤ 1099511627776 ∧ (σ.R 4).length ≤ 1099511627776
  post := fun σ => .leaf .ret [(0, .gb (sameF (σ.B 8) (σ.R 0) (σ.R 4)))] [] []
noncomputable def Lsm : Lib := { LsmL with cs := (14, cSm) :: LsmL.cs }
/-- All tokens from number i on turned. -/
def fill9 (xs : List (List Value)) (i : Int) : List (List Value) := xs.take i.toNat ++ List.replicate (xs.length - i.toNat) [Value.int .i64 9, Value.int .i64 0, Value.int .i64 0, Value.string ByteArray.empty]
def CtP (xs : List (List Value)) (i : Int) : Prop := xs.length ≤ 1099511627776 ∧ 0 ≤ i ∧ i ≤ xs.length ∧ ∀ r ∈ xs, r.length = 4
def cCtL : Con where
  ps := [.r 0 32 tokK, .i .i64 4]
  bl := []
  top := 4
  pre := fun σ => CtP (σ.R 0) (σ.I 4)
  post := fun σ => .leaf (.exit 0) [(3, .gr 4 32 tokK (fill9 (σ.R 0) (σ.I 4)))] [] [0]
noncomputable def bCtL : Code := loopAt Tryd.prog 6 "law.go:38"
noncomputable def lCtL : LCon := { c := cCtL, sl := [3, 9], nt := Tryd.f3.ntmps, hv := nubN (writes bCtL) [], meas := fun σ => ((σ.R 0).length - σ.I 4).toNat, mvr := [0] }
noncomputable def LctL : Lib := { Lsm with ls := (6, "law.go:38", lCtL) :: Lsm.ls }
def aCt : List ArgK := [(false, [.str])]
end Go.Proofs.YtfjldllegmfooaaDoor.Lx
end

section
/- Written by vc.py: what is to be shown, read out. No condition. -/
set_option maxRecDepth 1000000
set_option maxHeartbeats 0
namespace Go.Proofs.YtfjldllegmfooaaDoor.Lx
open Go.RowKit Go.Proofs.YtfjldllegmfooaaDoor.X
theorem sml_round (σ : Dt) (α : At') (rest : Nat → Value) : (lSmL.goal Tryd.prog Lra.mk' 1000 bSmL σ α rest) = (
let x0 := σ.I 9 < (↑(σ.R 0).length : Int);
let x1 := decide x0;
let x2 := (0 : Int) ≤ σ.I 9 ∧ x0 ∧ (σ.R 0).length ≤ (σ.R 0).length;
let x3 := (σ.I 9).toNat < (σ.R 0).length;
let x4 := (0 : Int) ≤ σ.I 9 ∧ σ.I 9 < (↑(σ.R 4).length : Int) ∧ (σ.R 4).length ≤ (σ.R 4).length;
let x5 := (σ.I 9).toNat < (σ.R 4).length;
let x6 := asI (((σ.R 0).getD (σ.I 9).toNat []).getD 0 (Value.tuple #[])) != asI (((σ.R 4).getD (σ.I 9).toNat []).getD 0 (Value.tuple #[]));
let x7 := asI (((σ.R 0).getD (σ.I 9).toNat []).getD 2 (Value.tuple #[])) != asI (((σ.R 4).getD (σ.I 9).toNat []).getD 2 (Value.tuple #[]));
let x8 := !(asS (((σ.R 0).getD (σ.I 9).toNat []).getD 3 (Value.tuple #[]))).toList == (asS (((σ.R 4).getD (σ.I 9).toNat []).getD 3 (Value.tuple #[]))).toList;
let x9 := bif x6 then true else bif x7 then true else bif x8 then true else bif σ.B 8 then asI (((σ.R 0).getD (σ.I 9).toNat []).getD 1 (Value.tuple #[])) != asI (((σ.R 4).getD (σ.I 9).toNat []).getD 1 (Value.tuple #[])) else false;
let x10 := sameFrom (σ.B 8) (σ.R 0) (σ.R 4) (σ.I 9);
let x13 := (σ.R 0).length = (σ.R 0).length;
let x14 := (σ.R 4).length = (σ.R 4).length;
let x15 := (True ∧ x13) ∧ x14;
let x16 := x15 ∧ σ.B 8 = σ.B 8;
let x17 := x13 ∧ σ.R 0 = σ.R 0;
let x18 := x14 ∧ σ.R 4 = σ.R 4;
let x19 := IntKind.i64.wrap (σ.I 9 + (1 : Int));
true = true ∧ (x1 = true → x2 ∧ x3 ∧ x4 ∧ x5 ∧ (x6 = false → x2 ∧ x3 ∧ x4 ∧ x5 ∧ (x7 = false → x2 ∧ x3 ∧ x4 ∧ x5 ∧ (x8 = false → σ.B 8 = true → x2 ∧ x3 ∧ x4 ∧ x5))) ∧ (x9 = true → true = true ∧ (x10 = true → Ex.exit 0 = Ex.ret ∧ true = true ∧ False) ∧ (x10 = false → Ex.ret = Ex.ret ∧ true = true ∧ ((x16 ∧ false =
    false) ∧ x17) ∧ x18)) ∧ (x9 = false → true = true ∧ true = true ∧ x15 ∧ SmP (σ.R 0) (σ.R 4) x19 ∧ ((↑(σ.R 0).length : Int) - x19).toNat < ((↑(σ.R 0).length : Int) - σ.I 9).toNat ∧ Po.ite (sameFrom (σ.B 8) (σ.R 0) (σ.R 4) x19) (Po.leaf (Ex.exit 0) [(0, Pt.k 0 (σ.R 0).length), (1, Pt.k 4 (σ.R
    4).length), (2, Pt.gb (σ.B 8))] [] []) (Po.leaf Ex.ret [(0, Pt.k 0 (σ.R 0).length), (1, Pt.k 4 (σ.R 4).length), (2, Pt.gb (σ.B 8)), (6, Pt.gb false)] [] []) = Po.ite x10 (Po.leaf (Ex.exit 0) [(0, Pt.k 0 (σ.R 0).length), (1, Pt.k 4 (σ.R 4).length), (2, Pt.gb (σ.B 8))] [] []) (Po.leaf Ex.ret [(0,
    Pt.k 0 (σ.R 0).length), (1, Pt.k 4 (σ.R 4).length), (2, Pt.gb (σ.B 8)), (6, Pt.gb false)] [] []) ∧ asSt ([], [(0, (32 : TypeId), [PK.int IntKind.i64, PK.int IntKind.i64, PK.int IntKind.i64, PK.str], σ.R 0), (4, (42 : TypeId), [PK.int IntKind.i64, PK.int
    IntKind.i64, PK.int IntKind.i64, PK.str], σ.R 4)]) = ([], [(0, (32 : TypeId), [PK.int IntKind.i64, PK.int IntKind.i64, PK.int IntKind.i64, PK.str], σ.R 0), (4, (42 : TypeId), [PK.int IntKind.i64, PK.int IntKind.i64, PK.int IntKind.i64, PK.str], σ.R 4)]))) ∧ (x1
    = false → true = true ∧ (x10 = true → Ex.exit 0 = Ex.exit 0 ∧ true = true ∧ (x16 ∧ x17) ∧ x18) ∧ (x10 = false → Ex.ret = Ex.exit 0 ∧ true = true ∧ False))) := by kernel_rfl

theorem sm_goal (σ : Dt) (α : At') : (cSm.goal Tryd.prog LsmL.mk' 1000 Tryd.f14 σ α) = (
let x0 := (↑(σ.R 0).length : Int) != (↑(σ.R 4).length : Int);
let x1 := (σ.R 0).length = (σ.R 0).length;
let x2 := (σ.R 4).length = (σ.R 4).length;
(x0 = false → ((True ∧ x1) ∧ x2) ∧ SmP (σ.R 0) (σ.R 4) (0 : Int)) ∧ True ∧ Ex.ret = Ex.ret ∧ true = true ∧ ((True ∧ (bif x0 then false else bif sameFrom (σ.B 8) (σ.R 0) (σ.R 4) (0 : Int) then true else false) = sameF (σ.B 8) (σ.R 0) (σ.R 4)) ∧ x1 ∧ σ.R 0 = σ.R 0) ∧ x2 ∧ σ.R 4 = σ.R 4) := by kernel_rfl

theorem ctl_round (σ : Dt) (α : At') (rest : Nat → Value) : (lCtL.goal Tryd.prog Lsm.mk' 1000 bCtL σ α rest) = (
let x0 := σ.I 4 < (↑(σ.R 0).length : Int);
let x1 := decide x0;
let x2 := (σ.R 0).set (σ.I 4).toNat (setRow ((σ.R 0).getD (σ.I 4).toNat []) 0 [Value.int IntKind.i64 (9 : Int), Value.int IntKind.i64 (0 : Int), Value.int IntKind.i64 (0 : Int), Value.string (ByteArray.mk (#[]))]);
let x3 := x2.length;
let x4 := IntKind.i64.wrap (σ.I 4 + (1 : Int));
true = true ∧ (x1 = true → ((0 : Int) ≤ σ.I 4 ∧ x0 ∧ (σ.R 0).length ≤ (σ.R 0).length) ∧ (σ.I 4).toNat < (σ.R 0).length ∧ true = true ∧ true = true ∧ (True ∧ (σ.R 0).length = x3) ∧ CtP x2 x4 ∧ ((↑x3 : Int) - x4).toNat < ((↑(σ.R 0).length : Int) - σ.I 4).toNat ∧ Po.leaf (Ex.exit 0) [(3, Pt.gr 4
    (32 : TypeId) [PK.int IntKind.i64, PK.int IntKind.i64, PK.int IntKind.i64, PK.str] (fill9 x2 x4))] [] [0] = Po.leaf (Ex.exit 0) [(3, Pt.gr 4 (32 : TypeId) [PK.int IntKind.i64, PK.int IntKind.i64, PK.int IntKind.i64, PK.str] (fill9 (σ.R 0) (σ.I 4)))] [] [0] ∧ asSt ([],
    []) = ([], [])) ∧ (x1 = false → true = true ∧ Ex.exit 0 = Ex.exit 0 ∧ true = true ∧ True ∧ (σ.R 0).length = (σ.R 0).length ∧ σ.R 0 = fill9 (σ.R 0) (σ.I 4))) := by kernel_rfl

theorem cuts_goal (σ : Dt) (α : At') : ((run Tryd.prog (LctL.mk' fun _ _ _ _ => False) 3000 Tryd.f3 (argsV σ α aCt 0)).sat (hands Tryd.prog Tryd.f3 (.bool true))) = (
let x0 := (allR (σ.S 0)).length = (allR (σ.S 0)).length;
let x1 := True ∧ x0;
let x2 := (allR (σ.S 0)).length ≤ 1099511627776;
let x3 := (x1 ∧ x0) ∧ x2 ∧ x2;
let x4 := sameF true (allR (σ.S 0)) (allR (σ.S 0));
let x5 := !x4;
let x6 := allL (σ.S 0) != allL (σ.S 0);
let x7 := allE (σ.S 0) != allE (σ.S 0);
(True ∧ True) ∧ (True ∧ True) ∧ x3 ∧ (x5 = true → True ∧ Value.bool false = Value.bool true) ∧ (x5 = false → (x6 = true → True ∧ Value.bool false = Value.bool true) ∧ (x6 = false → (x7 = true → True ∧ Value.bool false = Value.bool true) ∧ (x7 = false → (x1 ∧ CtP (allR (σ.S 0)) (0 : Int)) ∧ (True ∧
    True) ∧ x3 ∧ (x4 = true → True ∧ Value.bool true = Value.bool true) ∧ (x4 = false → True ∧ Value.bool false = Value.bool true))))) := by kernel_rfl

end Go.Proofs.YtfjldllegmfooaaDoor.Lx
end

section
/- LexerCuts: for every text the law hands back true. No condition. -/
set_option maxRecDepth 100000
namespace Go.Proofs.YtfjldllegmfooaaDoor.Lx
open Go.RowKit Go.IntWalk Go.Proofs.YtfjldllegmfooaaDoor.X

theorem drop_getD {α : Type} (l : List α) (d : α) {i : Nat} (h : i < l.length) : l.drop i = l.getD i d :: l.drop (i + 1) := by rw [List.drop_eq_getElem_cons h, getD_in _ _ h]
theorem same_step {ln : Bool} {A B : List (List Value)} {i : Int} (h0 : 0 ≤ i) (h1 : i < A.length) (h2 : i < B.length) : sameFrom ln A B i = (rowSame ln (A.getD i.toNat []) (B.getD i.toNat []) && sameFrom ln A B (i + 1)) := by
  unfold sameFrom
  rw [drop_getD A [] (show i.toNat < A.length by omega), drop_getD B [] (show i.toNat < B.length by omega), List.zip_cons_cons, List.all_cons, show (i + 1).toNat = i.toNat + 1 by omega]
theorem good_smL : Lib.Good Tryd.prog LsmL := lib_loop good_ra 4 "law.go:23" (by kernel_rfl) lSmL 1000 fun σ α rest hp => by
  refine (sml_round σ α rest).mpr ?_
  obtain ⟨he, hz, h0, h1⟩ := (show SmP (σ.R 0) (σ.R 4) (σ.I 9) from hp)
  intro x0 x1 x2 x3 x4 x5 x6 x7 x8 x9 x10 x13 x14 x15 x16 x17 x18 x19
  refine ⟨rfl, fun h => ?_, fun h => ?_⟩
  · have hlt : σ.I 9 < (σ.R 0).length := of_decide_eq_true h
    have k2 : x2 := ⟨h0, hlt, Nat.le_refl _⟩
    have k3 : x3 := by show (σ.I 9).toNat < _; omega
    have k4 : x4 := ⟨h0, by omega, Nat.le_refl _⟩
    have k5 : x5 := by show (σ.I 9).toNat < _; omega
    have hs := same_step (ln := σ.B 8) h0 hlt (show σ.I 9 < (σ.R 4).length by omega)
    have e10 : x10 = (!x9 && sameFrom (σ.B 8) (σ.R 0) (σ.R 4) (σ.I 9 + 1)) := hs
    have e19 : x19 = σ.I 9 + 1 := i64_in _ (by omega)
    refine ⟨k2, k3, k4, k5, fun _ => ⟨k2, k3, k4, k5, fun _ => ⟨k2, k3, k4, k5, fun _ _ => ⟨k2, k3, k4, k5⟩⟩⟩, fun h9 => ?_, fun h9 => ?_⟩
    · rw [h9] at e10
      have e10 : x10 = false := e10
      exact ⟨rfl, fun h => (by rw [e10] at h; cases h), fun _ => ⟨rfl, rfl, ⟨⟨⟨⟨⟨trivial, rfl⟩, rfl⟩, rfl⟩, rfl⟩, rfl, rfl⟩, rfl, rfl⟩⟩
    · rw [h9] at e10
      have f1 : sameFrom (σ.B 8) (σ.R 0) (σ.R 4) x19 = x10 := by rw [e10, e19]; rfl
      exact ⟨rfl, rfl, ⟨⟨trivial, rfl⟩, rfl⟩, ⟨he, hz, by omega, by omega⟩, by omega, by rw [f1], rfl⟩
  · have hge : ¬ σ.I 9 < (σ.R 0).length := of_decide_eq_false h
    have e10 : x10 = true := by
      show sameFrom _ _ _ _ = true
      unfold sameFrom
      rw [List.drop_of_length_le (by omega)]; rfl
    exact ⟨rfl, fun _ => ⟨rfl, rfl, ⟨⟨⟨⟨trivial, rfl⟩, rfl⟩, rfl⟩, rfl, rfl⟩, rfl, rfl⟩, fun h => by rw [e10] at h; cases h⟩
theorem good_sm : Lib.Good Tryd.prog Lsm := lib_con good_smL Tryd.func14 cSm 1000 fun σ α hp => by
  rw [sm_goal]
  obtain ⟨hz, hz'⟩ := (show (σ.R 0).length ≤ 1099511627776 ∧ (σ.R 4).length ≤ 1099511627776 from hp)
  intro x0 x1 x2
  have e0 : x0 = !decide ((σ.R 0).length = (σ.R 4).length) := by
    show (!(((σ.R 0).length : Int) == ((σ.R 4).length : Int))) = _
    congr 1
    rw [Bool.eq_iff_iff, beq_iff_eq, decide_eq_true_iff]; omega
  refine ⟨fun h => ⟨⟨⟨trivial, rfl⟩, rfl⟩, ?_, hz, Int.le_refl _, Int.natCast_nonneg _⟩, trivial, rfl, rfl, ⟨⟨trivial, ?_⟩, rfl, rfl⟩, rfl, rfl⟩
  · rw [e0] at h
    have := of_decide_eq_true (by simpa using h : decide ((σ.R 0).length = (σ.R 4).length) = true)
    exact this
  · unfold sameF
    rw [e0]
    cases decide ((σ.R 0).length = (σ.R 4).length) <;> cases sameFrom (σ.B 8) (σ.R 0) (σ.R 4) 0 <;> rfl
theorem good_ctL : Lib.Good Tryd.prog LctL := lib_loop good_sm 6 "law.go:38" (by kernel_rfl) lCtL 1000 fun σ α rest hp => by
  refine (ctl_round σ α rest).mpr ?_
  obtain ⟨hz, h0, h1, hr⟩ := (show CtP (σ.R 0) (σ.I 4) from hp)
  intro x0 x1 x2 x3 x4
  refine ⟨rfl, fun h => ?_, fun h => ?_⟩
  · have hlt : σ.I 4 < (σ.R 0).length := of_decide_eq_true h
    have hl : (σ.I 4).toNat < (σ.R 0).length := by omega
    have e4 : x4 = σ.I 4 + 1 := i64_in _ (by omega)
    have e2 : x2 = (σ.R 0).set (σ.I 4).toNat [Value.int .i64 9, Value.int .i64 0, Value.int .i64 0, Value.string ByteArray.empty] := by
      show (σ.R 0).set _ (setRow _ 0 _) = _
      have h4 : ((σ.R 0).getD (σ.I 4).toNat []).length = 4 := by rw [getD_in _ _ hl]; exact hr _ (List.getElem_mem hl)
      have : setRow ((σ.R 0).getD (σ.I 4).toNat []) 0 [Value.int IntKind.i64 (9 : Int), Value.int IntKind.i64 (0 : Int), Value.int IntKind.i64 (0 : Int), Value.string (ByteArray.mk (#[]))] = [Value.int .i64 9, Value.int .i64 0, Value.int .i64 0, Value.string ByteArray.empty] := by
        unfold setRow
        rw [List.drop_of_length_le (by rw [h4]; decide)]; rfl
      rw [this]
    have e3 : x3 = (σ.R 0).length := by show x2.length = _; rw [e2, List.length_set]
    refine ⟨⟨h0, by omega, Nat.le_refl _⟩, hl, rfl, rfl, ⟨trivial, e3.symm⟩, ⟨by show x3 ≤ _; omega, by omega, by show x4 ≤ (x3 : Int); omega, fun r hm => ?_⟩, by omega, ?_, rfl⟩
    · rw [e2] at hm
      rcases List.mem_or_eq_of_mem_set hm with hm | rfl
      · exact hr r hm
      · rfl
    · have : fill9 x2 x4 = fill9 (σ.R 0) (σ.I 4) := by
        unfold fill9
        rw [show x2.length = (σ.R 0).length from e3, e4, show (σ.I 4 + 1).toNat = (σ.I 4).toNat + 1 by omega, e2, show (σ.R 0).length - (σ.I 4).toNat = ((σ.R 0).length - ((σ.I 4).toNat + 1)) + 1 by omega, List.replicate_succ, List.take_add_one, List.take_set_of_le (Nat.le_refl _), List.getElem?_set_self hl, List.append_assoc]
        rfl
      rw [this]
  · have hge : ¬ σ.I 4 < (σ.R 0).length := of_decide_eq_false h
    refine ⟨rfl, rfl, rfl, trivial, rfl, ?_⟩
    unfold fill9
    rw [List.take_of_length_le (by omega), show (σ.R 0).length - (σ.I 4).toNat = 0 by omega]; simp
theorem rowSame_refl (ln : Bool) (a : List Value) : rowSame ln a a = true := by
  unfold rowSame
  cases ln <;> simp
theorem sameF_refl (ln : Bool) (A : List (List Value)) : sameF ln A A = true := by
  unfold sameF sameFrom
  rw [decide_eq_true rfl, Bool.true_and, List.all_eq_true]
  intro q hq
  have : q.1 = q.2 := by
    rw [show (0 : Int).toNat = 0 from rfl, List.drop_zero] at hq
    rw [List.zip_eq_zipWith] at hq
    obtain ⟨i, hi, rfl⟩ := List.mem_iff_getElem.1 hq
    rw [List.getElem_zipWith]
  rw [this]
  exact rowSame_refl ln q.2
theorem all_len (s : ByteArray) : (allR s).length ≤ 65537 ∧ ∀ r ∈ allR s, r.length = 4 := by
  obtain ⟨r, er, _, hl, _⟩ := clean_all s
  refine ⟨hl, fun x hx => ?_⟩
  rw [er] at hx
  unfold toksR at hx
  obtain ⟨q, _, rfl⟩ := List.mem_map.1 hx
  rfl
theorem cuts_law (cs : List Value) : SatB Tryd.prog LctL 3000 Tryd.f3 (argsV (dtL cs) at0 aCt 0) := ⟨by
  rw [cuts_goal]
  generalize (dtL cs).S 0 = s
  intro x0 x1 x2 x3 x4 x5 x6 x7
  obtain ⟨hl, hr⟩ := all_len s
  have e4 : x4 = true := sameF_refl true _
  have h2 : x2 := by show (allR s).length ≤ _; omega
  have h3 : x3 := ⟨⟨⟨trivial, rfl⟩, rfl⟩, h2, h2⟩
  have e5 : x5 = false := by show (!x4) = false; rw [e4]; rfl
  have e6 : x6 = false := by show (!(allL s == allL s)) = false; simp
  have e7 : x7 = false := by show (!(allE s == allE s)) = false; simp
  refine ⟨⟨trivial, trivial⟩, ⟨trivial, trivial⟩, h3, fun h => (by rw [e5] at h; cases h), fun _ => ⟨fun h => (by rw [e6] at h; cases h), fun _ => ⟨fun h => (by rw [e7] at h; cases h), fun _ => ⟨⟨⟨trivial, rfl⟩, ?_⟩, ⟨trivial, trivial⟩, h3, fun _ => ⟨trivial, rfl⟩, fun h => (by rw [e4] at h; cases h)⟩⟩⟩⟩
  exact ⟨by omega, Int.le_refl _, Int.natCast_nonneg _, hr⟩⟩
theorem cuts_walk (vs cs : List Value) (hv : okArgs aCt vs cs) (w : World) (hgl : GlW w) : Calls Tryd.prog 3 vs.toArray w fun e w' => e = .returned (.bool true) ∧ Below w.heap.size w w' :=
  law_calls good_ctL Tryd.func3 3000 aCt (fun cs _ => cuts_law cs) vs cs hv w hgl
end Go.Proofs.YtfjldllegmfooaaDoor.Lx
end
