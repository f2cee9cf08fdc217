/- Parts of the proof, laid together: LxJ. No condition. -/
import Derived.Test.YtfjldllegmfooaaDoorClD

section
/- LexerClean: for every text the law hands back true. No condition. -/
set_option maxRecDepth 100000
namespace Go.Proofs.YtfjldllegmfooaaDoor.Lx
open Go.RowKit Go.IntWalk Go.Proofs.YtfjldllegmfooaaDoor.X

theorem quo_len : ∀ (k : Nat) (l b : Bs) (n : Nat), l.length ≤ k → quo l = some (b, n) → b.length ≤ l.length
  | _, [], b, n, _, h => by rw [quo.eq_def] at h; cases h
  | 0, _ :: _, _, _, hk, _ => by simp at hk
  | k + 1, c :: r, b, n, hk, h => by
    have hk : r.length ≤ k := by simpa using hk
    by_cases h1 : c = 34
    · subst h1; rw [quo_end] at h
      simp only [Option.some.injEq, Prod.mk.injEq] at h
      obtain ⟨rfl, _⟩ := h; simp
    · by_cases h2 : c.toNat < 32 ∨ c.toNat > 126
      · rw [(quo_no c r h1 h2).1] at h; cases h
      · by_cases h3 : c ≠ 92
        · rw [(quo_c c r h1 h2 h3).1] at h
          obtain ⟨q, hq, hz⟩ := Option.map_eq_some_iff.1 h
          simp only [Prod.mk.injEq] at hz
          obtain ⟨rfl, rfl⟩ := hz
          have := quo_len k r q.1 q.2 hk hq
          simp only [List.length_cons]; omega
        · have h3 : c = 92 := Decidable.not_not.1 h3
          subst h3
          cases r with
          | nil => rw [quo.eq_def] at h; cases h
          | cons e r =>
            have hk : r.length + 1 ≤ k := by simpa using hk
            have rec1 : ∀ (x : UInt8) (m : Nat), (quo r).map (fun q => (x :: q.1, q.2 + m)) = some (b, n) → b.length ≤ r.length + 1 := fun x m hm => by
              obtain ⟨q, hq, hz⟩ := Option.map_eq_some_iff.1 hm
              simp only [Prod.mk.injEq] at hz
              obtain ⟨rfl, rfl⟩ := hz
              have := quo_len k r q.1 q.2 (by omega) hq
              simp only [List.length_cons]; omega
            rw [quo_92] at h
            simp only [List.length_cons]
            split at h
            · have := rec1 _ _ h; omega
            · split at h
              · have := rec1 _ _ h; omega
              · split at h
                · have := rec1 _ _ h; omega
                · split at h
                  · have := rec1 _ _ h; omega
                  · split at h
                    · split at h
                      · rename_i r' _ _
                        split at h
                        · obtain ⟨q, hq, hz⟩ := Option.map_eq_some_iff.1 h
                          simp only [Prod.mk.injEq] at hz
                          obtain ⟨rfl, rfl⟩ := hz
                          have := quo_len k r' q.1 q.2 (by simp only [List.length_cons] at hk; omega) hq
                          simp only [List.length_cons]; omega
                        · cases h
                      · cases h
                    · cases h
theorem next_len {l : Bs} {t : Tok} {n : Nat} (h : nextT l = some (t, n)) : t.text.length ≤ l.length := by
  unfold nextT at h
  simp only at h
  have tk : ∀ m, (l.take m).length ≤ l.length := fun m => by rw [List.length_take]; omega
  split at h
  · split at h
    · simp only [Option.some.injEq, Prod.mk.injEq] at h
      obtain ⟨rfl, rfl⟩ := h; exact tk _
    · cases h
  · split at h
    · obtain ⟨q, _, hq⟩ := Option.map_eq_some_iff.1 h
      simp only [Prod.mk.injEq] at hq
      obtain ⟨rfl, rfl⟩ := hq; simp
    · split at h
      · split at h
        · simp only [Option.some.injEq, Prod.mk.injEq] at h
          obtain ⟨rfl, rfl⟩ := h
          show (List.drop 1 (List.take _ l)).length ≤ _
          rw [List.length_drop]; have := tk (1 + ((l.drop 1).takeWhile isReg).length); omega
        · cases h
      · split at h
        · split at h
          · cases h
          · simp only [Option.some.injEq, Prod.mk.injEq] at h
            obtain ⟨rfl, rfl⟩ := h; simp
        · split at h
          · obtain ⟨q, hq, hz⟩ := Option.map_eq_some_iff.1 h
            simp only [Prod.mk.injEq] at hz
            obtain ⟨rfl, rfl⟩ := hz
            have := quo_len _ _ q.1 q.2 (Nat.le_refl _) hq
            rw [List.length_drop] at this
            show q.1.length ≤ _; omega
          · split at h
            · simp only [Option.some.injEq, Prod.mk.injEq] at h
              obtain ⟨rfl, rfl⟩ := h; simp
            · split at h
              · simp only [Option.some.injEq, Prod.mk.injEq] at h
                obtain ⟨rfl, rfl⟩ := h; exact tk 2
              · split at h
                · simp only [Option.some.injEq, Prod.mk.injEq] at h
                  obtain ⟨rfl, rfl⟩ := h; exact tk 1
                · cases h
theorem lineF_text : ∀ (k : Nat) (l : Bs) (ts : List Tok), lineF k l = some ts → ∀ t ∈ ts, t.text.length ≤ l.length
  | k, [], ts, h, t, ht => by
    have : ts = [] := by cases k <;> simpa [lineF] using h.symm
    rw [this] at ht; cases ht
  | 0, _ :: _, ts, h, t, ht => by simp [lineF] at h
  | k + 1, c :: r, ts, h, t, ht => by
    rw [lineF] at h
    split at h
    · have := lineF_text k r ts h t ht
      rw [List.length_cons]; omega
    · split at h
      · simp only [Option.some.injEq] at h
        subst h; cases ht
      · split at h
        · cases h
        · rename_i t0 n hn
          obtain ⟨q, hq, rfl⟩ := Option.map_eq_some_iff.1 h
          rcases List.mem_cons.1 ht with rfl | ht
          · exact next_len hn
          · have := lineF_text k _ q hq t ht
            rw [List.length_drop] at this; omega
theorem lineT_text {l : Bs} {ts : List Tok} (h : lineT l = some ts) : ∀ t ∈ ts, t.text.length ≤ l.length := by
  cases hq : lineX l with
  | none => rw [lineT_N hq] at h; cases h
  | some q =>
    rw [lineT_X hq] at h
    simp only [Option.some.injEq] at h
    subst h
    have hx := lineF_text _ _ _ hq
    cases q with
    | nil => intro t ht; cases ht
    | cons a q =>
      intro t ht
      rcases List.mem_append.1 ht with ht | ht
      · exact hx t ht
      · rw [List.mem_singleton.1 ht]; exact Nat.zero_le _
theorem linesT_more : ∀ (ls : List Bs) (n : Nat) (r : List (Nat × Tok)), linesT n ls = .ok r → r.length ≤ bulk ls ∧ ∀ q ∈ r, q.1 < n + ls.length ∧ q.2.text.length + 1 ≤ bulk ls
  | [], n, r, h => by
    simp only [linesT, Except.ok.injEq] at h
    subst h
    exact ⟨by simp, fun q hq => by cases hq⟩
  | l :: ls, n, r, h => by
    rw [linesT] at h
    cases hl : lineT l with
    | none => rw [hl] at h; cases h
    | some ts =>
      rw [hl] at h
      simp only at h
      cases hr : linesT (n + 1) ls with
      | error m => rw [hr] at h; cases h
      | ok r' =>
        rw [hr] at h
        simp only [Except.ok.injEq] at h
        subst h
        obtain ⟨c1, c2⟩ := linesT_more ls (n + 1) r' hr
        have o1 := lineT_len hl
        have o2 := lineT_text hl
        rw [bulk_cons]
        refine ⟨by rw [List.length_append, List.length_map]; omega, fun q hq => ?_⟩
        rw [List.length_cons]
        rcases List.mem_append.1 hq with hq | hq
        · obtain ⟨t, ht, rfl⟩ := List.mem_map.1 hq
          have := o2 t ht
          exact ⟨by show n < _; omega, by show t.text.length + 1 ≤ _; omega⟩
        · have := c2 q hq
          exact ⟨by omega, by omega⟩
theorem lines_bulk {l : Bs} (h : l.length ≤ 65536) : bulk (lines l) ≤ 65537 := by
  have hb := split_bulk l
  rw [lines_eq]
  split
  · rw [List.dropLast_eq_take]; have := bulk_take (split l) ((split l).length - 1); omega
  · omega
theorem allT_ok {l : Bs} {r : List (Nat × Tok)} (h : allT l = .ok r) : l.length ≤ 65536 ∧ linesT 1 (lines l) = .ok r := by
  unfold allT at h
  split at h
  · cases h
  · split at h
    · cases h
    · split at h
      · cases h
      · rename_i hr
        simp only [Except.ok.injEq] at h
        subst h
        exact ⟨by omega, hr⟩
theorem linesT_pos : ∀ (ls : List Bs) (n m : Nat), linesT n ls = .error m → n ≤ m
  | [], n, m, h => by cases h
  | l :: ls, n, m, h => by
    rw [linesT] at h
    cases hl : lineT l with
    | none => rw [hl] at h; simp only [Except.error.injEq] at h; omega
    | some ts =>
      rw [hl] at h
      simp only at h
      cases hr : linesT (n + 1) ls with
      | error k =>
        rw [hr] at h
        simp only [Except.error.injEq] at h
        have := linesT_pos ls (n + 1) k hr
        omega
      | ok r' => rw [hr] at h; cases h
theorem clean_all (s : ByteArray) : Clean (allR s) := by
  unfold allR
  cases h : allT s.data.toList with
  | error q => exact ⟨[], rfl, trivial, by simp, fun q hq => by cases hq⟩
  | ok r =>
    obtain ⟨h0, h1⟩ := allT_ok h
    obtain ⟨c1, c2⟩ := linesT_clean _ _ _ h1
    obtain ⟨m1, m2⟩ := linesT_more _ _ _ h1
    have hb := lines_bulk h0
    have hg := bulk_ge (lines s.data.toList)
    have hz : ∀ q ∈ r, q.2.text.length ≤ 65536 := fun q hq => by
      have := (m2 q hq).2
      omega
    exact ⟨r, rfl, c1, by show (toksR r).length ≤ _; unfold toksR; rw [List.length_map]; omega, fun q hq => ⟨(c2 q hq).2, by have := (m2 q hq).1; omega, hz q hq⟩⟩
theorem true_none : ∀ vs z, trueS vs = some z → vs = [] ∧ z = .bool true
  | [], z, h => ⟨rfl, by simpa [trueS] using h.symm⟩
  | _ :: _, z, h => by simp [trueS] at h
theorem good_live : Lib.Good Tryd.prog Llive := lib_pure good_numW Tryd.func16 2000 trueS fun vs z hz => by
  obtain ⟨rfl, rfl⟩ := true_none vs z hz
  show (run Tryd.prog (LnumW.mk' fun _ _ _ _ => False) 2000 Tryd.f16 []).sat _
  rw [live_goal]
  refine ⟨⟨trivial, trivial⟩, fun _ _ _ => ⟨by decide, by decide, fun _ => ⟨by decide, by decide, fun _ => ⟨by decide, by decide, fun _ => by decide⟩⟩⟩, trivial, rfl⟩
theorem good_cl2 : Lib.Good Tryd.prog LCl2 := lib_loop good_live 11 "law.go:141" (by kernel_rfl) lCl2 2000 fun σ α rest hp => by
  refine (cl2_round σ α rest).mpr ?_
  obtain ⟨h0, h1, h2, hc⟩ := (show 0 ≤ σ.I 5 ∧ σ.I 5 ≤ (σ.S 4).size ∧ (σ.S 4).size ≤ 65536 ∧ (σ.I 1 ≠ 3 → ∀ c ∈ (σ.S 4).data.toList, 33 ≤ c.toNat ∧ c.toNat ≤ 126) from hp)
  intro x0 x1 x2 x3 x4 x5 x6
  refine ⟨rfl, fun h => ?_, fun h => ?_⟩
  · have h : (bif decide x0 then σ.I 1 != (3 : Int) else false) = true := h
    cases hx : decide x0 with
    | false => rw [hx] at h; cases h
    | true =>
      rw [hx] at h
      have hlt : σ.I 5 < (σ.S 4).size := of_decide_eq_true hx
      have hk : σ.I 1 ≠ 3 := by simpa using h
      have e3 : x3 = ((byt (σ.S 4).data.toList (σ.I 5).toNat).toNat : Int) := by show ((_ : Nat) : Int) = _; rw [getD_byt]
      have hl : (σ.I 5).toNat < (σ.S 4).data.toList.length := by rw [data_len]; omega
      have hm : byt (σ.S 4).data.toList (σ.I 5).toNat ∈ (σ.S 4).data.toList := by
        unfold byt; rw [getD_in _ _ hl]; exact List.getElem_mem hl
      obtain ⟨b1, b2⟩ := hc hk _ hm
      have e4 : x4 = false := decide_eq_false (by omega)
      have e5 : x5 = false := by show (bif x4 then true else decide (x3 > 126)) = _; rw [e4]; exact decide_eq_false (by omega)
      have e6 : x6 = σ.I 5 + 1 := i64_in _ (by omega)
      refine ⟨⟨h0, hlt⟩, fun _ => ⟨h0, hlt⟩, fun h5 => ?_, fun _ => ⟨rfl, rfl, trivial, ⟨by omega, by omega, h2, hc⟩, by omega, rfl, rfl⟩⟩
      rw [e5] at h5; cases h5
  · exact ⟨rfl, rfl, rfl, ⟨⟨⟨trivial, rfl⟩, rfl⟩, rfl⟩, rfl⟩
theorem toksR_at {r : List (Nat × Tok)} {i : Nat} (h : i < r.length) : (toksR r).getD i [] = tokR r[i].1 r[i].2 := by
  unfold toksR
  rw [getD_in (r.map fun q => tokR q.1 q.2) [] (by rw [List.length_map]; exact h), List.getElem_map]
theorem good_cl1 : Lib.Good Tryd.prog LCl1 := lib_loop good_cl2 5 "law.go:136" (by kernel_rfl) lCl1 2000 fun σ α rest hp => by
  refine (cl1_round σ α rest).mpr ?_
  obtain ⟨hC, h0, h1⟩ := (show Clean (σ.R 0) ∧ 0 ≤ σ.I 5 ∧ σ.I 5 ≤ (σ.R 0).length from hp)
  obtain ⟨r, er, hch, hlen, hr⟩ := id hC
  have hrl : (σ.R 0).length = r.length := by rw [er]; unfold toksR; rw [List.length_map]
  intro x0 x1 x2 x3 x4 x5 x6 x8 x9 x10 x11 x12 x13 x14 x15 x16 x17 x18 x19 x20 x21 x22
  refine ⟨rfl, fun h => ?_, fun _ => ⟨rfl, rfl, rfl, ⟨trivial, rfl⟩, rfl, rfl⟩⟩
  have hlt : σ.I 5 < (σ.R 0).length := of_decide_eq_true h
  have hl : (σ.I 5).toNat < r.length := by omega
  have ha : (σ.R 0).getD (σ.I 5).toNat [] = tokR r[(σ.I 5).toNat].1 r[(σ.I 5).toNat].2 := by rw [er]; exact toksR_at hl
  obtain ⟨tk, t1, t2⟩ := hr r[(σ.I 5).toNat] (List.getElem_mem hl)
  have e3 : x3 = r[(σ.I 5).toNat].2.kind := by show asI (((σ.R 0).getD (σ.I 5).toNat []).getD 0 undef) = _; rw [ha]; rfl
  have e12 : x12 = (r[(σ.I 5).toNat].1 : Int) := by show asI (((σ.R 0).getD (σ.I 5).toNat []).getD 1 undef) = _; rw [ha]; rfl
  have e18 : x18 = bs r[(σ.I 5).toNat].2.text := by show asS (((σ.R 0).getD (σ.I 5).toNat []).getD 3 undef) = _; rw [ha]; rfl
  have k0 := tk.k0
  have k1 := tk.k1
  have e4 : x4 = false := decide_eq_false (by omega)
  have e5 : x5 = false := decide_eq_false (by omega)
  have e22 : x22 = σ.I 5 + 1 := i64_in _ (by omega)
  have g : x6 = true → (x9 ∧ x11) ∧ x14 = false ∧ (x15 = true → asI (((σ.R 0).getD x10 []).getD 0 undef) = 6) := fun h6 => by
    have h6 : σ.I 5 > 0 := of_decide_eq_true h6
    have e8 : x8 = σ.I 5 - 1 := i64_in _ (by omega)
    have e10 : x10 = (σ.I 5).toNat - 1 := by show x8.toNat = _; omega
    have hl' : (σ.I 5).toNat - 1 < r.length := by omega
    have ha' : (σ.R 0).getD x10 [] = tokR r[(σ.I 5).toNat - 1].1 r[(σ.I 5).toNat - 1].2 := by rw [er, e10]; exact toksR_at hl'
    have e13 : x13 = (r[(σ.I 5).toNat - 1].1 : Int) := by show asI (((σ.R 0).getD x10 []).getD 1 undef) = _; rw [ha']; rfl
    have hc := chain_at hch ((σ.I 5).toNat - 1) (by omega)
    have hi : (σ.I 5).toNat - 1 + 1 = (σ.I 5).toNat := by omega
    simp only [hi] at hc
    refine ⟨⟨⟨by omega, by omega, Nat.le_refl _⟩, by show x10 < _; omega⟩, decide_eq_false (by omega), fun h15 => ?_⟩
    have h15 : x12 ≠ x13 := by have : (x12 != x13) = true := h15; simpa using this
    rw [ha']
    exact hc.2 (by intro he; exact h15 (by rw [e12, e13, he]))
  have e16 : x16 = false := by
    show (bif x6 then bif x15 then asI (((σ.R 0).getD x10 []).getD 0 undef) != 6 else false else false) = false
    cases h6 : x6 with
    | false => rfl
    | true =>
      obtain ⟨_, _, g3⟩ := g h6
      cases h15 : x15 with
      | false => rfl
      | true => rw [g3 h15]; rfl
  have e17 : x17 = false := by
    show (bif x4 then true else bif x5 then true else bif x6 then bif x14 then true else x16 else x16) = false
    rw [e4, e5, e16]
    cases h6 : x6 with
    | false => rfl
    | true => rw [(g h6).2.1]; rfl
  have e19 : x19 = r[(σ.I 5).toNat].2.text.length := by show x18.size = _; rw [e18, bs_size]
  refine ⟨⟨h0, hlt, Nat.le_refl _⟩, by omega, fun _ _ => ⟨fun h6 => ?_, fun h6 h6' => ?_⟩, fun h17 => ?_, fun _ => ?_⟩
  · obtain ⟨⟨g1, g2⟩, _, _⟩ := g h6
    exact ⟨g1, g2, fun _ _ => ⟨g1, g2, fun _ => ⟨g1, g2⟩⟩⟩
  · rw [h6] at h6'; cases h6'
  · rw [e17] at h17; cases h17
  · refine ⟨⟨trivial, Int.le_refl _, Int.natCast_nonneg _, by omega, fun hk => ?_⟩, rfl, rfl, ⟨trivial, rfl⟩, ⟨hC, by omega, by omega⟩, by omega, rfl, rfl⟩
    rw [e18, bs_data]
    rw [e3] at hk
    exact tk.clean hk
theorem clean_law (cs : List Value) : SatB Tryd.prog LCl1 3000 Tryd.f5 (argsV (dtL cs) at0 aCl 0) := ⟨by
  rw [clean_goal]
  generalize (dtL cs).S 0 = s
  intro x0 x1 x2 x3
  have hC := clean_all s
  obtain ⟨r, er, hch, hlen, hr⟩ := id hC
  have hrl : (allR s).length = r.length := by rw [er]; unfold toksR; rw [List.length_map]
  have e1 : x1 = decide (r = []) := by
    show (((allR s).length : Int) == 0) = _
    rw [Bool.eq_iff_iff, beq_iff_eq, decide_eq_true_iff, hrl, ← List.length_eq_zero_iff]; omega
  have hx : x1 = false → r ≠ [] ∧ x2 = (r.length : Int) - 1 := fun h => by
    rw [e1] at h
    have hn := of_decide_eq_false h
    have hp := List.length_pos_iff.2 hn
    refine ⟨hn, ?_⟩
    show IntKind.i64.wrap (((allR s).length : Int) - 1) = _
    rw [hrl]; exact i64_in _ (by omega)
  refine ⟨⟨trivial, trivial⟩, fun _ => ⟨⟨⟨trivial, rfl⟩, hC, Int.le_refl _, Int.natCast_nonneg _⟩, fun h1 => ?_⟩, trivial, ?_⟩
  · obtain ⟨hn, e2⟩ := hx h1
    have hp := List.length_pos_iff.2 hn
    exact ⟨⟨by omega, by omega, Nat.le_refl _⟩, by show x2.toNat < _; omega⟩
  · congr 1
    cases h0 : x0 with
    | true =>
      have h0 : (allE s != 0) = true := h0
      unfold allE at h0
      cases ha : allT s.data.toList with
      | ok q => rw [ha] at h0; cases h0
      | error q =>
        have er' : allR s = [] := by unfold allR; rw [ha]
        have e1' : x1 = true := by show (((allR s).length : Int) == 0) = true; rw [er']; rfl
        have el : allL s = (q.1 : Int) := by unfold allL; rw [ha]
        have ee : allE s = (q.2 : Int) := by unfold allE; rw [ha]
        rw [e1', el, ee]
        unfold allT at ha
        split at ha
        · simp only [Except.error.injEq] at ha; subst ha; rfl
        · split at ha
          · simp only [Except.error.injEq] at ha; subst ha; rfl
          · split at ha
            · rename_i n hn
              simp only [Except.error.injEq] at ha
              subst ha
              have : decide (((n : Nat) : Int) > 0) = true := decide_eq_true (by have := linesT_pos _ _ _ hn; omega)
              show (bif true then bif ((100 : Nat) : Int) != 100 then true else bif decide (((n : Nat) : Int) > 0) then true else false else false) = true
              rw [this]; rfl
            · cases ha
    | false =>
      cases h1 : x1 with
      | true => rfl
      | false =>
        obtain ⟨hn, e2⟩ := hx h1
        have hp := List.length_pos_iff.2 hn
        have e3 : x3 = r.length - 1 := by show x2.toNat = _; omega
        have : asI (((allR s).getD x3 []).getD 0 undef) = 6 := by
          rw [er, e3, toksR_at (by omega)]
          have hl : r.getLast? = some r[r.length - 1] := by rw [List.getLast?_eq_getElem?, List.getElem?_eq_getElem (by omega)]
          exact chain_last hch hl
        show (bif false then _ else bif false then true else bif asI (((allR s).getD x3 []).getD 0 undef) == 6 then true else false) = true
        rw [this]; rfl⟩
theorem clean_walk (vs cs : List Value) (hv : okArgs aCl vs cs) (w : World) (hgl : GlW w) : Calls Tryd.prog 5 vs.toArray w fun e w' => e = .returned (.bool true) ∧ Below w.heap.size w w' :=
  law_calls good_cl1 Tryd.func5 3000 aCl (fun cs _ => clean_law cs) vs cs hv w hgl
end Go.Proofs.YtfjldllegmfooaaDoor.Lx
end
