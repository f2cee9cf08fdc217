/- Parts of the proof, laid together: LxJ, LxLD, LxLV, LxL, LxMD, LxMV, LxM. No condition. -/
import Derived.Test.YtfjldllegmfooaaDoorLnD

section
/- LexerClean: for every text the law hands back true. No condition. -/
set_option maxRecDepth 100000
namespace Go.Proofs.YtfjldllegmfooaaDoor.Lx
open Go.RowKit Go.IntWalk Go.Proofs.YtfjldllegmfooaaDoor.X

theorem quo_len : ∀ (k : Nat) (l b : Bs) (n : Nat), l.length ≤ k → quo l = some (b, n) → b.length ≤ l.length
  | _, [], b, n, _, h => by rw [quo.eq_def] at h; cases h
  | 0, _ :: _, _, _, hk, _ => by simp at hk
  | k + 1, c :: r, b, n, hk, h => by
    have hk : r.length ≤ k := by simpa using hk
    by_cases h1 : c = 34
    · subst h1; rw [quo_end] at h
      simp only [Option.some.injEq, Prod.mk.injEq] at h
      obtain ⟨rfl, _⟩ := h; simp
    · by_cases h2 : c.toNat < 32 ∨ c.toNat > 126
      · rw [(quo_no c r h1 h2).1] at h; cases h
      · by_cases h3 : c ≠ 92
        · rw [(quo_c c r h1 h2 h3).1] at h
          obtain ⟨q, hq, hz⟩ := Option.map_eq_some_iff.1 h
          simp only [Prod.mk.injEq] at hz
          obtain ⟨rfl, rfl⟩ := hz
          have := quo_len k r q.1 q.2 hk hq
          simp only [List.length_cons]; omega
        · have h3 : c = 92 := Decidable.not_not.1 h3
          subst h3
          cases r with
          | nil => rw [quo.eq_def] at h; cases h
          | cons e r =>
            have hk : r.length + 1 ≤ k := by simpa using hk
            have rec1 : ∀ (x : UInt8) (m : Nat), (quo r).map (fun q => (x :: q.1, q.2 + m)) = some (b, n) → b.length ≤ r.length + 1 := fun x m hm => by
              obtain ⟨q, hq, hz⟩ := Option.map_eq_some_iff.1 hm
              simp only [Prod.mk.injEq] at hz
              obtain ⟨rfl, rfl⟩ := hz
              have := quo_len k r q.1 q.2 (by omega) hq
              simp only [List.length_cons]; omega
            rw [quo_92] at h
            simp only [List.length_cons]
            split at h
            · have := rec1 _ _ h; omega
            · split at h
              · have := rec1 _ _ h; omega
              · split at h
                · have := rec1 _ _ h; omega
                · split at h
                  · have := rec1 _ _ h; omega
                  · split at h
                    · split at h
                      · rename_i r' _ _
                        split at h
                        · obtain ⟨q, hq, hz⟩ := Option.map_eq_some_iff.1 h
                          simp only [Prod.mk.injEq] at hz
                          obtain ⟨rfl, rfl⟩ := hz
                          have := quo_len k r' q.1 q.2 (by simp only [List.length_cons] at hk; omega) hq
                          simp only [List.length_cons]; omega
                        · cases h
                      · cases h
                    · cases h
theorem next_len {l : Bs} {t : Tok} {n : Nat} (h : nextT l = some (t, n)) : t.text.length ≤ l.length := by
  unfold nextT at h
  simp only at h
  have tk : ∀ m, (l.take m).length ≤ l.length := fun m => by rw [List.length_take]; omega
  split at h
  · split at h
    · simp only [Option.some.injEq, Prod.mk.injEq] at h
      obtain ⟨rfl, rfl⟩ := h; exact tk _
    · cases h
  · split at h
    · obtain ⟨q, _, hq⟩ := Option.map_eq_some_iff.1 h
      simp only [Prod.mk.injEq] at hq
      obtain ⟨rfl, rfl⟩ := hq; simp
    · split at h
      · split at h
        · simp only [Option.some.injEq, Prod.mk.injEq] at h
          obtain ⟨rfl, rfl⟩ := h
          show (List.drop 1 (List.take _ l)).length ≤ _
          rw [List.length_drop]; have := tk (1 + ((l.drop 1).takeWhile isReg).length); omega
        · cases h
      · split at h
        · split at h
          · cases h
          · simp only [Option.some.injEq, Prod.mk.injEq] at h
            obtain ⟨rfl, rfl⟩ := h; simp
        · split at h
          · obtain ⟨q, hq, hz⟩ := Option.map_eq_some_iff.1 h
            simp only [Prod.mk.injEq] at hz
            obtain ⟨rfl, rfl⟩ := hz
            have := quo_len _ _ q.1 q.2 (Nat.le_refl _) hq
            rw [List.length_drop] at this
            show q.1.length ≤ _; omega
          · split at h
            · simp only [Option.some.injEq, Prod.mk.injEq] at h
              obtain ⟨rfl, rfl⟩ := h; simp
            · split at h
              · simp only [Option.some.injEq, Prod.mk.injEq] at h
                obtain ⟨rfl, rfl⟩ := h; exact tk 2
              · split at h
                · simp only [Option.some.injEq, Prod.mk.injEq] at h
                  obtain ⟨rfl, rfl⟩ := h; exact tk 1
                · cases h
theorem lineF_text : ∀ (k : Nat) (l : Bs) (ts : List Tok), lineF k l = some ts → ∀ t ∈ ts, t.text.length ≤ l.length
  | k, [], ts, h, t, ht => by
    have : ts = [] := by cases k <;> simpa [lineF] using h.symm
    rw [this] at ht; cases ht
  | 0, _ :: _, ts, h, t, ht => by simp [lineF] at h
  | k + 1, c :: r, ts, h, t, ht => by
    rw [lineF] at h
    split at h
    · have := lineF_text k r ts h t ht
      rw [List.length_cons]; omega
    · split at h
      · simp only [Option.some.injEq] at h
        subst h; cases ht
      · split at h
        · cases h
        · rename_i t0 n hn
          obtain ⟨q, hq, rfl⟩ := Option.map_eq_some_iff.1 h
          rcases List.mem_cons.1 ht with rfl | ht
          · exact next_len hn
          · have := lineF_text k _ q hq t ht
            rw [List.length_drop] at this; omega
theorem lineT_text {l : Bs} {ts : List Tok} (h : lineT l = some ts) : ∀ t ∈ ts, t.text.length ≤ l.length := by
  cases hq : lineX l with
  | none => rw [lineT_N hq] at h; cases h
  | some q =>
    rw [lineT_X hq] at h
    simp only [Option.some.injEq] at h
    subst h
    have hx := lineF_text _ _ _ hq
    cases q with
    | nil => intro t ht; cases ht
    | cons a q =>
      intro t ht
      rcases List.mem_append.1 ht with ht | ht
      · exact hx t ht
      · rw [List.mem_singleton.1 ht]; exact Nat.zero_le _
theorem linesT_more : ∀ (ls : List Bs) (n : Nat) (r : List (Nat × Tok)), linesT n ls = .ok r → r.length ≤ bulk ls ∧ ∀ q ∈ r, q.1 < n + ls.length ∧ q.2.text.length + 1 ≤ bulk ls
  | [], n, r, h => by
    simp only [linesT, Except.ok.injEq] at h
    subst h
    exact ⟨by simp, fun q hq => by cases hq⟩
  | l :: ls, n, r, h => by
    rw [linesT] at h
    cases hl : lineT l with
    | none => rw [hl] at h; cases h
    | some ts =>
      rw [hl] at h
      simp only at h
      cases hr : linesT (n + 1) ls with
      | error m => rw [hr] at h; cases h
      | ok r' =>
        rw [hr] at h
        simp only [Except.ok.injEq] at h
        subst h
        obtain ⟨c1, c2⟩ := linesT_more ls (n + 1) r' hr
        have o1 := lineT_len hl
        have o2 := lineT_text hl
        rw [bulk_cons]
        refine ⟨by rw [List.length_append, List.length_map]; omega, fun q hq => ?_⟩
        rw [List.length_cons]
        rcases List.mem_append.1 hq with hq | hq
        · obtain ⟨t, ht, rfl⟩ := List.mem_map.1 hq
          have := o2 t ht
          exact ⟨by show n < _; omega, by show t.text.length + 1 ≤ _; omega⟩
        · have := c2 q hq
          exact ⟨by omega, by omega⟩
theorem lines_bulk {l : Bs} (h : l.length ≤ 65536) : bulk (lines l) ≤ 65537 := by
  have hb := split_bulk l
  rw [lines_eq]
  split
  · rw [List.dropLast_eq_take]; have := bulk_take (split l) ((split l).length - 1); omega
  · omega
theorem allT_ok {l : Bs} {r : List (Nat × Tok)} (h : allT l = .ok r) : l.length ≤ 65536 ∧ linesT 1 (lines l) = .ok r := by
  unfold allT at h
  split at h
  · cases h
  · split at h
    · cases h
    · split at h
      · cases h
      · rename_i hr
        simp only [Except.ok.injEq] at h
        subst h
        exact ⟨by omega, hr⟩
theorem linesT_pos : ∀ (ls : List Bs) (n m : Nat), linesT n ls = .error m → n ≤ m
  | [], n, m, h => by cases h
  | l :: ls, n, m, h => by
    rw [linesT] at h
    cases hl : lineT l with
    | none => rw [hl] at h; simp only [Except.error.injEq] at h; omega
    | some ts =>
      rw [hl] at h
      simp only at h
      cases hr : linesT (n + 1) ls with
      | error k =>
        rw [hr] at h
        simp only [Except.error.injEq] at h
        have := linesT_pos ls (n + 1) k hr
        omega
      | ok r' => rw [hr] at h; cases h
theorem clean_all (s : ByteArray) : Clean (allR s) := by
  unfold allR
  cases h : allT s.data.toList with
  | error q => exact ⟨[], rfl, trivial, by simp, fun q hq => by cases hq⟩
  | ok r =>
    obtain ⟨h0, h1⟩ := allT_ok h
    obtain ⟨c1, c2⟩ := linesT_clean _ _ _ h1
    obtain ⟨m1, m2⟩ := linesT_more _ _ _ h1
    have hb := lines_bulk h0
    have hg := bulk_ge (lines s.data.toList)
    have hz : ∀ q ∈ r, q.2.text.length ≤ 65536 := fun q hq => by
      have := (m2 q hq).2
      omega
    exact ⟨r, rfl, c1, by show (toksR r).length ≤ _; unfold toksR; rw [List.length_map]; omega, fun q hq => ⟨(c2 q hq).2, by have := (m2 q hq).1; omega, hz q hq⟩⟩
theorem true_none : ∀ vs z, trueS vs = some z → vs = [] ∧ z = .bool true
  | [], z, h => ⟨rfl, by simpa [trueS] using h.symm⟩
  | _ :: _, z, h => by simp [trueS] at h
theorem good_live : Lib.Good Tryd.prog Llive := lib_pure good_numW Tryd.func16 2000 trueS fun vs z hz => by
  obtain ⟨rfl, rfl⟩ := true_none vs z hz
  show (run Tryd.prog (LnumW.mk' fun _ _ _ _ => False) 2000 Tryd.f16 []).sat _
  rw [live_goal]
  refine ⟨⟨trivial, trivial⟩, fun _ _ _ => ⟨by decide, by decide, fun _ => ⟨by decide, by decide, fun _ => ⟨by decide, by decide, fun _ => by decide⟩⟩⟩, trivial, rfl⟩
theorem good_cl2 : Lib.Good Tryd.prog LCl2 := lib_loop good_live 11 "law.go:141" (by kernel_rfl) lCl2 2000 fun σ α rest hp => by
  refine (cl2_round σ α rest).mpr ?_
  obtain ⟨h0, h1, h2, hc⟩ := (show 0 ≤ σ.I 5 ∧ σ.I 5 ≤ (σ.S 4).size ∧ (σ.S 4).size ≤ 65536 ∧ (σ.I 1 ≠ 3 → ∀ c ∈ (σ.S 4).data.toList, 33 ≤ c.toNat ∧ c.toNat ≤ 126) from hp)
  intro x0 x1 x2 x3 x4 x5 x6
  refine ⟨rfl, fun h => ?_, fun h => ?_⟩
  · have h : (bif decide x0 then σ.I 1 != (3 : Int) else false) = true := h
    cases hx : decide x0 with
    | false => rw [hx] at h; cases h
    | true =>
      rw [hx] at h
      have hlt : σ.I 5 < (σ.S 4).size := of_decide_eq_true hx
      have hk : σ.I 1 ≠ 3 := by simpa using h
      have e3 : x3 = ((byt (σ.S 4).data.toList (σ.I 5).toNat).toNat : Int) := by show ((_ : Nat) : Int) = _; rw [getD_byt]
      have hl : (σ.I 5).toNat < (σ.S 4).data.toList.length := by rw [data_len]; omega
      have hm : byt (σ.S 4).data.toList (σ.I 5).toNat ∈ (σ.S 4).data.toList := by
        unfold byt; rw [getD_in _ _ hl]; exact List.getElem_mem hl
      obtain ⟨b1, b2⟩ := hc hk _ hm
      have e4 : x4 = false := decide_eq_false (by omega)
      have e5 : x5 = false := by show (bif x4 then true else decide (x3 > 126)) = _; rw [e4]; exact decide_eq_false (by omega)
      have e6 : x6 = σ.I 5 + 1 := i64_in _ (by omega)
      refine ⟨⟨h0, hlt⟩, fun _ => ⟨h0, hlt⟩, fun h5 => ?_, fun _ => ⟨rfl, rfl, trivial, ⟨by omega, by omega, h2, hc⟩, by omega, rfl, rfl⟩⟩
      rw [e5] at h5; cases h5
  · exact ⟨rfl, rfl, rfl, ⟨⟨⟨trivial, rfl⟩, rfl⟩, rfl⟩, rfl⟩
theorem toksR_at {r : List (Nat × Tok)} {i : Nat} (h : i < r.length) : (toksR r).getD i [] = tokR r[i].1 r[i].2 := by
  unfold toksR
  rw [getD_in (r.map fun q => tokR q.1 q.2) [] (by rw [List.length_map]; exact h), List.getElem_map]
theorem good_cl1 : Lib.Good Tryd.prog LCl1 := lib_loop good_cl2 5 "law.go:136" (by kernel_rfl) lCl1 2000 fun σ α rest hp => by
  refine (cl1_round σ α rest).mpr ?_
  obtain ⟨hC, h0, h1⟩ := (show Clean (σ.R 0) ∧ 0 ≤ σ.I 5 ∧ σ.I 5 ≤ (σ.R 0).length from hp)
  obtain ⟨r, er, hch, hlen, hr⟩ := id hC
  have hrl : (σ.R 0).length = r.length := by rw [er]; unfold toksR; rw [List.length_map]
  intro x0 x1 x2 x3 x4 x5 x6 x8 x9 x10 x11 x12 x13 x14 x15 x16 x17 x18 x19 x20 x21 x22
  refine ⟨rfl, fun h => ?_, fun _ => ⟨rfl, rfl, rfl, ⟨trivial, rfl⟩, rfl, rfl⟩⟩
  have hlt : σ.I 5 < (σ.R 0).length := of_decide_eq_true h
  have hl : (σ.I 5).toNat < r.length := by omega
  have ha : (σ.R 0).getD (σ.I 5).toNat [] = tokR r[(σ.I 5).toNat].1 r[(σ.I 5).toNat].2 := by rw [er]; exact toksR_at hl
  obtain ⟨tk, t1, t2⟩ := hr r[(σ.I 5).toNat] (List.getElem_mem hl)
  have e3 : x3 = r[(σ.I 5).toNat].2.kind := by show asI (((σ.R 0).getD (σ.I 5).toNat []).getD 0 undef) = _; rw [ha]; rfl
  have e12 : x12 = (r[(σ.I 5).toNat].1 : Int) := by show asI (((σ.R 0).getD (σ.I 5).toNat []).getD 1 undef) = _; rw [ha]; rfl
  have e18 : x18 = bs r[(σ.I 5).toNat].2.text := by show asS (((σ.R 0).getD (σ.I 5).toNat []).getD 3 undef) = _; rw [ha]; rfl
  have k0 := tk.k0
  have k1 := tk.k1
  have e4 : x4 = false := decide_eq_false (by omega)
  have e5 : x5 = false := decide_eq_false (by omega)
  have e22 : x22 = σ.I 5 + 1 := i64_in _ (by omega)
  have g : x6 = true → (x9 ∧ x11) ∧ x14 = false ∧ (x15 = true → asI (((σ.R 0).getD x10 []).getD 0 undef) = 6) := fun h6 => by
    have h6 : σ.I 5 > 0 := of_decide_eq_true h6
    have e8 : x8 = σ.I 5 - 1 := i64_in _ (by omega)
    have e10 : x10 = (σ.I 5).toNat - 1 := by show x8.toNat = _; omega
    have hl' : (σ.I 5).toNat - 1 < r.length := by omega
    have ha' : (σ.R 0).getD x10 [] = tokR r[(σ.I 5).toNat - 1].1 r[(σ.I 5).toNat - 1].2 := by rw [er, e10]; exact toksR_at hl'
    have e13 : x13 = (r[(σ.I 5).toNat - 1].1 : Int) := by show asI (((σ.R 0).getD x10 []).getD 1 undef) = _; rw [ha']; rfl
    have hc := chain_at hch ((σ.I 5).toNat - 1) (by omega)
    have hi : (σ.I 5).toNat - 1 + 1 = (σ.I 5).toNat := by omega
    simp only [hi] at hc
    refine ⟨⟨⟨by omega, by omega, Nat.le_refl _⟩, by show x10 < _; omega⟩, decide_eq_false (by omega), fun h15 => ?_⟩
    have h15 : x12 ≠ x13 := by have : (x12 != x13) = true := h15; simpa using this
    rw [ha']
    exact hc.2 (by intro he; exact h15 (by rw [e12, e13, he]))
  have e16 : x16 = false := by
    show (bif x6 then bif x15 then asI (((σ.R 0).getD x10 []).getD 0 undef) != 6 else false else false) = false
    cases h6 : x6 with
    | false => rfl
    | true =>
      obtain ⟨_, _, g3⟩ := g h6
      cases h15 : x15 with
      | false => rfl
      | true => rw [g3 h15]; rfl
  have e17 : x17 = false := by
    show (bif x4 then true else bif x5 then true else bif x6 then bif x14 then true else x16 else x16) = false
    rw [e4, e5, e16]
    cases h6 : x6 with
    | false => rfl
    | true => rw [(g h6).2.1]; rfl
  have e19 : x19 = r[(σ.I 5).toNat].2.text.length := by show x18.size = _; rw [e18, bs_size]
  refine ⟨⟨h0, hlt, Nat.le_refl _⟩, by omega, fun _ _ => ⟨fun h6 => ?_, fun h6 h6' => ?_⟩, fun h17 => ?_, fun _ => ?_⟩
  · obtain ⟨⟨g1, g2⟩, _, _⟩ := g h6
    exact ⟨g1, g2, fun _ _ => ⟨g1, g2, fun _ => ⟨g1, g2⟩⟩⟩
  · rw [h6] at h6'; cases h6'
  · rw [e17] at h17; cases h17
  · refine ⟨⟨trivial, Int.le_refl _, Int.natCast_nonneg _, by omega, fun hk => ?_⟩, rfl, rfl, ⟨trivial, rfl⟩, ⟨hC, by omega, by omega⟩, by omega, rfl, rfl⟩
    rw [e18, bs_data]
    rw [e3] at hk
    exact tk.clean hk
theorem clean_law (cs : List Value) : SatB Tryd.prog LCl1 3000 Tryd.f5 (argsV (dtL cs) at0 aCl 0) := ⟨by
  rw [clean_goal]
  generalize (dtL cs).S 0 = s
  intro x0 x1 x2 x3
  have hC := clean_all s
  obtain ⟨r, er, hch, hlen, hr⟩ := id hC
  have hrl : (allR s).length = r.length := by rw [er]; unfold toksR; rw [List.length_map]
  have e1 : x1 = decide (r = []) := by
    show (((allR s).length : Int) == 0) = _
    rw [Bool.eq_iff_iff, beq_iff_eq, decide_eq_true_iff, hrl, ← List.length_eq_zero_iff]; omega
  have hx : x1 = false → r ≠ [] ∧ x2 = (r.length : Int) - 1 := fun h => by
    rw [e1] at h
    have hn := of_decide_eq_false h
    have hp := List.length_pos_iff.2 hn
    refine ⟨hn, ?_⟩
    show IntKind.i64.wrap (((allR s).length : Int) - 1) = _
    rw [hrl]; exact i64_in _ (by omega)
  refine ⟨⟨trivial, trivial⟩, fun _ => ⟨⟨⟨trivial, rfl⟩, hC, Int.le_refl _, Int.natCast_nonneg _⟩, fun h1 => ?_⟩, trivial, ?_⟩
  · obtain ⟨hn, e2⟩ := hx h1
    have hp := List.length_pos_iff.2 hn
    exact ⟨⟨by omega, by omega, Nat.le_refl _⟩, by show x2.toNat < _; omega⟩
  · congr 1
    cases h0 : x0 with
    | true =>
      have h0 : (allE s != 0) = true := h0
      unfold allE at h0
      cases ha : allT s.data.toList with
      | ok q => rw [ha] at h0; cases h0
      | error q =>
        have er' : allR s = [] := by unfold allR; rw [ha]
        have e1' : x1 = true := by show (((allR s).length : Int) == 0) = true; rw [er']; rfl
        have el : allL s = (q.1 : Int) := by unfold allL; rw [ha]
        have ee : allE s = (q.2 : Int) := by unfold allE; rw [ha]
        rw [e1', el, ee]
        unfold allT at ha
        split at ha
        · simp only [Except.error.injEq] at ha; subst ha; rfl
        · split at ha
          · simp only [Except.error.injEq] at ha; subst ha; rfl
          · split at ha
            · rename_i n hn
              simp only [Except.error.injEq] at ha
              subst ha
              have : decide (((n : Nat) : Int) > 0) = true := decide_eq_true (by have := linesT_pos _ _ _ hn; omega)
              show (bif true then bif ((100 : Nat) : Int) != 100 then true else bif decide (((n : Nat) : Int) > 0) then true else false else false) = true
              rw [this]; rfl
            · cases ha
    | false =>
      cases h1 : x1 with
      | true => rfl
      | false =>
        obtain ⟨hn, e2⟩ := hx h1
        have hp := List.length_pos_iff.2 hn
        have e3 : x3 = r.length - 1 := by show x2.toNat = _; omega
        have : asI (((allR s).getD x3 []).getD 0 undef) = 6 := by
          rw [er, e3, toksR_at (by omega)]
          have hl : r.getLast? = some r[r.length - 1] := by rw [List.getLast?_eq_getElem?, List.getElem?_eq_getElem (by omega)]
          exact chain_last hch hl
        show (bif false then _ else bif false then true else bif asI (((allR s).getD x3 []).getD 0 undef) == 6 then true else false) = true
        rw [this]; rfl⟩
theorem clean_walk (vs cs : List Value) (hv : okArgs aCl vs cs) (w : World) (hgl : GlW w) : Calls Tryd.prog 5 vs.toArray w fun e w' => e = .returned (.bool true) ∧ Below w.heap.size w w' :=
  law_calls good_cl1 Tryd.func5 3000 aCl (fun cs _ => clean_law cs) vs cs hv w hgl
end Go.Proofs.YtfjldllegmfooaaDoor.Lx
end

section
/- Quote: contracts. No condition. -/
namespace Go.Proofs.YtfjldllegmfooaaDoor.Lx
open Go.RowKit Go.IntWalk Go.Proofs.YtfjldllegmfooaaDoor.X

def bytR (l : Bs) : List (List Value) := l.map fun c => [Value.int .u8 (c.toNat : Int)]
def appR (xs ys : List (List Value)) : List (List Value) := match ys with
  | [] => xs
  | y :: r => xs ++ (y :: r)
theorem appR_eq (xs ys : List (List Value)) : appR xs ys = xs ++ ys := by cases ys <;> simp [appR]
def qtR (xs : List (List Value)) (s : ByteArray) (i : Int) : List (List Value) := appR xs (bytR ((s.data.toList.drop i.toNat).flatMap quoC))
def cQtL : Con where
  ps := [.s 0, .i .i64 8, .i .i64 9, .r 4 5 bK]
  bl := []
  top := 8
  pre := fun σ => 0 ≤ σ.I 9 ∧ σ.I 9 ≤ σ.I 8 ∧ σ.I 8 = (σ.S 0).size ∧ (σ.S 0).size ≤ 1099511627776 ∧ (σ.R 4).length + 4 * ((σ.S 0).size - σ.I 9) ≤ 1099511627776
  post := fun σ => .leaf (.exit 0) [(0, .gs (σ.S 0)), (8, .gi .i64 (σ.I 8)), (3, .gr 8 5 bK (qtR (σ.R 4) (σ.S 0) (σ.I 9)))] [] [4]
noncomputable def bQtL : Code := loopAt Tryd.prog 3 "lexer.go:302"
noncomputable def lQtL : LCon := { c := cQtL, sl := [0, 8, 9, 3], nt := Tryd.f18.ntmps, hv := nubN (writes bQtL) [], meas := fun σ => (σ.I 8 - σ.I 9).toNat, mvr := [4] }
noncomputable def LqtL : Lib := { Llive with ls := (3, "lexer.go:302", lQtL) :: Llive.ls }
def qtS (s : ByteArray) : ByteArray := bs (quoteT s.data.toList)
def cQt : Con where
  ps := [.s 0]
  bl := []
  top := 0
  pre := fun σ => (σ.S 0).size ≤ 268435456
  post := fun σ => .leaf .ret [(0, .gs (qtS (σ.S 0)))] [] []
noncomputable def Lqt : Lib := { LqtL with cs := (18, cQt) :: LqtL.cs }
def aTx : List ArgK := [(false, [.str])]
end Go.Proofs.YtfjldllegmfooaaDoor.Lx
end

section
/- Written by vc.py: what is to be shown, read out. No condition. -/
set_option maxRecDepth 1000000
set_option maxHeartbeats 0
namespace Go.Proofs.YtfjldllegmfooaaDoor.Lx
open Go.RowKit Go.Proofs.YtfjldllegmfooaaDoor.X
theorem qtl_round (σ : Dt) (α : At') (rest : Nat → Value) : (lQtL.goal Tryd.prog Llive.mk' 2000 bQtL σ α rest) = (
let x0 := decide (σ.I 9 < σ.I 8);
let x1 := (↑((σ.S 0).data.getD (σ.I 9).toNat (0 : UInt8)).toNat : Int);
let x2 := x1 == (34 : Int);
let x3 := bif x2 then x2 else x1 == (92 : Int);
let x4 := (σ.R 4).length = (σ.R 4).length;
let x5 := [[Value.int IntKind.u8 x1]];
let x6 := σ.R 4 ++ [Value.int IntKind.u8 (92 : Int)] :: x5;
let x7 := x6.length;
let x8 := IntKind.i64.wrap (σ.I 9 + (1 : Int));
let x9 := (0 : Int) ≤ x8;
let x10 := x8 ≤ σ.I 8;
let x11 := σ.I 8 = (↑(σ.S 0).size : Int);
let x12 := (σ.S 0).size ≤ 1099511627776;
let x13 := (4 : Int) * ((↑(σ.S 0).size : Int) - x8);
let x14 := (σ.I 8 - x8).toNat < (σ.I 8 - σ.I 9).toNat;
let x15 := qtR (σ.R 4) (σ.S 0) (σ.I 9);
let x16 := asSt ([], []) = ([], []);
let x17 := x1 == (10 : Int);
let x18 := σ.R 4 ++ [[Value.int IntKind.u8 (92 : Int)], [Value.int IntKind.u8 (110 : Int)]];
let x19 := x18.length;
let x20 := x1 == (9 : Int);
let x21 := σ.R 4 ++ [[Value.int IntKind.u8 (92 : Int)], [Value.int IntKind.u8 (116 : Int)]];
let x22 := x21.length;
let x23 := decide (x1 < (32 : Int));
let x24 := bif x23 then x23 else decide (x1 > (126 : Int));
let x25 := x1.fdiv (16 : Int);
let x26 := IntKind.u8.wrap (↑(BitVec.ofInt 8 x1 &&& BitVec.ofInt 8 (15 : Int)).toNat : Int);
let x27 := (ByteArray.mk (#[(48 : UInt8), (49 : UInt8), (50 : UInt8), (51 : UInt8), (52 : UInt8), (53 : UInt8), (54 : UInt8), (55 : UInt8), (56 : UInt8), (57 : UInt8), (97 : UInt8), (98 : UInt8), (99 : UInt8), (100 : UInt8), (101 : UInt8), (102 : UInt8)])).data;
let x28 := σ.R 4 ++ [[Value.int IntKind.u8 (92 : Int)], [Value.int IntKind.u8 (120 : Int)], [Value.int IntKind.u8 (↑(x27.getD x25.toNat (0 : UInt8)).toNat : Int)], [Value.int IntKind.u8 (↑(x27.getD x26.toNat (0 : UInt8)).toNat : Int)]];
let x29 := x28.length;
let x30 := σ.R 4 ++ x5;
let x31 := x30.length;
true = true ∧ (x0 = true → ((0 : Int) ≤ σ.I 9 ∧ σ.I 9 < (↑(σ.S 0).size : Int)) ∧ (x3 = true → (x4 ∧ True ∧ x7 ≤ 9223372036854775807 ∧ x7 * 1 ≤ 140737488355328) ∧ true = true ∧ true = true ∧ (True ∧ x7 = x7) ∧ (x9 ∧ x10 ∧ x11 ∧ x12 ∧ (↑x7 : Int) + x13 ≤ (1099511627776 : Int)) ∧ x14 ∧ Po.leaf (Ex.exit
    0) [(0, Pt.gs (σ.S 0)), (8, Pt.gi IntKind.i64 (σ.I 8)), (3, Pt.gr 8 (5 : TypeId) [PK.int IntKind.u8] (qtR x6 (σ.S 0) x8))] [] [4] = Po.leaf (Ex.exit 0) [(0, Pt.gs (σ.S 0)), (8, Pt.gi IntKind.i64 (σ.I 8)), (3, Pt.gr 8 (5 : TypeId) [PK.int IntKind.u8] x15)] [] [4] ∧ x16) ∧ (x3 =
    false → (x17 = true → (x4 ∧ True ∧ x19 ≤ 9223372036854775807 ∧ x19 * 1 ≤ 140737488355328) ∧ true = true ∧ true = true ∧ (True ∧ x19 = x19) ∧ (x9 ∧ x10 ∧ x11 ∧ x12 ∧ (↑x19 : Int) + x13 ≤ (1099511627776 : Int)) ∧ x14 ∧ Po.leaf (Ex.exit 0) [(0, Pt.gs (σ.S 0)), (8, Pt.gi IntKind.i64 (σ.I 8)), (3,
    Pt.gr 8 (5 : TypeId) [PK.int IntKind.u8] (qtR x18 (σ.S 0) x8))] [] [4] = Po.leaf (Ex.exit 0) [(0, Pt.gs (σ.S 0)), (8, Pt.gi IntKind.i64 (σ.I 8)), (3, Pt.gr 8 (5 : TypeId) [PK.int IntKind.u8] x15)] [] [4] ∧ x16) ∧ (x17 = false → (x20 = true → (x4 ∧ True ∧ x22 ≤
    9223372036854775807 ∧ x22 * 1 ≤ 140737488355328) ∧ true = true ∧ true = true ∧ (True ∧ x22 = x22) ∧ (x9 ∧ x10 ∧ x11 ∧ x12 ∧ (↑x22 : Int) + x13 ≤ (1099511627776 : Int)) ∧ x14 ∧ Po.leaf (Ex.exit 0) [(0, Pt.gs (σ.S 0)), (8, Pt.gi IntKind.i64 (σ.I 8)), (3, Pt.gr 8 (5 : TypeId) [PK.int
    IntKind.u8] (qtR x21 (σ.S 0) x8))] [] [4] = Po.leaf (Ex.exit 0) [(0, Pt.gs (σ.S 0)), (8, Pt.gi IntKind.i64 (σ.I 8)), (3, Pt.gr 8 (5 : TypeId) [PK.int IntKind.u8] x15)] [] [4] ∧ x16) ∧ (x20 = false → (x24 = true → ((0 : Int) ≤ x25 ∧ x25 < (16 : Int)) ∧ ((0 : Int) ≤ x26 ∧ x26 < (16 :
    Int)) ∧ (x4 ∧ True ∧ x29 ≤ 9223372036854775807 ∧ x29 * 1 ≤ 140737488355328) ∧ true = true ∧ true = true ∧ (True ∧ x29 = x29) ∧ (x9 ∧ x10 ∧ x11 ∧ x12 ∧ (↑x29 : Int) + x13 ≤ (1099511627776 : Int)) ∧ x14 ∧ Po.leaf (Ex.exit 0) [(0, Pt.gs (σ.S 0)), (8, Pt.gi IntKind.i64 (σ.I 8)), (3, Pt.gr 8
    (5 : TypeId) [PK.int IntKind.u8] (qtR x28 (σ.S 0) x8))] [] [4] = Po.leaf (Ex.exit 0) [(0, Pt.gs (σ.S 0)), (8, Pt.gi IntKind.i64 (σ.I 8)), (3, Pt.gr 8 (5 : TypeId) [PK.int IntKind.u8] x15)] [] [4] ∧ x16) ∧ (x24 = false → (x4 ∧ True ∧ x31 ≤ 9223372036854775807 ∧ x31 * 1 ≤
    140737488355328) ∧ true = true ∧ true = true ∧ (True ∧ x31 = x31) ∧ (x9 ∧ x10 ∧ x11 ∧ x12 ∧ (↑x31 : Int) + x13 ≤ (1099511627776 : Int)) ∧ x14 ∧ Po.leaf (Ex.exit 0) [(0, Pt.gs (σ.S 0)), (8, Pt.gi IntKind.i64 (σ.I 8)), (3, Pt.gr 8 (5 : TypeId) [PK.int IntKind.u8] (qtR x30 (σ.S 0) x8))] []
    [4] = Po.leaf (Ex.exit 0) [(0, Pt.gs (σ.S 0)), (8, Pt.gi IntKind.i64 (σ.I 8)), (3, Pt.gr 8 (5 : TypeId) [PK.int IntKind.u8] x15)] [] [4] ∧ x16))))) ∧ (x0 = false → true = true ∧ Ex.exit 0 = Ex.exit 0 ∧ true = true ∧ ((True ∧ σ.S 0 = σ.S 0) ∧ σ.I 8 = σ.I 8) ∧ x4 ∧ σ.R 4 = x15)) := by kernel_rfl

theorem qt_goal (σ : Dt) (α : At') : (cQt.goal Tryd.prog LqtL.mk' 1000 Tryd.f18 σ α) = (
let x0 := [[Value.int IntKind.u8 (34 : Int)]];
let x1 := qtR x0 (σ.S 0) (0 : Int);
let x2 := x1.length;
let x3 := x1 ++ x0;
let x4 := x3.length;
((True ∧ 1 = 1) ∧ (0 : Int) ≤ (0 : Int) ∧ (0 : Int) ≤ (↑(σ.S 0).size : Int) ∧ (↑(σ.S 0).size : Int) = (↑(σ.S 0).size : Int) ∧ (σ.S 0).size ≤ 1099511627776 ∧ (1 : Int) + (4 : Int) * ((↑(σ.S 0).size : Int) - (0 : Int)) ≤ (1099511627776 : Int)) ∧ (x2 = x2 ∧ True ∧ x4 ≤ 9223372036854775807 ∧ x4 * 1 ≤
    140737488355328) ∧ x4 ≤ x4 ∧ True ∧ Ex.ret = Ex.ret ∧ true = true ∧ True ∧ (ByteArray.mk (List.map (fun r => UInt8.ofNat (asI (r.getD 0 (Value.tuple #[]))).toNat) (List.take x4 x3)).toArray) = qtS (σ.S 0)) := by kernel_rfl

theorem texts_goal (σ : Dt) (α : At') : ((run Tryd.prog (Lqt.mk' fun _ _ _ _ => False) 3000 Tryd.f6 (argsV σ α aTx 0)).sat (hands Tryd.prog Tryd.f6 (.bool true))) = (
let x0 := decide ((↑(σ.S 0).size : Int) > (16000 : Int));
let x1 := bif x0 then (σ.S 0).extract 0 16000 else σ.S 0;
let x2 := qtS x1;
let x3 := allE x2 == (0 : Int);
let x4 := allR x2;
let x5 := x4.length;
let x6 := (↑x5 : Int);
let x7 := x6 == (2 : Int);
let x8 := x5 ≤ x5;
let x9 := asI ((x4.getD 0 []).getD 0 (Value.tuple #[])) == (3 : Int) && (asI ((x4.getD 0 []).getD 1 (Value.tuple #[])) == (1 : Int) && (asI ((x4.getD 0 []).getD 2 (Value.tuple #[])) == (0 : Int) && ((asS ((x4.getD 0 []).getD 3 (Value.tuple #[]))).toList == x1.toList && true)));
(x0 = true → (0 : Int) ≤ (16000 : Int) ∧ (16000 : Int) ≤ (↑(σ.S 0).size : Int)) ∧ (True ∧ x1.size ≤ 268435456) ∧ (True ∧ True) ∧ (x3 = true → x7 = true → ((0 : Int) ≤ (0 : Int) ∧ (0 : Int) < x6 ∧ x8) ∧ 0 < x5 ∧ (x9 = true → ((0 : Int) ≤ (1 : Int) ∧ (1 : Int) < x6 ∧ x8) ∧ 1 < x5)) ∧ True ∧ Value.bool
    (bif x3 then bif x7 then bif x9 then bif asI ((x4.getD 1 []).getD 0 (Value.tuple #[])) == (6 : Int) then true else false else false else false else false) = Value.bool true) := by kernel_rfl

end Go.Proofs.YtfjldllegmfooaaDoor.Lx
end

section
/- Quote; LexerTexts: for every text the law hands back true. No condition. -/
set_option maxRecDepth 100000
namespace Go.Proofs.YtfjldllegmfooaaDoor.Lx
open Go.RowKit Go.IntWalk Go.Proofs.YtfjldllegmfooaaDoor.X

theorem qtR_step {xs : List (List Value)} {s : ByteArray} {i : Int} (h0 : 0 ≤ i) (h1 : i < s.size) : qtR (xs ++ bytR (quoC (byt s.data.toList i.toNat))) s (i + 1) = qtR xs s i := by
  unfold qtR
  rw [appR_eq, appR_eq]
  have hl : i.toNat < s.data.toList.length := by rw [data_len]; omega
  have e : byt s.data.toList i.toNat = s.data.toList[i.toNat] := by unfold byt; rw [getD_in _ _ hl]
  rw [List.drop_eq_getElem_cons hl, List.flatMap_cons, show (i + 1).toNat = i.toNat + 1 by omega, e]
  unfold bytR
  rw [List.map_append, List.append_assoc]
theorem hx_hi : ∀ c : Fin 256, ((ByteArray.mk (#[(48 : UInt8), (49 : UInt8), (50 : UInt8), (51 : UInt8), (52 : UInt8), (53 : UInt8), (54 : UInt8), (55 : UInt8), (56 : UInt8), (57 : UInt8), (97 : UInt8), (98 : UInt8), (99 : UInt8), (100 : UInt8), (101 : UInt8), (102 : UInt8)])).data.getD ((c.val : Int).fdiv (16 : Int)).toNat 0) = hexC (c.val / 16) := by decide +kernel
theorem hx_lo : ∀ c : Fin 256, ((ByteArray.mk (#[(48 : UInt8), (49 : UInt8), (50 : UInt8), (51 : UInt8), (52 : UInt8), (53 : UInt8), (54 : UInt8), (55 : UInt8), (56 : UInt8), (57 : UInt8), (97 : UInt8), (98 : UInt8), (99 : UInt8), (100 : UInt8), (101 : UInt8), (102 : UInt8)])).data.getD (IntKind.u8.wrap (((BitVec.ofInt 8 (c.val : Int) &&& BitVec.ofInt 8 (15 : Int)).toNat : Nat) : Int)).toNat 0) = hexC (c.val % 16) := by decide +kernel
theorem hx_bd : ∀ c : Fin 256, ((0 : Int) ≤ (c.val : Int).fdiv (16 : Int) ∧ (c.val : Int).fdiv (16 : Int) < 16) ∧ (0 : Int) ≤ IntKind.u8.wrap (((BitVec.ofInt 8 (c.val : Int) &&& BitVec.ofInt 8 (15 : Int)).toNat : Nat) : Int) ∧ IntKind.u8.wrap (((BitVec.ofInt 8 (c.val : Int) &&& BitVec.ofInt 8 (15 : Int)).toNat : Nat) : Int) < 16 := by decide +kernel
theorem good_qtL : Lib.Good Tryd.prog LqtL := lib_loop good_live 3 "lexer.go:302" (by kernel_rfl) lQtL 2000 fun σ α rest hp => by
  refine (qtl_round σ α rest).mpr ?_
  obtain ⟨h0, h1, h8, hz, hb⟩ := (show 0 ≤ σ.I 9 ∧ σ.I 9 ≤ σ.I 8 ∧ σ.I 8 = (σ.S 0).size ∧ (σ.S 0).size ≤ 1099511627776 ∧ ((σ.R 4).length : Int) + 4 * ((σ.S 0).size - σ.I 9) ≤ 1099511627776 from hp)
  intro x0 x1 x2 x3 x4 x5 x6 x7 x8 x9 x10 x11 x12 x13 x14 x15 x16 x17 x18 x19 x20 x21 x22 x23 x24 x25 x26 x27 x28 x29 x30 x31
  have e1 : x1 = ((byt (σ.S 0).data.toList (σ.I 9).toNat).toNat : Int) := by show ((_ : Nat) : Int) = _; rw [getD_byt]
  have eb : ∀ n : Nat, n < 256 → (x1 == (n : Int)) = decide (byt (σ.S 0).data.toList (σ.I 9).toNat = UInt8.ofNat n) := fun n hn => by
    rw [e1, Bool.eq_iff_iff, beq_iff_eq, decide_eq_true_iff]
    constructor
    · intro h; have h := Int.ofNat.inj h; rw [← h, UInt8.ofNat_toNat]
    · intro h; rw [h, UInt8.toNat_ofNat']; congr 1; omega
  refine ⟨rfl, fun h => ?_, fun h => ?_⟩
  · have hlt : σ.I 9 < σ.I 8 := of_decide_eq_true h
    have e8 : x8 = σ.I 9 + 1 := i64_in _ (by omega)
    have hs := fun xs => qtR_step (xs := xs) h0 (show σ.I 9 < (σ.S 0).size by omega)
    have e3 : x3 = decide (byt (σ.S 0).data.toList (σ.I 9).toNat = 34 ∨ byt (σ.S 0).data.toList (σ.I 9).toNat = 92) := by
      have a := eb 34 (by decide)
      have b := eb 92 (by decide)
      show (bif x1 == 34 then x1 == 34 else x1 == 92) = _
      rw [show (x1 == 34) = _ from a, show (x1 == 92) = _ from b]
      by_cases h : byt (σ.S 0).data.toList (σ.I 9).toNat = 34 <;> by_cases h' : byt (σ.S 0).data.toList (σ.I 9).toNat = 92 <;> simp [h, h']
    have e16 : x17 = decide (byt (σ.S 0).data.toList (σ.I 9).toNat = 10) := eb 10 (by decide)
    have e19 : x20 = decide (byt (σ.S 0).data.toList (σ.I 9).toNat = 9) := eb 9 (by decide)
    have e23 : x24 = decide ((byt (σ.S 0).data.toList (σ.I 9).toNat).toNat < 32 ∨ (byt (σ.S 0).data.toList (σ.I 9).toNat).toNat > 126) := by
      show (bif decide (x1 < 32) then decide (x1 < 32) else decide (x1 > 126)) = _
      rw [e1]
      by_cases h : (byt (σ.S 0).data.toList (σ.I 9).toNat).toNat < 32 <;> by_cases h' : (byt (σ.S 0).data.toList (σ.I 9).toNat).toNat > 126 <;> simp [h, h'] <;> omega
    have k1 := hx_bd ⟨(byt (σ.S 0).data.toList (σ.I 9).toNat).toNat, UInt8.toNat_lt _⟩
    have k2 := hx_hi ⟨(byt (σ.S 0).data.toList (σ.I 9).toNat).toNat, UInt8.toNat_lt _⟩
    have k3 := hx_lo ⟨(byt (σ.S 0).data.toList (σ.I 9).toNat).toNat, UInt8.toNat_lt _⟩
    have es : ∀ ys : List (List Value), ys = bytR (quoC (byt (σ.S 0).data.toList (σ.I 9).toNat)) → qtR (σ.R 4 ++ ys) (σ.S 0) x8 = x15 ∧ (σ.R 4 ++ ys).length = (σ.R 4).length + (quoC (byt (σ.S 0).data.toList (σ.I 9).toNat)).length := fun ys hy => by
      rw [hy, e8]
      exact ⟨hs _, by unfold bytR; rw [List.length_append, List.length_map]⟩
    have hq := quoC_len (byt (σ.S 0).data.toList (σ.I 9).toNat)
    generalize hc : byt (σ.S 0).data.toList (σ.I 9).toNat = c at e1 e3 e16 e19 e23 k1 k2 k3 es hq
    refine ⟨⟨h0, by omega⟩, fun h3 => ?_, fun h3 => ⟨fun h16 => ?_, fun h16 => ⟨fun h19 => ?_, fun h19 => ⟨fun h23 => ?_, fun h23 => ?_⟩⟩⟩⟩
    · rw [e3] at h3
      have eq : quoC c = [92, c] := by unfold quoC; rw [if_pos (of_decide_eq_true h3)]
      obtain ⟨g1, g2⟩ := es ([Value.int IntKind.u8 (92 : Int)] :: x5) (by rw [eq]; show _ :: [[Value.int IntKind.u8 x1]] = _; rw [e1]; rfl)
      rw [eq] at g2
      have g3 : x7 = (σ.R 4).length + 2 := g2
      refine ⟨⟨rfl, trivial, by omega, by omega⟩, rfl, rfl, ⟨trivial, rfl⟩, ⟨by show 0 ≤ x8; omega, by show x8 ≤ _; omega, h8, hz, by show _ + 4 * (((σ.S 0).size : Int) - x8) ≤ _; omega⟩, by show (_ - x8).toNat < _; omega, by rw [show qtR x6 (σ.S 0) x8 = x15 from g1], rfl⟩
    · rw [e3] at h3; rw [e16] at h16
      have eq : quoC c = [92, 110] := by unfold quoC; rw [if_neg (of_decide_eq_false h3), if_pos (of_decide_eq_true h16)]
      obtain ⟨g1, g2⟩ := es ([[Value.int IntKind.u8 (92 : Int)], [Value.int IntKind.u8 (110 : Int)]]) (by rw [eq]; rfl)
      rw [eq] at g2
      have g3 : x19 = (σ.R 4).length + 2 := g2
      refine ⟨⟨rfl, trivial, by omega, by omega⟩, rfl, rfl, ⟨trivial, rfl⟩, ⟨by show 0 ≤ x8; omega, by show x8 ≤ _; omega, h8, hz, by show _ + 4 * (((σ.S 0).size : Int) - x8) ≤ _; omega⟩, by show (_ - x8).toNat < _; omega, by rw [show qtR x18 (σ.S 0) x8 = x15 from g1], rfl⟩
    · rw [e3] at h3; rw [e16] at h16; rw [e19] at h19
      have eq : quoC c = [92, 116] := by unfold quoC; rw [if_neg (of_decide_eq_false h3), if_neg (of_decide_eq_false h16), if_pos (of_decide_eq_true h19)]
      obtain ⟨g1, g2⟩ := es ([[Value.int IntKind.u8 (92 : Int)], [Value.int IntKind.u8 (116 : Int)]]) (by rw [eq]; rfl)
      rw [eq] at g2
      have g3 : x22 = (σ.R 4).length + 2 := g2
      refine ⟨⟨rfl, trivial, by omega, by omega⟩, rfl, rfl, ⟨trivial, rfl⟩, ⟨by show 0 ≤ x8; omega, by show x8 ≤ _; omega, h8, hz, by show _ + 4 * (((σ.S 0).size : Int) - x8) ≤ _; omega⟩, by show (_ - x8).toNat < _; omega, by rw [show qtR x21 (σ.S 0) x8 = x15 from g1], rfl⟩
    · rw [e3] at h3; rw [e16] at h16; rw [e19] at h19; rw [e23] at h23
      have eq : quoC c = [92, 120, hexC (c.toNat / 16), hexC (c.toNat % 16)] := by unfold quoC; rw [if_neg (of_decide_eq_false h3), if_neg (of_decide_eq_false h16), if_neg (of_decide_eq_false h19), if_pos (of_decide_eq_true h23)]
      have e24 : x25 = ((c.toNat : Int)).fdiv 16 := by show x1.fdiv 16 = _; rw [e1]
      have e25 : x26 = IntKind.u8.wrap (((BitVec.ofInt 8 (c.toNat : Int) &&& BitVec.ofInt 8 (15 : Int)).toNat : Nat) : Int) := by show IntKind.u8.wrap (((BitVec.ofInt 8 x1 &&& _).toNat : Nat) : Int) = _; rw [e1]
      obtain ⟨g1, g2⟩ := es ([[Value.int IntKind.u8 (92 : Int)], [Value.int IntKind.u8 (120 : Int)], [Value.int IntKind.u8 ((x27.getD x25.toNat (0 : UInt8)).toNat : Int)], [Value.int IntKind.u8 ((x27.getD x26.toNat (0 : UInt8)).toNat : Int)]]) (by
        rw [eq, e24, e25, show x27.getD _ _ = _ from k2, show x27.getD _ _ = _ from k3]; rfl)
      rw [eq] at g2
      have g3 : x29 = (σ.R 4).length + 4 := g2
      refine ⟨by rw [e24]; exact k1.1, by rw [e25]; exact k1.2, ⟨rfl, trivial, by omega, by omega⟩, rfl, rfl, ⟨trivial, rfl⟩, ⟨by show 0 ≤ x8; omega, by show x8 ≤ _; omega, h8, hz, by show _ + 4 * (((σ.S 0).size : Int) - x8) ≤ _; omega⟩, by show (_ - x8).toNat < _; omega, by rw [show qtR x28 (σ.S 0) x8 = x15 from g1], rfl⟩
    · rw [e3] at h3; rw [e16] at h16; rw [e19] at h19; rw [e23] at h23
      have eq : quoC c = [c] := by unfold quoC; rw [if_neg (of_decide_eq_false h3), if_neg (of_decide_eq_false h16), if_neg (of_decide_eq_false h19), if_neg (of_decide_eq_false h23)]
      obtain ⟨g1, g2⟩ := es x5 (by rw [eq]; show [[Value.int IntKind.u8 x1]] = _; rw [e1]; rfl)
      rw [eq] at g2
      have g3 : x31 = (σ.R 4).length + 1 := g2
      refine ⟨⟨rfl, trivial, by omega, by omega⟩, rfl, rfl, ⟨trivial, rfl⟩, ⟨by show 0 ≤ x8; omega, by show x8 ≤ _; omega, h8, hz, by show _ + 4 * (((σ.S 0).size : Int) - x8) ≤ _; omega⟩, by show (_ - x8).toNat < _; omega, by rw [show qtR x30 (σ.S 0) x8 = x15 from g1], rfl⟩
  · have hge : ¬ σ.I 9 < σ.I 8 := of_decide_eq_false h
    refine ⟨rfl, rfl, rfl, ⟨⟨trivial, rfl⟩, rfl⟩, rfl, ?_⟩
    show _ = qtR _ _ _
    unfold qtR
    rw [appR_eq, List.drop_of_length_le (by rw [data_len]; omega)]
    simp [bytR]
theorem good_qt : Lib.Good Tryd.prog Lqt := lib_con good_qtL Tryd.func18 cQt 1000 fun σ α hp => by
  rw [qt_goal]
  have hp : (σ.S 0).size ≤ 268435456 := hp
  intro x0 x1 x2 x3 x4
  have hL := data_len (σ.S 0)
  have e1 : x1 = bytR (34 :: (σ.S 0).data.toList.flatMap quoC) := by
    show qtR x0 _ _ = _
    unfold qtR; rw [appR_eq]; rfl
  have e3 : x3 = bytR (quoteT (σ.S 0).data.toList) := by
    show x1 ++ x0 = _
    rw [e1]; unfold quoteT bytR; rw [← List.cons_append, List.map_append]; rfl
  have hf := flat_len (σ.S 0).data.toList
  have e4 : x4 = ((σ.S 0).data.toList.flatMap quoC).length + 2 := by
    show x3.length = _
    rw [e3]; unfold quoteT bytR; simp
  refine ⟨⟨⟨trivial, rfl⟩, Int.le_refl _, Int.natCast_nonneg _, rfl, by omega, by omega⟩, ⟨rfl, trivial, by omega, by omega⟩, Nat.le_refl _, trivial, rfl, rfl, trivial, ?_⟩
  rw [List.take_of_length_le (Nat.le_refl _), e3]
  exact rows_bs _
theorem texts_law (cs : List Value) : SatB Tryd.prog Lqt 3000 Tryd.f6 (argsV (dtL cs) at0 aTx 0) := ⟨by
  rw [texts_goal]
  generalize (dtL cs).S 0 = s
  intro x0 x1 x2 x3 x4 x5 x6 x7 x8 x9
  have hx1 : x1.size ≤ 16000 := by
    show (bif x0 then s.extract 0 16000 else s).size ≤ _
    cases h : x0 with
    | true => show (s.extract 0 16000).size ≤ 16000; rw [ext_l, bs_size, List.length_take]; omega
    | false => have : ¬ (s.size : Int) > 16000 := of_decide_eq_false h; show s.size ≤ _; omega
  have hq : allT x2.data.toList = .ok [(1, ⟨3, 0, x1.data.toList⟩), (1, endT)] := by
    show allT (qtS x1).data.toList = _
    unfold qtS
    rw [bs_data]; exact allT_quote _ (by rw [data_len]; exact hx1)
  have e3 : x3 = true := by show (allE x2 == 0) = true; unfold allE; rw [hq]; rfl
  have e4 : x4 = [tokR 1 ⟨3, 0, x1.data.toList⟩, tokR 1 endT] := by show allR x2 = _; unfold allR; rw [hq]; rfl
  have e5 : x5 = 2 := by show x4.length = 2; rw [e4]; rfl
  have e7 : x7 = true := by show ((x5 : Int) == 2) = true; rw [e5]; rfl
  have e9 : x9 = true := by
    show (asI ((x4.getD 0 []).getD 0 undef) == (3 : Int) && (asI ((x4.getD 0 []).getD 1 undef) == (1 : Int) && (asI ((x4.getD 0 []).getD 2 undef) == (0 : Int) && ((asS ((x4.getD 0 []).getD 3 undef)).toList == x1.toList && true)))) = true
    rw [e4]
    show ((3 : Int) == 3 && ((1 : Int) == 1 && ((0 : Int) == 0 && ((bs x1.data.toList).toList == x1.toList && true)))) = true
    rw [bs_of]; simp
  refine ⟨fun h => ⟨by decide, ?_⟩, ⟨trivial, by omega⟩, ⟨trivial, trivial⟩, fun _ _ => ⟨⟨Int.le_refl _, by show (0 : Int) < (x5 : Int); omega, Nat.le_refl _⟩, by omega, fun _ => ⟨⟨by decide, by show (1 : Int) < (x5 : Int); omega, Nat.le_refl _⟩, by omega⟩⟩, trivial, ?_⟩
  · have : (s.size : Int) > 16000 := of_decide_eq_true h
    omega
  · show Value.bool (bif x3 then bif x7 then bif x9 then bif asI ((x4.getD 1 []).getD 0 undef) == 6 then true else false else false else false else false) = _
    rw [e3, e7, e9, e4]; rfl⟩
theorem texts_walk (vs cs : List Value) (hv : okArgs aTx vs cs) (w : World) (hgl : GlW w) : Calls Tryd.prog 6 vs.toArray w fun e w' => e = .returned (.bool true) ∧ Below w.heap.size w w' :=
  law_calls good_qt Tryd.func6 3000 aTx (fun cs _ => texts_law cs) vs cs hv w hgl
end Go.Proofs.YtfjldllegmfooaaDoor.Lx
end

section
/- LexerLines: contracts. No condition. -/
namespace Go.Proofs.YtfjldllegmfooaaDoor.Lx
open Go.RowKit Go.IntWalk Go.Proofs.YtfjldllegmfooaaDoor.X

def linR (xs : List (List Value)) (s : ByteArray) (f : Int) : List (List Value) := appR xs (rowsS (split (s.data.toList.drop f.toNat)).dropLast)
def linF (s : ByteArray) (f : Int) : Int := (s.size : Int) - (((split (s.data.toList.drop f.toNat)).getLast?.getD []).length : Nat)
def LinP (s : ByteArray) (xs : List (List Value)) (f i : Int) : Prop := 0 ≤ f ∧ f ≤ i ∧ i ≤ s.size ∧ s.size ≤ 1099511627776 ∧ (xs.length : Int) ≤ f ∧ 10 ∉ (s.data.toList.take i.toNat).drop f.toNat
def cLinL : Con where
  ps := [.s 0, .r 4 9 [.str], .i .i64 8, .i .i64 9]
  bl := []
  top := 8
  pre := fun σ => LinP (σ.S 0) (σ.R 4) (σ.I 8) (σ.I 9)
  post := fun σ => .leaf (.exit 0) [(0, .gs (σ.S 0)), (3, .gr 8 9 [.str] (linR (σ.R 4) (σ.S 0) (σ.I 8))), (4, .gi .i64 (linF (σ.S 0) (σ.I 8)))] [] [4]
noncomputable def bLinL : Code := loopAt Tryd.prog 4 "ref.go:214"
noncomputable def lLinL : LCon := { c := cLinL, sl := [0, 3, 4, 5], nt := Tryd.f17.ntmps, hv := nubN (writes bLinL) [], meas := fun σ => ((σ.S 0).size - σ.I 9).toNat, mvr := [4] }
noncomputable def LlinL : Lib := { Lqt with ls := (4, "ref.go:214", lLinL) :: Lqt.ls }
def lnsR (s : ByteArray) : List (List Value) := rowsS (lines s.data.toList)
def cLin : Con where
  ps := [.s 0]
  bl := []
  top := 0
  pre := fun σ => (σ.S 0).size ≤ 1099511627776
  post := fun σ => .leaf .ret [(0, .gr 0 9 [.str] (lnsR (σ.S 0)))] [] []
noncomputable def Llin : Lib := { LlinL with cs := (17, cLin) :: LlinL.cs }
/-- Tokens of two texts, one behind the other. -/
def TwoP (X Y Z : List (List Value)) (k i : Int) : Prop := ∃ rx ry : List (Nat × Tok), ∃ n : Nat, X = toksR rx ∧ Y = toksR ry ∧ Z = toksR (rx ++ ry.map fun q => (q.1 + n, q.2)) ∧ k = n ∧ n ≤ 1099511627776 ∧ Z.length ≤ 1099511627776 ∧ (∀ q ∈ ry, q.1 ≤ 1099511627776) ∧ 0 ≤ i ∧ i ≤ Z.length
def cTwoL : Con where
  ps := [.r 0 32 tokK, .r 4 32 tokK, .r 8 32 tokK, .i .i64 12, .i .i64 13]
  bl := []
  top := 12
  pre := fun σ => TwoP (σ.R 0) (σ.R 4) (σ.R 8) (σ.I 12) (σ.I 13)
  post := fun σ => .leaf (.exit 0) [(5, .k 0 (σ.R 0).length), (8, .k 4 (σ.R 4).length), (11, .k 8 (σ.R 8).length), (14, .gi .i64 (σ.I 12))] [] []
noncomputable def bTwoL : Code := loopAt Tryd.prog 14 "law.go:106"
noncomputable def lTwoL : LCon := { c := cTwoL, sl := [5, 8, 11, 14, 15], nt := Tryd.f4.ntmps, hv := nubN (writes bTwoL) [], meas := fun σ => ((σ.R 8).length - σ.I 13).toNat }
noncomputable def LtwoL : Lib := { Llin with ls := (14, "law.go:106", lTwoL) :: Llin.ls }
def aLn : List ArgK := [(false, [.str]), (false, [.str])]
end Go.Proofs.YtfjldllegmfooaaDoor.Lx
end

section
/- Written by vc.py: what is to be shown, read out. No condition. -/
set_option maxRecDepth 1000000
set_option maxHeartbeats 0
namespace Go.Proofs.YtfjldllegmfooaaDoor.Lx
open Go.RowKit Go.Proofs.YtfjldllegmfooaaDoor.X
theorem linl_round (σ : Dt) (α : At') (rest : Nat → Value) : (lLinL.goal Tryd.prog Lqt.mk' 2000 bLinL σ α rest) = (
let x0 := σ.I 9 < (↑(σ.S 0).size : Int);
let x1 := decide x0;
let x2 := (↑((σ.S 0).data.getD (σ.I 9).toNat (0 : UInt8)).toNat : Int) == (10 : Int);
let x3 := (σ.R 4).length = (σ.R 4).length;
let x4 := σ.R 4 ++ [[Value.string ((σ.S 0).extract (σ.I 8).toNat (σ.I 9).toNat)]];
let x5 := x4.length;
let x6 := IntKind.i64.wrap (σ.I 9 + (1 : Int));
let x7 := ((↑(σ.S 0).size : Int) - x6).toNat < ((↑(σ.S 0).size : Int) - σ.I 9).toNat;
let x8 := linR (σ.R 4) (σ.S 0) (σ.I 8);
let x9 := asSt ([], []) = ([], []);
true = true ∧ (x1 = true → ((0 : Int) ≤ σ.I 9 ∧ x0) ∧ (x2 = true → (((0 : Int) ≤ σ.I 9 ∧ σ.I 9 ≤ (↑(σ.S 0).size : Int)) ∧ (0 : Int) ≤ σ.I 8 ∧ σ.I 8 ≤ σ.I 9) ∧ (x3 ∧ True ∧ x5 ≤ 9223372036854775807 ∧ x5 * 16 ≤ 140737488355328) ∧ true = true ∧ true = true ∧ (True ∧ x5 = x5) ∧ LinP (σ.S 0) x4 x6 x6 ∧
    x7 ∧ Po.leaf (Ex.exit 0) [(0, Pt.gs (σ.S 0)), (3, Pt.gr 8 (9 : TypeId) [PK.str] (linR x4 (σ.S 0) x6)), (4, Pt.gi IntKind.i64 (linF (σ.S 0) x6))] [] [4] = Po.leaf (Ex.exit 0) [(0, Pt.gs (σ.S 0)), (3, Pt.gr 8 (9 : TypeId) [PK.str] x8), (4, Pt.gi IntKind.i64 (linF (σ.S 0) (σ.I
    8)))] [] [4] ∧ x9) ∧ (x2 = false → true = true ∧ true = true ∧ (True ∧ x3) ∧ LinP (σ.S 0) (σ.R 4) (σ.I 8) x6 ∧ x7 ∧ Po.leaf (Ex.exit 0) [(0, Pt.gs (σ.S 0)), (3, Pt.gr 8 (9 : TypeId) [PK.str] x8), (4, Pt.gi IntKind.i64 (linF (σ.S 0) (σ.I 8)))] [] [4] = Po.leaf (Ex.exit 0) [(0, Pt.gs
    (σ.S 0)), (3, Pt.gr 8 (9 : TypeId) [PK.str] x8), (4, Pt.gi IntKind.i64 (linF (σ.S 0) (σ.I 8)))] [] [4] ∧ x9)) ∧ (x1 = false → true = true ∧ Ex.exit 0 = Ex.exit 0 ∧ true = true ∧ ((True ∧ σ.S 0 = σ.S 0) ∧ x3 ∧ σ.R 4 = x8) ∧ σ.I 8 = linF (σ.S 0) (σ.I 8))) := by kernel_rfl

theorem lin_goal (σ : Dt) (α : At') : (cLin.goal Tryd.prog LlinL.mk' 1000 Tryd.f17 σ α) = (
let x0 := decide (linF (σ.S 0) (0 : Int) < (↑(σ.S 0).size : Int));
let x1 := linR [] (σ.S 0) (0 : Int);
let x2 := x1.length;
let x3 := x2 = x2;
let x4 := x1 ++ [[Value.string ((σ.S 0).extract (linF (σ.S 0) (0 : Int)).toNat (σ.S 0).size)]];
let x5 := x4.length;
((True ∧ 0 = 0) ∧ LinP (σ.S 0) [] (0 : Int) (0 : Int)) ∧ (x0 = true → ((0 : Int) ≤ linF (σ.S 0) (0 : Int) ∧ linF (σ.S 0) (0 : Int) ≤ (↑(σ.S 0).size : Int)) ∧ (x3 ∧ True ∧ x5 ≤ 9223372036854775807 ∧ x5 * 16 ≤ 140737488355328) ∧ True ∧ Ex.ret = Ex.ret ∧ true = true ∧ True ∧ x5 = x5 ∧ x4 = lnsR (σ.S
    0)) ∧ (x0 = false → True ∧ Ex.ret = Ex.ret ∧ true = true ∧ True ∧ x3 ∧ x1 = lnsR (σ.S 0))) := by kernel_rfl

theorem twol_round (σ : Dt) (α : At') (rest : Nat → Value) : (lTwoL.goal Tryd.prog Llin.mk' 2000 bTwoL σ α rest) = (
let x0 := σ.I 13 < (↑(σ.R 8).length : Int);
let x1 := decide x0;
let x2 := σ.I 13 < (↑(σ.R 0).length : Int);
let x3 := decide x2;
let x4 := IntKind.i64.wrap (σ.I 13 - (↑(σ.R 0).length : Int));
let x5 := x4.toNat;
let x6 := !((asI (((σ.R 8).getD (σ.I 13).toNat []).getD 0 (Value.tuple #[])) == bif x3 then asI (((σ.R 0).getD (σ.I 13).toNat []).getD 0 (Value.tuple #[])) else asI (((σ.R 4).getD x5 []).getD 0 (Value.tuple #[]))) && ((asI (((σ.R 8).getD (σ.I 13).toNat []).getD 1 (Value.tuple #[])) == bif x3 then
    asI (((σ.R 0).getD (σ.I 13).toNat []).getD 1 (Value.tuple #[])) else IntKind.i64.wrap (asI (((σ.R 4).getD x5 []).getD 1 (Value.tuple #[])) + σ.I 12)) && ((asI (((σ.R 8).getD (σ.I 13).toNat []).getD 2 (Value.tuple #[])) == bif x3 then asI (((σ.R 0).getD (σ.I 13).toNat []).getD 2 (Value.tuple
    #[])) else asI (((σ.R 4).getD x5 []).getD 2 (Value.tuple #[]))) && ((asS (((σ.R 8).getD (σ.I 13).toNat []).getD 3 (Value.tuple #[]))).toList == (bif x3 then asS (((σ.R 0).getD (σ.I 13).toNat []).getD 3 (Value.tuple #[])) else asS (((σ.R 4).getD x5 []).getD 3 (Value.tuple #[]))).toList &&
    true))));
let x7 := (σ.R 0).length = (σ.R 0).length;
let x8 := (σ.R 4).length = (σ.R 4).length;
let x9 := (σ.R 8).length = (σ.R 8).length;
let x10 := ((True ∧ x7) ∧ x8) ∧ x9;
let x11 := IntKind.i64.wrap (σ.I 13 + (1 : Int));
true = true ∧ (x1 = true → ((x3 = true → ((0 : Int) ≤ σ.I 13 ∧ x2 ∧ (σ.R 0).length ≤ (σ.R 0).length) ∧ (σ.I 13).toNat < (σ.R 0).length) ∧ (x3 = false → ((0 : Int) ≤ x4 ∧ x4 < (↑(σ.R 4).length : Int) ∧ (σ.R 4).length ≤ (σ.R 4).length) ∧ x5 < (σ.R 4).length)) ∧ ((0 : Int) ≤ σ.I 13 ∧ x0 ∧ (σ.R
    8).length ≤ (σ.R 8).length) ∧ (σ.I 13).toNat < (σ.R 8).length ∧ (x6 = true → true = true ∧ Ex.exit 0 = Ex.ret ∧ true = true ∧ False) ∧ (x6 = false → true = true ∧ true = true ∧ x10 ∧ TwoP (σ.R 0) (σ.R 4) (σ.R 8) (σ.I 12) x11 ∧ ((↑(σ.R 8).length : Int) - x11).toNat < ((↑(σ.R 8).length : Int) -
    σ.I 13).toNat ∧ Po.leaf (Ex.exit 0) [(5, Pt.k 0 (σ.R 0).length), (8, Pt.k 4 (σ.R 4).length), (11, Pt.k 8 (σ.R 8).length), (14, Pt.gi IntKind.i64 (σ.I 12))] [] [] = Po.leaf (Ex.exit 0) [(5, Pt.k 0 (σ.R 0).length), (8, Pt.k 4 (σ.R 4).length), (11, Pt.k 8 (σ.R 8).length), (14, Pt.gi IntKind.i64
    (σ.I 12))] [] [] ∧ asSt ([], [(0, (32 : TypeId), [PK.int IntKind.i64, PK.int IntKind.i64, PK.int IntKind.i64, PK.str], σ.R 0), (4, (32 : TypeId), [PK.int IntKind.i64, PK.int IntKind.i64, PK.int IntKind.i64, PK.str], σ.R 4), (8, (32 : TypeId), [PK.int
    IntKind.i64, PK.int IntKind.i64, PK.int IntKind.i64, PK.str], σ.R 8)]) = ([], [(0, (32 : TypeId), [PK.int IntKind.i64, PK.int IntKind.i64, PK.int IntKind.i64, PK.str], σ.R 0), (4, (32 : TypeId), [PK.int IntKind.i64, PK.int IntKind.i64, PK.int IntKind.i64, PK.str], σ.R
    4), (8, (32 : TypeId), [PK.int IntKind.i64, PK.int IntKind.i64, PK.int IntKind.i64, PK.str], σ.R 8)]))) ∧ (x1 = false → true = true ∧ Ex.exit 0 = Ex.exit 0 ∧ true = true ∧ (((x10 ∧ σ.I 12 = σ.I 12) ∧ x7 ∧ σ.R 0 = σ.R 0) ∧ x8 ∧ σ.R 4 = σ.R 4) ∧ x9 ∧ σ.R 8 = σ.R 8)) := by kernel_rfl

theorem lines_goal (σ : Dt) (α : At') : ((run Tryd.prog (LtwoL.mk' fun _ _ _ _ => False) 3000 Tryd.f4 (argsV σ α aLn 0)).sat (hands Tryd.prog Tryd.f4 (.bool true))) = (
let x0 := (σ.S 0).size + 1 ≤ 9223372036854775807;
let x1 := σ.S 0 ++ (ByteArray.mk (#[(10 : UInt8)]));
let x2 := x1.size;
let x3 := allE x1;
let x4 := x1 ++ σ.S 1;
let x5 := allE x4;
let x6 := bif x3 == (6 : Int) then true else bif allE (σ.S 1) == (6 : Int) then true else x5 == (6 : Int);
let x7 := x3 != (0 : Int);
let x8 := x5 == (100 : Int);
let x9 := allL x4;
let x10 := allE (σ.S 1) != (0 : Int);
let x11 := (↑(lnsR x1).length : Int);
let x12 := allR x4;
let x13 := x12.length;
let x14 := allR x1;
let x15 := x14.length;
let x16 := bif x5 != (0 : Int) then true else (↑x13 : Int) != IntKind.i64.wrap ((↑x15 : Int) + (↑(allR (σ.S 1)).length : Int));
x0 ∧ (True ∧ True) ∧ (True ∧ True) ∧ x0 ∧ x2 + (σ.S 1).size ≤ 9223372036854775807 ∧ (True ∧ True) ∧ x0 ∧ (True ∧ x2 ≤ 1099511627776) ∧ (x6 = true → True ∧ Value.bool true = Value.bool true) ∧ (x6 = false → (x7 = true → True ∧ Value.bool (bif x8 then bif x9 == allL x1 then true else false else false)
    = Value.bool true) ∧ (x7 = false → (x10 = true → True ∧ Value.bool (bif x8 then bif x9 == IntKind.i64.wrap (allL (σ.S 1) + x11) then true else false else false) = Value.bool true) ∧ (x10 = false → (x16 = true → True ∧ Value.bool false = Value.bool true) ∧ (x16 = false → ((((True ∧ x15 = x15) ∧
    (allR (σ.S 1)).length = (allR (σ.S 1)).length) ∧ x13 = x13) ∧ TwoP x14 (allR (σ.S 1)) x12 x11 (0 : Int)) ∧ True ∧ Value.bool true = Value.bool true))))) := by kernel_rfl

end Go.Proofs.YtfjldllegmfooaaDoor.Lx
end

section
/- Lines of a text (the document's), LexerLines: for every two texts the law hands back true. No condition. -/
set_option maxRecDepth 100000
namespace Go.Proofs.YtfjldllegmfooaaDoor.Lx
open Go.RowKit Go.IntWalk Go.Proofs.YtfjldllegmfooaaDoor.X

theorem split_suf : ∀ l : Bs, ∃ p, l = p ++ (split l).getLast (split_ne l)
  | [] => ⟨[], rfl⟩
  | c :: r => by
    obtain ⟨p, hp⟩ := split_suf r
    by_cases h : c = 10
    · refine ⟨c :: p, ?_⟩
      have e : split (c :: r) = [] :: split r := by rw [split, if_pos h]
      have : (split (c :: r)).getLast (split_ne _) = (split r).getLast (split_ne r) := by
        simp only [e]; exact List.getLast_cons (split_ne r)
      rw [this, List.cons_append, ← hp]
    · cases hs : split r with
      | nil => exact absurd hs (split_ne r)
      | cons w ws =>
        have e : split (c :: r) = (c :: w) :: ws := by rw [split, if_neg h, hs]
        cases ws with
        | nil =>
          refine ⟨[], ?_⟩
          have h1 : (split (c :: r)).getLast (split_ne _) = c :: w := by simp only [e]; rfl
          have h2 : (split r).getLast (split_ne r) = w := by simp only [hs]; rfl
          have h3 := split_bulk r
          rw [hs] at h3
          have h4 : w.length = r.length := by simpa [bulk] using h3
          rw [h2] at hp
          have h5 : p = [] := by
            have := congrArg List.length hp
            rw [List.length_append] at this
            exact List.length_eq_zero_iff.1 (by omega)
          rw [h1, hp, h5]; rfl
        | cons w2 ws =>
          refine ⟨c :: p, ?_⟩
          have h1 : (split (c :: r)).getLast (split_ne _) = (split r).getLast (split_ne r) := by simp only [e, hs]; rfl
          rw [h1, List.cons_append, ← hp]
theorem last_get {l : Bs} : (split l).getLast? = some ((split l).getLast (split_ne l)) := List.getLast?_eq_some_getLast _
theorem cut_nl {l : Bs} {f i : Nat} (h1 : f ≤ i) (h2 : i < l.length) (hb : byt l i = 10) (hn : 10 ∉ (l.take i).drop f) : split (l.drop f) = (l.take i).drop f :: split (l.drop (i + 1)) := by
  have e : l.drop f = (l.take i).drop f ++ 10 :: l.drop (i + 1) := by
    have hx : l[i] = 10 := by rw [← hb]; unfold byt; rw [getD_in _ _ h2]
    conv => lhs; rw [← List.take_append_drop i l]
    rw [List.drop_append_of_le_length (by rw [List.length_take]; omega), List.drop_eq_getElem_cons h2, hx]
  rw [e, split_app, split_plain _ hn]; rfl
theorem linR_nl {xs : List (List Value)} {s : ByteArray} {f i : Int} (h0 : 0 ≤ f) (h1 : f ≤ i) (h2 : i < s.size) (hb : byt s.data.toList i.toNat = 10) (hn : 10 ∉ (s.data.toList.take i.toNat).drop f.toNat) :
    linR (xs ++ [[Value.string (s.extract f.toNat i.toNat)]]) s (i + 1) = linR xs s f ∧ linF s (i + 1) = linF s f := by
  have hc := cut_nl (l := s.data.toList) (f := f.toNat) (i := i.toNat) (by omega) (by rw [data_len]; omega) hb hn
  unfold linR linF
  rw [hc, show (i + 1).toNat = i.toNat + 1 by omega, appR_eq, appR_eq, List.dropLast_cons_of_ne_nil (split_ne _)]
  refine ⟨?_, ?_⟩
  · rw [List.append_assoc]
    congr 1
    show [Value.string (s.extract f.toNat i.toNat)] :: _ = [Value.string (bs _)] :: _
    rw [ext_m]; rfl
  · rw [last_get, List.getLast?_cons_of_ne_nil (split_ne _), last_get]
theorem linR_end {xs : List (List Value)} {s : ByteArray} {f : Int} (h0 : 0 ≤ f) (h2 : f ≤ s.size) (hn : 10 ∉ s.data.toList.drop f.toNat) : linR xs s f = xs ∧ linF s f = f := by
  unfold linR linF
  rw [split_plain _ hn, appR_eq]
  refine ⟨by simp [rowsS], ?_⟩
  show (s.size : Int) - ((s.data.toList.drop f.toNat).length : Nat) = f
  rw [List.length_drop, data_len]; omega
theorem good_linL : Lib.Good Tryd.prog LlinL := lib_loop good_qt 4 "ref.go:214" (by kernel_rfl) lLinL 2000 fun σ α rest hp => by
  refine (linl_round σ α rest).mpr ?_
  obtain ⟨h0, h1, h2, h3, h4, hn⟩ := (show LinP (σ.S 0) (σ.R 4) (σ.I 8) (σ.I 9) from hp)
  intro x0 x1 x2 x3 x4 x5 x6 x7 x8 x9
  have e2 : x2 = decide (byt (σ.S 0).data.toList (σ.I 9).toNat = 10) := by
    show (((_ : Nat) : Int) == 10) = _
    rw [getD_byt, Bool.eq_iff_iff, beq_iff_eq, decide_eq_true_iff]
    exact ⟨fun h => UInt8.toNat_inj.1 (Int.ofNat.inj h), fun h => by rw [h]; rfl⟩
  refine ⟨rfl, fun h => ?_, fun h => ?_⟩
  · have hlt : σ.I 9 < (σ.S 0).size := of_decide_eq_true h
    have e6 : x6 = σ.I 9 + 1 := i64_in _ (by omega)
    have hL := data_len (σ.S 0)
    refine ⟨⟨by omega, hlt⟩, fun hb => ?_, fun hb => ?_⟩
    · rw [e2] at hb
      obtain ⟨s1, s2⟩ := linR_nl (xs := σ.R 4) h0 h1 hlt (of_decide_eq_true hb) hn
      have e5 : x5 = (σ.R 4).length + 1 := by show (σ.R 4 ++ [_]).length = _; simp
      refine ⟨⟨⟨by omega, by omega⟩, h0, h1⟩, ⟨rfl, trivial, by omega, by omega⟩, rfl, rfl, ⟨trivial, rfl⟩, ⟨by omega, by omega, by omega, h3, by show (x5 : Int) ≤ _; omega, ?_⟩, by show (_ - x6).toNat < _; omega, ?_, rfl⟩
      · rw [List.drop_of_length_le (by rw [List.length_take]; omega)]; simp
      · rw [e6, s2, show linR x4 (σ.S 0) (σ.I 9 + 1) = x8 from s1]
    · rw [e2] at hb
      refine ⟨rfl, rfl, ⟨trivial, rfl⟩, ⟨h0, by omega, by omega, h3, h4, ?_⟩, by show (_ - x6).toNat < _; omega, rfl, rfl⟩
      rw [e6, show (σ.I 9 + 1).toNat = (σ.I 9).toNat + 1 by omega, List.take_add_one, List.drop_append_of_le_length (by rw [List.length_take]; omega)]
      intro hm
      rcases List.mem_append.1 hm with hm | hm
      · exact hn hm
      · have hl : (σ.I 9).toNat < (σ.S 0).data.toList.length := by omega
        rw [List.getElem?_eq_getElem hl] at hm
        have : (10 : UInt8) = (σ.S 0).data.toList[(σ.I 9).toNat] := by simpa using hm
        exact of_decide_eq_false hb (by unfold byt; rw [getD_in _ _ hl]; exact this.symm)
  · have hge : ¬ σ.I 9 < (σ.S 0).size := of_decide_eq_false h
    have hn' : 10 ∉ (σ.S 0).data.toList.drop (σ.I 8).toNat := by
      rw [List.take_of_length_le (by rw [data_len]; omega)] at hn; exact hn
    obtain ⟨s1, s2⟩ := linR_end (xs := σ.R 4) h0 (by omega) hn'
    exact ⟨rfl, rfl, rfl, ⟨⟨trivial, rfl⟩, rfl, s1.symm⟩, s2.symm⟩
theorem good_lin : Lib.Good Tryd.prog Llin := lib_con good_linL Tryd.func17 cLin 1000 fun σ α hp => by
  rw [lin_goal]
  have hp : (σ.S 0).size ≤ 1099511627776 := hp
  intro x0 x1 x2 x3 x4 x5
  have hL := data_len (σ.S 0)
  have hb := split_bulk (σ.S 0).data.toList
  have hg := bulk_ge (split (σ.S 0).data.toList)
  have e1 : x1 = rowsS (split (σ.S 0).data.toList).dropLast := by
    show linR [] _ 0 = _
    unfold linR; rw [appR_eq]; rfl
  obtain ⟨p, hpp⟩ := split_suf (σ.S 0).data.toList
  have hln := congrArg List.length hpp
  rw [List.length_append, hL] at hln
  have eF : linF (σ.S 0) 0 = (p.length : Int) := by
    unfold linF
    rw [show (0 : Int).toNat = 0 from rfl, List.drop_zero, last_get]
    show _ - (((split (σ.S 0).data.toList).getLast (split_ne _)).length : Int) = _
    omega
  have e5 : x5 = (split (σ.S 0).data.toList).length := by
    show (x1 ++ [_]).length = _
    rw [e1, List.length_append]; unfold rowsS; rw [List.length_map, List.length_dropLast]
    have := List.length_pos_iff.2 (split_ne (σ.S 0).data.toList)
    simp only [List.length_singleton]; omega
  refine ⟨⟨⟨trivial, rfl⟩, Int.le_refl _, Int.le_refl _, Int.natCast_nonneg _, hp, Int.le_refl _, by simp⟩, fun h => ?_, fun h => ?_⟩
  · have h : linF (σ.S 0) 0 < ((σ.S 0).size : Int) := of_decide_eq_true h
    refine ⟨⟨by rw [eF]; omega, by omega⟩, ⟨rfl, trivial, by omega, by omega⟩, trivial, rfl, rfl, trivial, rfl, ?_⟩
    show x1 ++ [_] = rowsS (lines _)
    rw [eF] at h
    have hne : (split (σ.S 0).data.toList).getLast (split_ne _) ≠ [] := fun e => by rw [e] at hln; simp at hln; omega
    rw [lines_eq, if_neg (by rw [last_get]; simpa using hne), e1, eF]
    conv => rhs; rw [← List.dropLast_concat_getLast (split_ne (σ.S 0).data.toList)]
    unfold rowsS
    rw [List.map_append]
    congr 2
    rw [ext_r, Int.toNat_natCast]
    show [Value.string (bs _)] = [Value.string (bs _)]
    congr 3
    conv => lhs; rw [hpp]
    exact List.drop_left
  · have h : ¬ linF (σ.S 0) 0 < ((σ.S 0).size : Int) := of_decide_eq_false h
    refine ⟨trivial, rfl, rfl, trivial, rfl, ?_⟩
    show x1 = rowsS (lines _)
    rw [eF] at h
    have he : (split (σ.S 0).data.toList).getLast (split_ne _) = [] := List.length_eq_zero_iff.1 (by omega)
    rw [lines_eq, if_pos (by rw [last_get, he]), e1]
theorem toksR_len (r : List (Nat × Tok)) : (toksR r).length = r.length := by unfold toksR; rw [List.length_map]
theorem tok_same (k n : Int) (v : Int) (t : ByteArray) : (!((k == k) && ((n == n) && ((v == v) && (t.toList == t.toList && true))))) = false := by simp
theorem good_twoL : Lib.Good Tryd.prog LtwoL := lib_loop good_lin 14 "law.go:106" (by kernel_rfl) lTwoL 2000 fun σ α rest hp => by
  refine (twol_round σ α rest).mpr ?_
  have hT : TwoP (σ.R 0) (σ.R 4) (σ.R 8) (σ.I 12) (σ.I 13) := hp
  obtain ⟨rx, ry, n, eX, eY, eZ, ek, hn, hz, hq, h0, h1⟩ := id hT
  intro x0 x1 x2 x3 x4 x5 x6 x7 x8 x9 x10 x11
  have lX : (σ.R 0).length = rx.length := by rw [eX, toksR_len]
  have lY : (σ.R 4).length = ry.length := by rw [eY, toksR_len]
  have lZ : (σ.R 8).length = rx.length + ry.length := by rw [eZ, toksR_len, List.length_append, List.length_map]
  refine ⟨rfl, fun h => ?_, fun _ => ⟨rfl, rfl, rfl, ⟨⟨⟨⟨⟨⟨trivial, rfl⟩, rfl⟩, rfl⟩, rfl⟩, rfl, rfl⟩, rfl, rfl⟩, rfl, rfl⟩⟩
  have hlt : σ.I 13 < (σ.R 8).length := of_decide_eq_true h
  have e11 : x11 = σ.I 13 + 1 := i64_in _ (by omega)
  have eZi : ∀ (hi : (σ.I 13).toNat < (rx ++ ry.map fun q => (q.1 + n, q.2)).length), (σ.R 8).getD (σ.I 13).toNat [] = tokR (rx ++ ry.map fun q => (q.1 + n, q.2))[(σ.I 13).toNat].1 (rx ++ ry.map fun q => (q.1 + n, q.2))[(σ.I 13).toNat].2 := fun hi => by
    rw [eZ]; exact toksR_at hi
  have hi : (σ.I 13).toNat < (rx ++ ry.map fun q => (q.1 + n, q.2)).length := by rw [List.length_append, List.length_map]; omega
  have eZi := eZi hi
  have g : x6 = false ∧ (x3 = false → ((0 : Int) ≤ x4 ∧ x4 < ((σ.R 4).length : Int) ∧ (σ.R 4).length ≤ (σ.R 4).length) ∧ x5 < (σ.R 4).length) := by
    cases h3 : x3 with
    | true =>
      have h3 : σ.I 13 < (σ.R 0).length := of_decide_eq_true h3
      have hj : (σ.I 13).toNat < rx.length := by omega
      rw [List.getElem_append_left hj] at eZi
      have eXi : (σ.R 0).getD (σ.I 13).toNat [] = tokR rx[(σ.I 13).toNat].1 rx[(σ.I 13).toNat].2 := by rw [eX]; exact toksR_at hj
      refine ⟨?_, fun h => by cases h⟩
      show (!((asI (((σ.R 8).getD (σ.I 13).toNat []).getD 0 undef) == bif x3 then asI (((σ.R 0).getD (σ.I 13).toNat []).getD 0 undef) else asI (((σ.R 4).getD x5 []).getD 0 undef)) && ((asI (((σ.R 8).getD (σ.I 13).toNat []).getD 1 undef) == bif x3 then asI (((σ.R 0).getD (σ.I 13).toNat []).getD 1 undef) else IntKind.i64.wrap (asI (((σ.R 4).getD x5 []).getD 1 undef) + σ.I 12)) && ((asI (((σ.R 8).getD (σ.I 13).toNat []).getD 2 undef) == bif x3 then asI (((σ.R 0).getD (σ.I 13).toNat []).getD 2 undef) else asI (((σ.R 4).getD x5 []).getD 2 undef)) && ((asS (((σ.R 8).getD (σ.I 13).toNat []).getD 3 undef)).toList == (bif x3 then asS (((σ.R 0).getD (σ.I 13).toNat []).getD 3 undef) else asS (((σ.R 4).getD x5 []).getD 3 undef)).toList && true))))) = false
      rw [show x3 = true from decide_eq_true h3, eZi, eXi]
      exact tok_same _ _ _ _
    | false =>
      have h3' : ¬ σ.I 13 < (σ.R 0).length := of_decide_eq_false h3
      have e4 : x4 = σ.I 13 - (σ.R 0).length := i64_in _ (by omega)
      have e5 : x5 = (σ.I 13).toNat - rx.length := by show x4.toNat = _; omega
      have hj : (σ.I 13).toNat - rx.length < ry.length := by omega
      have hge : rx.length ≤ (σ.I 13).toNat := by omega
      rw [List.getElem_append_right hge, List.getElem_map] at eZi
      have eYi : (σ.R 4).getD x5 [] = tokR ry[(σ.I 13).toNat - rx.length].1 ry[(σ.I 13).toNat - rx.length].2 := by rw [eY, e5]; exact toksR_at hj
      have hb := hq ry[(σ.I 13).toNat - rx.length] (List.getElem_mem hj)
      refine ⟨?_, fun _ => ⟨⟨by omega, by omega, Nat.le_refl _⟩, by omega⟩⟩
      show (!((asI (((σ.R 8).getD (σ.I 13).toNat []).getD 0 undef) == bif x3 then asI (((σ.R 0).getD (σ.I 13).toNat []).getD 0 undef) else asI (((σ.R 4).getD x5 []).getD 0 undef)) && ((asI (((σ.R 8).getD (σ.I 13).toNat []).getD 1 undef) == bif x3 then asI (((σ.R 0).getD (σ.I 13).toNat []).getD 1 undef) else IntKind.i64.wrap (asI (((σ.R 4).getD x5 []).getD 1 undef) + σ.I 12)) && ((asI (((σ.R 8).getD (σ.I 13).toNat []).getD 2 undef) == bif x3 then asI (((σ.R 0).getD (σ.I 13).toNat []).getD 2 undef) else asI (((σ.R 4).getD x5 []).getD 2 undef)) && ((asS (((σ.R 8).getD (σ.I 13).toNat []).getD 3 undef)).toList == (bif x3 then asS (((σ.R 0).getD (σ.I 13).toNat []).getD 3 undef) else asS (((σ.R 4).getD x5 []).getD 3 undef)).toList && true))))) = false
      rw [h3, eZi, eYi, ek]
      have ew : IntKind.i64.wrap (asI ((tokR (ry[(σ.I 13).toNat - rx.length].1 : Nat) ry[(σ.I 13).toNat - rx.length].2).getD 1 undef) + (n : Int)) = ((ry[(σ.I 13).toNat - rx.length].1 + n : Nat) : Int) := by
        show IntKind.i64.wrap (((ry[(σ.I 13).toNat - rx.length].1 : Nat) : Int) + (n : Int)) = _
        rw [i64_in _ (by omega)]; omega
      simp only [cond_false]
      rw [ew]
      exact tok_same _ _ _ _
  refine ⟨⟨fun h3 => ?_, g.2⟩, ⟨h0, hlt, Nat.le_refl _⟩, by omega, fun h6 => ?_, fun _ => ⟨rfl, rfl, ⟨⟨⟨trivial, rfl⟩, rfl⟩, rfl⟩, ⟨rx, ry, n, eX, eY, eZ, ek, hn, hz, hq, by omega, by omega⟩, by omega, rfl, rfl⟩⟩
  · have h3 : σ.I 13 < (σ.R 0).length := of_decide_eq_true h3
    exact ⟨⟨h0, h3, Nat.le_refl _⟩, by omega⟩
  · rw [g.1] at h6; cases h6
theorem linesT_le : ∀ (ls : List Bs) (n m : Nat), linesT n ls = .error m → m < n + ls.length
  | [], n, m, h => by cases h
  | l :: ls, n, m, h => by
    rw [linesT] at h
    cases hl : lineT l with
    | none => rw [hl] at h; simp only [Except.error.injEq] at h; rw [List.length_cons]; omega
    | some ts =>
      rw [hl] at h
      simp only at h
      cases hr : linesT (n + 1) ls with
      | error k =>
        rw [hr] at h
        simp only [Except.error.injEq] at h
        have := linesT_le ls (n + 1) k hr
        rw [List.length_cons]; omega
      | ok r' => rw [hr] at h; cases h
theorem lines_bulk' (l : Bs) : bulk (lines l) ≤ l.length + 1 := by
  have hb := split_bulk l
  rw [lines_eq]
  split
  · rw [List.dropLast_eq_take]; have := bulk_take (split l) ((split l).length - 1); omega
  · omega
/-- What All answers, by its error. -/
theorem all_cases (s : ByteArray) : (allE s = 6 ∧ allR s = []) ∨ (∃ n, linesT 1 (lines s.data.toList) = .error n ∧ allE s = 100 ∧ allL s = n ∧ allR s = []) ∨ ∃ r, linesT 1 (lines s.data.toList) = .ok r ∧ allE s = 0 ∧ allL s = 0 ∧ allR s = toksR r ∧ s.size ≤ 65536 := by
  have hL := data_len s
  unfold allE allR allL
  cases h : allT s.data.toList with
  | error q =>
    unfold allT at h
    split at h
    · simp only [Except.error.injEq] at h; subst h; exact .inl ⟨rfl, rfl⟩
    · split at h
      · simp only [Except.error.injEq] at h; subst h; exact .inl ⟨rfl, rfl⟩
      · split at h
        · rename_i n hn
          simp only [Except.error.injEq] at h
          subst h
          exact .inr (.inl ⟨n, hn, rfl, rfl, rfl⟩)
        · cases h
  | ok r =>
    obtain ⟨h0, h1⟩ := allT_ok h
    exact .inr (.inr ⟨r, h1, rfl, rfl, rfl, by omega⟩)
theorem lines_law (cs : List Value) (hz : ((dtL cs).S 0).size + ((dtL cs).S 1).size ≤ 1048576) : SatB Tryd.prog LtwoL 3000 Tryd.f4 (argsV (dtL cs) at0 aLn 0) := ⟨by
  rw [lines_goal]
  revert hz
  generalize (dtL cs).S 0 = a
  generalize (dtL cs).S 1 = b
  intro hz x0 x1 x2 x3 x4 x5 x6 x7 x8 x9 x10 x11 x12 x13 x14 x15 x16
  have e2 : x2 = a.size + 1 := by show (a ++ _).size = _; rw [ByteArray.size_append]; rfl
  have d1 : x1.data.toList = a.data.toList ++ [10] := by show (a ++ _).data.toList = _; rw [ByteArray.data_append, Array.toList_append]
  have d4 : x4.data.toList = a.data.toList ++ 10 :: b.data.toList := by show (x1 ++ b).data.toList = _; rw [ByteArray.data_append, Array.toList_append, d1, List.append_assoc]; rfl
  have l1 : lines x1.data.toList = split a.data.toList := by rw [d1, lines_nl]
  have l4 : lines x4.data.toList = split a.data.toList ++ lines b.data.toList := by rw [d4, lines_app]
  have e11 : x11 = ((split a.data.toList).length : Int) := by show ((lnsR x1).length : Int) = _; unfold lnsR rowsS; rw [l1, List.length_map]
  have happ := linesT_app (split a.data.toList) (lines b.data.toList) 1
  have hsh := linesT_shift (split a.data.toList).length (lines b.data.toList) 1
  have hsb := split_bulk a.data.toList
  have hsg := bulk_ge (split a.data.toList)
  have hda := data_len a
  have c1 := all_cases x1
  have c4 := all_cases x4
  have cb := all_cases b
  rw [l1] at c1
  rw [l4, happ, hsh] at c4
  have h0 : x0 := by show a.size + 1 ≤ _; omega
  refine ⟨h0, ⟨trivial, trivial⟩, ⟨trivial, trivial⟩, h0, by omega, ⟨trivial, trivial⟩, h0, ⟨trivial, by omega⟩, fun _ => ⟨trivial, rfl⟩, fun h6 => ?_⟩
  have h6 : (bif allE x1 == 6 then true else bif allE b == 6 then true else allE x4 == 6) = false := h6
  rcases c1 with ⟨k1, _⟩ | ⟨n1, k1, k1e, k1l, k1r⟩ | ⟨r1, k1, k1e, k1l, k1r, k1s⟩
  · rw [k1] at h6; cases h6
  · rw [k1] at c4
    rw [k1e] at h6
    have e7 : x7 = true := by show (allE x1 != 0) = true; rw [k1e]; rfl
    refine ⟨fun _ => ⟨trivial, ?_⟩, fun h => (by rw [e7] at h; cases h)⟩
    rcases c4 with ⟨k4, _⟩ | ⟨n4, k4, k4e, k4l, _⟩ | ⟨r4, k4, _⟩
    · rw [k4] at h6
      cases hb : (allE b == 6) with
      | true => rw [hb] at h6; cases h6
      | false => rw [hb] at h6; cases h6
    · simp only [Except.error.injEq] at k4
      subst k4
      show Value.bool (bif allE x4 == 100 then bif allL x4 == allL x1 then true else false else false) = _
      rw [k4e, k4l, k1l]; simp
    · cases k4
  · rw [k1] at c4
    rw [k1e] at h6
    have e7 : x7 = false := by show (allE x1 != 0) = false; rw [k1e]; rfl
    refine ⟨fun h => (by rw [e7] at h; cases h), fun _ => ?_⟩
    rcases cb with ⟨kb, _⟩ | ⟨nb, kb, kbe, kbl, _⟩ | ⟨rb, kb, kbe, kbl, kbr, kbs⟩
    · rw [kb] at h6; cases h6
    · rw [kb] at c4
      have e10 : x10 = true := by show (allE b != 0) = true; rw [kbe]; rfl
      refine ⟨fun _ => ⟨trivial, ?_⟩, fun h => (by rw [e10] at h; cases h)⟩
      rcases c4 with ⟨k4, _⟩ | ⟨n4, k4, k4e, k4l, _⟩ | ⟨r4, k4, _⟩
      · rw [k4, kbe] at h6; cases h6
      · simp only [Except.error.injEq] at k4
        have hpos := linesT_le _ _ _ kb
        have hlb := bulk_ge (lines b.data.toList)
        have hbb := lines_bulk' b.data.toList
        rw [data_len] at hbb
        show Value.bool (bif allE x4 == 100 then bif allL x4 == IntKind.i64.wrap (allL b + x11) then true else false else false) = _
        rw [k4e, k4l, kbl, e11, i64_in _ (by omega), ← k4]
        have : (((nb + (split a.data.toList).length : Nat) : Int) == (nb : Int) + ((split a.data.toList).length : Int)) = true := by rw [beq_iff_eq]; omega
        rw [this]; rfl
      · cases k4
    · rw [kb] at c4
      have e10 : x10 = false := by show (allE b != 0) = false; rw [kbe]; rfl
      refine ⟨fun h => (by rw [e10] at h; cases h), fun _ => ?_⟩
      rcases c4 with ⟨k4, _⟩ | ⟨n4, k4, _⟩ | ⟨r4, k4, k4e, k4l, k4r, k4s⟩
      · rw [k4, kbe] at h6; cases h6
      · cases k4
      · simp only [Except.ok.injEq] at k4
        have e12 : x12 = toksR r4 := k4r
        have e14 : x14 = toksR r1 := k1r
        have e13 : x13 = r1.length + rb.length := by show x12.length = _; rw [e12, toksR_len, ← k4, List.length_append, List.length_map]
        have e15 : x15 = r1.length := by show x14.length = _; rw [e14, toksR_len]
        obtain ⟨m1, m2⟩ := linesT_more _ _ _ kb
        obtain ⟨m3, _⟩ := linesT_more _ _ _ k1
        have hbb := lines_bulk' b.data.toList
        have hlb := bulk_ge (lines b.data.toList)
        rw [data_len] at hbb
        have e16 : x16 = false := by
          show (bif allE x4 != 0 then true else (x13 : Int) != IntKind.i64.wrap ((x15 : Int) + ((allR b).length : Int))) = false
          rw [k4e, kbr, toksR_len, e13, e15, i64_in _ (by omega)]
          simp
        refine ⟨fun h => (by rw [e16] at h; cases h), fun _ => ⟨⟨⟨⟨⟨trivial, rfl⟩, rfl⟩, rfl⟩, ?_⟩, trivial, rfl⟩⟩
        exact ⟨r1, rb, (split a.data.toList).length, e14, kbr, by rw [e12, ← k4], e11, by omega, by rw [show (x12).length = x13 from rfl, e13]; omega, fun q hq => by have := (m2 q hq).1; omega, Int.le_refl _, Int.natCast_nonneg _⟩⟩
theorem lines_walk (vs cs : List Value) (hv : okArgs aLn vs cs) (hz : ((dtL cs).S 0).size + ((dtL cs).S 1).size ≤ 1048576) (w : World) (hgl : GlW w) : Calls Tryd.prog 4 vs.toArray w fun e w' => e = .returned (.bool true) ∧ Below w.heap.size w w' :=
  law_calls1 good_twoL Tryd.func4 3000 aLn vs cs hv (lines_law cs hz) w hgl
end Go.Proofs.YtfjldllegmfooaaDoor.Lx
end
