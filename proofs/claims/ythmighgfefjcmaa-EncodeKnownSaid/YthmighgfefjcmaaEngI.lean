/- A region whose order is open, and where the order makes no difference: the theorem. No condition. -/
import Derived.Test.YthmighgfefjcmaaEngH
namespace Go.Proofs.Ythmighgfefjcmaa.X
open Go.RowKit

section
variable {P : Program} {φ : Specs} {F₀ : Nat → Prop} {w0 : World}

theorem RE.congr {β : Nat → Nat} {s s' : St} {a : Act} (hr : RE β s a) (he : ∀ t, look s'.env t = look s.env t) (hh : ∀ b, lookB s'.h b = lookB s.h b) (hn : s'.n = s.n) (hx : s'.nx = s.nx) : RE β s' a := by
  refine ⟨hr.defers, by rw [hn]; exact hr.size, fun t ht => ?_, fun t j hj => ?_, fun j ⟨b, hj⟩ => ?_⟩
  · rw [he] at ht ⊢; rw [hn]; exact hr.val t ht
  · rw [he] at hj
    obtain ⟨b, hb⟩ := hr.wf t j hj
    exact ⟨b, by rw [hh]; exact hb⟩
  · rw [hx]; exact hr.fresh j ⟨b, by rw [← hh]; exact hj⟩

theorem HR.drew {β : Nat → Nat} {h : Hp} {w : World} (H : HR F₀ w0 β h w) : HR F₀ w0 β h { w with drawn := w.drawn + 1 } :=
  ⟨H.os, H.tape, H.output, H.size, H.keep, H.blk, H.own, H.inj, H.wf⟩

def yes : Value → Option Bool
  | .bool b => some b
  | _ => none

theorem yielded_of {all : Array Oper} {a : Act} {j tg : Nat} (h : (all[j]?).bind (·.dst) = some tg) {v : Value} (ht : tg < a.tmps.size) (hv : a.tmps.getD tg undef = v) :
    yielded all a.tmps j = yes v := by
  unfold yielded
  rw [h]
  have : a.tmps[tg]? = some v := by
    rw [Array.getD_eq_getD_getElem?, Array.getElem?_eq_getElem ht] at hv
    rw [Array.getElem?_eq_getElem ht]
    exact congrArg some hv
  simp only [Option.bind_some, this]
  cases v <;> rfl

theorem wanted_of {all : Array Oper} {β : Nat → Nat} {s : St} {a : Act} {o : Oper} {q : Bool} (h : guardOf all s o = some q) (hr : RE β s a) : Region.wanted o (yielded all a.tmps) = q := by
  unfold guardOf at h
  split at h
  · rename_i hg
    simp only [Option.some.injEq] at h
    subst h
    simp [Region.wanted, hg]
  · rename_i j want hg
    split at h
    · cases h
    · rename_i tg htg
      split at h
      · rename_i b hq
        simp only [Option.some.injEq] at h
        subst h
        obtain ⟨v1, v2⟩ := hr.val tg (by rw [hq]; simp)
        rw [hq] at v2
        have hy := yielded_of htg (by rw [hr.size]; exact v1) v2
        simp only [den, yes] at hy
        simp only [Region.wanted, hg, hy]
        cases b <;> cases want <;> rfl
      · rename_i xs hq
        simp only [Option.some.injEq] at h
        subst h
        obtain ⟨v1, v2⟩ := hr.val tg (by rw [hq]; simp)
        rw [hq] at v2
        have hy := yielded_of htg (by rw [hr.size]; exact v1) v2
        simp only [den, yes] at hy
        simp only [Region.wanted, hg, hy]
        cases want <;> rfl
      · cases h

/-! ### loads that may come up at several times -/
theorem eqAt_ok {x y : Value} (h : eqAt x y = true) : x = y := by
  unfold eqAt at h
  split at h
  · rename_i k a k' b
    split at h
    · rename_i e _; subst e
      split at h
      · rename_i e _; subst e; rfl
      · cases h
    · cases h
  · split at h
    · rename_i e _; subst e; rfl
    · cases h
  · rename_i a b
    split at h
    · rename_i e _
      cases a with | mk a => cases b with | mk b => exact congrArg (fun d => Value.string ⟨d⟩) (Array.ext' e)
    · cases h
  · rfl
  · rw [Bool.and_eq_true] at h
    rw [Nat.eq_of_beq_eq_true h.1, Nat.eq_of_beq_eq_true h.2]
  · cases h

mutual
theorem eqV_ok : ∀ (x y : V), eqV x y = true → x = y
  | .c x, y, h => by
    cases y <;> simp only [eqV] at h <;> first | (cases h; done) | (rw [eqAt_ok h])
  | .p j o, y, h => by
    cases y <;> simp only [eqV, Bool.and_eq_true] at h <;> first | (cases h; done) | (rw [Nat.eq_of_beq_eq_true h.1, Nat.eq_of_beq_eq_true h.2])
  | .sl j o n cap, y, h => by
    cases y <;> simp only [eqV, Bool.and_eq_true] at h <;> first | (cases h; done) | (rw [Nat.eq_of_beq_eq_true h.1.1.1, Nat.eq_of_beq_eq_true h.1.1.2, Nat.eq_of_beq_eq_true h.1.2, Nat.eq_of_beq_eq_true h.2])
  | .s j c n, y, h => by
    cases y <;> simp only [eqV, Bool.and_eq_true] at h <;> first | (cases h; done) | (rw [Nat.eq_of_beq_eq_true h.1.1, Nat.eq_of_beq_eq_true h.1.2, Nat.eq_of_beq_eq_true h.2])
  | .m j, y, h => by
    cases y <;> simp only [eqV] at h <;> first | (cases h; done) | (rw [Nat.eq_of_beq_eq_true h])
  | .a xs, y, h => by
    cases y <;> simp only [eqV] at h <;> first | (cases h; done) | (rw [eqVL_ok xs _ h])
  | .v x, y, h => by simp [eqV] at h
  | .f g xs ys, y, h => by simp [eqV] at h
  | .t xs, y, h => by simp [eqV] at h
  | .u, y, h => by simp [eqV] at h
theorem eqVL_ok : ∀ (xs ys : List V), eqVL xs ys = true → xs = ys
  | [], ys, h => by cases ys with | nil => rfl | cons => simp [eqVL] at h
  | x :: xs, ys, h => by
    cases ys with
    | nil => simp [eqVL] at h
    | cons y ys =>
      simp only [eqVL, Bool.and_eq_true] at h
      rw [eqV_ok x y h.1, eqVL_ok xs ys h.2]
end

theorem mayBe_sat {t : TypeId} {o : Nat} {v : V} {b : Option Blk} {rest : T} {Q : Ex → St → Prop} (h : (mayBe P t o v b rest).sat Q) : loadB P t o b = some v ∧ rest.sat Q := by
  unfold mayBe at h
  split at h
  · exact h.elim
  · rename_i x hx
    cases e : eqV x v with
    | true => rw [e] at h; exact ⟨by rw [hx, eqV_ok x v e], h⟩
    | false => rw [e] at h; exact ⟨by rw [hx, h.1], h.2⟩

theorem alts_sat {t : TypeId} {b o : Nat} {v : V} {i mi : Nat} {ms : List Nat} {rest : T} {Q : Ex → St → Prop} : ∀ (l : List (Rec × Nat)), (alts P t b o v i mi ms rest l).sat Q →
    (∀ x ∈ l, b ∈ keysOf x.1.d → behind x.2 i (ms.getD x.2 0) = false → i ≠ x.2 → loadB P t o (lookB x.1.d b) = some v) ∧ rest.sat Q
  | [], h => ⟨by simp, h⟩
  | (rj, j) :: l, h => by
    simp only [alts] at h
    cases hc : ((keysOf rj.d).any (Nat.beq b) && !(behind j i (ms.getD j 0)) && !(Nat.beq i j)) with
    | true =>
      rw [hc] at h
      obtain ⟨h1, h2⟩ := mayBe_sat h
      obtain ⟨h3, h4⟩ := alts_sat l h2
      refine ⟨fun x hx hb hn hne => ?_, h4⟩
      rcases List.mem_cons.1 hx with rfl | hx
      · exact h1
      · exact h3 x hx hb hn hne
    | false =>
      rw [hc] at h
      obtain ⟨h3, h4⟩ := alts_sat l h
      refine ⟨fun x hx hb hn hne => ?_, h4⟩
      rcases List.mem_cons.1 hx with rfl | hx
      · exfalso
        have e1 : (keysOf rj.d).any (Nat.beq b) = true := List.any_eq_true.2 ⟨b, hb, by simp⟩
        have e2 : Nat.beq i j = false := beq_ne hne
        rw [e1, hn, e2] at hc
        cases hc
      · exact h3 x hx hb hn hne

theorem loads_sat {s : St} {tr0 : List (Rec × Nat)} {ms : List Nat} {rest : T} {Q : Ex → St → Prop} : ∀ (l : List (Rec × Nat)), (loads P s tr0 ms rest l).sat Q →
    (∀ x ∈ l, ∀ t b o, x.1.pt = some (t, b, o) → open_ b x.2 (ms.getD x.2 0) ms tr0 = true →
      loadB P t o (lookB s.h b) = some x.1.v ∧ ∀ y ∈ tr0, b ∈ keysOf y.1.d → behind y.2 x.2 (ms.getD y.2 0) = false → x.2 ≠ y.2 → loadB P t o (lookB y.1.d b) = some x.1.v) ∧ rest.sat Q
  | [], h => ⟨by simp, h⟩
  | (ri, i) :: l, h => by
    simp only [loads] at h
    split at h
    · rename_i hpt
      obtain ⟨h1, h2⟩ := loads_sat l h
      refine ⟨fun x hx t b o hp ho => ?_, h2⟩
      rcases List.mem_cons.1 hx with rfl | hx
      · rw [hpt] at hp; cases hp
      · exact h1 x hx t b o hp ho
    · rename_i t b o hpt
      cases ho : open_ b i (ms.getD i 0) ms tr0 with
      | true =>
        rw [ho] at h
        obtain ⟨h1, h2⟩ := mayBe_sat h
        obtain ⟨h3, h4⟩ := alts_sat _ h2
        obtain ⟨h5, h6⟩ := loads_sat l h4
        refine ⟨fun x hx t' b' o' hp ho' => ?_, h6⟩
        rcases List.mem_cons.1 hx with rfl | hx
        · rw [hpt] at hp
          simp only [Option.some.injEq, Prod.mk.injEq] at hp
          obtain ⟨rfl, rfl, rfl⟩ := hp
          exact ⟨h1, h3⟩
        · exact h5 x hx t' b' o' hp ho'
      | false =>
        rw [ho] at h
        obtain ⟨h5, h6⟩ := loads_sat l h
        refine ⟨fun x hx t' b' o' hp ho' => ?_, h6⟩
        rcases List.mem_cons.1 hx with rfl | hx
        · rw [hpt] at hp
          simp only [Option.some.injEq, Prod.mk.injEq] at hp
          obtain ⟨rfl, rfl, rfl⟩ := hp
          rw [ho] at ho'; cases ho'
        · exact h5 x hx t' b' o' hp ho'

theorem app_cases (D : Nat → Bool) (b : Nat) : ∀ (tr : List Rec) (i : Nat) (s : St), lookB (app D i tr s).h b = lookB s.h b ∨ ∃ j r, tr[j]? = some r ∧ D (i + j) = true ∧ b ∈ keysOf r.d ∧ lookB (app D i tr s).h b = lookB r.d b
  | [], _, _ => .inl rfl
  | r :: tr, i, s => by
    simp only [app]
    rcases app_cases D b tr (i + 1) (bif D i then X.after s r else s) with h | ⟨j, r', h1, h2, h3, h4⟩
    · rw [h]
      cases hD : D i with
      | false => exact .inl rfl
      | true =>
        simp only [cond_true, h_after, lookB_append]
        by_cases hb : b ∈ keysOf r.d
        · rw [if_pos hb]
          exact .inr ⟨0, r, rfl, by simpa using hD, hb, rfl⟩
        · rw [if_neg hb]; exact .inl rfl
    · exact .inr ⟨j + 1, r', by simpa using h1, by rw [show i + (j + 1) = i + 1 + j by omega]; exact h2, h3, h4⟩

/-- The operations behind others are done behind them. -/
def Shut (ops : Array Oper) (D : Nat → Bool) : Prop := ∀ (x : Nat) (o : Oper), ops[x]? = some o → D x = true → ∀ e ∈ bound o, D e.on = true

/-- i comes up next. -/
def Next_ (ops : Array Oper) (D : Nat → Bool) (i : Nat) : Prop := ∀ (x : Nat) (o : Oper), ops[x]? = some o → (D x = true ∨ x = i) → ∀ e ∈ bound o, D e.on = true

/-- The facts of a region that was found to be of one outcome. -/
structure Plan (P : Program) (φ : Specs) (ih : Task → St → T) (ops : Array Oper) (k k' : Nat) (s : St) (tr : List Rec) : Prop where
  len : tr.length = ops.size
  op : ∀ (i : Nat) (o : Oper), ops[i]? = some o → ∃ r, tr[i]? = some r ∧ RecOk P φ ih ops (app (fun j => decide (j < i)) 0 tr s) r.k0 o r ∧ k ≤ r.k0 ∧ r.k1 ≤ k' ∧ r.k0 ≤ r.k1
  edge : ∀ (i : Nat) (o : Oper), ops[i]? = some o → ∀ e ∈ bound o, e.on < i
  dst : ∀ (i j : Nat) (ri rj : Rec) (t : Nat), tr[i]? = some ri → tr[j]? = some rj → ri.o.dst = some t → rj.o.dst = some t → i = j
  data : ∀ (i j : Nat) (ri rj : Rec) (t : Nat) (D : Nat → Bool), tr[i]? = some ri → tr[j]? = some rj → rj.o.dst = some t → t ∈ opTmps ops ri.o → i ≠ j → D i = false → Next_ ops D i → (j < i ∧ D j = true) ∨ (i < j ∧ D j = false)
  heap : ∀ (i j : Nat) (ri rj : Rec) (b : Nat) (D : Nat → Bool), tr[i]? = some ri → tr[j]? = some rj → b ∈ keysOf rj.d → b ∈ ri.tc → i ≠ j → D i = false → Next_ ops D i →
    (j < i ∧ D j = true) ∨ (i < j ∧ D j = false) ∨ (ri.pt.isSome = true ∧ ¬ b ∈ keysOf ri.d)
  keys : ∀ (i : Nat) (ri : Rec) (b : Nat), tr[i]? = some ri → b ∈ keysOf ri.d → b ∈ ri.tc ∨ (ri.k0 ≤ b ∧ b < ri.k1)
  new : ∀ (i j : Nat) (ri rj : Rec) (b : Nat), tr[i]? = some ri → tr[j]? = some rj → b ∈ keysOf rj.d → i ≠ j → (ri.k0 ≤ b ∧ b < ri.k1) → i < j ∧ ∀ D : Nat → Bool, Shut ops D → D j = true → D i = true
  load : ∀ (i : Nat) (ri : Rec) (t : TypeId) (b o : Nat) (D : Nat → Bool), tr[i]? = some ri → ri.pt = some (t, b, o) → D i = false → Next_ ops D i →
    loadB P t o (lookB (app D 0 tr s).h b) = some ri.v ∨ ∀ (j : Nat) (rj : Rec), tr[j]? = some rj → b ∈ keysOf rj.d → D j = decide (j < i)

theorem any_beq {l : List Nat} {b : Nat} (h : b ∈ l) : l.any (Nat.beq b) = true := List.any_eq_true.2 ⟨b, h, by simp⟩
theorem not_any_beq {l : List Nat} {b : Nat} (h : l.any (Nat.beq b) = false) : ¬ b ∈ l := fun hb => by rw [any_beq hb] at h; cases h

theorem plan_of {ih : Task → St → T} {ops : Array Oper} {k k' : Nat} {s : St} {tr : List Rec} {ms : List Nat} {rest : T} {Q : Ex → St → Prop} (hlen : tr.length = ops.toList.length)
    (hop : ∀ (i : Nat) (o : Oper), ops.toList[i]? = some o → ∃ r, tr[i]? = some r ∧ RecOk P φ ih ops (app (fun j => decide (j < i)) 0 tr s) r.k0 o r ∧ k ≤ r.k0 ∧ r.k1 ≤ k' ∧ r.k0 ≤ r.k1)
    (hm : masks ops.toList [] = some ms) (hok : okAll ops tr ms = true) (hl : (loads P s tr.zipIdx ms rest tr.zipIdx).sat Q) :
    Plan P φ ih ops k k' s tr := by
  obtain ⟨_, m1, m2⟩ := masks_get _ _ _ hm
  simp only [List.length_nil, Nat.zero_add] at m1 m2
  have hedge : ∀ (i : Nat) (o : Oper), ops[i]? = some o → ∀ e ∈ bound o, e.on < i := fun i o ho => (m2 i o (by simpa using ho)).1
  have clos : ∀ (i : Nat) (D : Nat → Bool), Next_ ops D i → ∀ y, (D y = true ∨ y = i) → y < ops.size → ∀ j, (ms.getD y 0).testBit j = true → D j = true := by
    intro i D hD y
    induction y using Nat.strongRecOn with
    | _ y ih =>
      intro hy hlt j hj
      obtain ⟨e, he, h⟩ := (m2 y ops[y] (by simp [hlt])).2 j hj
      have hDe := hD y ops[y] (by simp [hlt]) hy e he
      rcases h with h | h
      · rw [← h]; exact hDe
      · have hl := (hedge y ops[y] (by simp [hlt]) e he)
        exact ih e.on hl (.inl hDe) (by omega) j h
  have hall : ∀ (i : Nat) (ri : Rec), tr[i]? = some ri → ((keysOf ri.d).all fun b => ri.tc.any (Nat.beq b) || inRange ri b) = true ∧
      ∀ (j : Nat) (rj : Rec), tr[j]? = some rj → i ≠ j → okPair ops i j ri rj (ms.getD i 0) (ms.getD j 0) = true := by
    intro i ri hi
    have h1 := List.all_eq_true.1 hok (ri, i) (List.mem_zipIdx_iff_getElem?.2 (by simpa using hi))
    simp only [Bool.and_eq_true] at h1
    refine ⟨h1.1, fun j rj hj hne => ?_⟩
    have h2 := List.all_eq_true.1 h1.2 (rj, j) (List.mem_zipIdx_iff_getElem?.2 (by simpa using hj))
    simp only [Bool.or_eq_true] at h2
    rcases h2 with h2 | h2
    · exact absurd (Nat.eq_of_beq_eq_true h2) hne
    · exact h2
  have lt_of : ∀ (i : Nat) (r : Rec), tr[i]? = some r → i < ops.size := fun i r h => by
    have := (List.getElem?_eq_some_iff.1 h).1
    simpa [hlen] using this
  have beh : ∀ (i j : Nat) (ri : Rec) (D : Nat → Bool), tr[i]? = some ri → Next_ ops D i → behind i j (ms.getD i 0) = true → j < i ∧ D j = true := by
    intro i j ri D hi hD h
    unfold behind at h
    rw [Bool.and_eq_true] at h
    exact ⟨Nat.le_of_ble_eq_true h.1, clos i D hD i (.inr rfl) (lt_of i ri hi) j h.2⟩
  have beh2 : ∀ (i j : Nat) (rj : Rec) (D : Nat → Bool), tr[j]? = some rj → Next_ ops D i → D i = false → behind j i (ms.getD j 0) = true → i < j ∧ D j = false := by
    intro i j rj D hj hD hDi h
    unfold behind at h
    rw [Bool.and_eq_true] at h
    refine ⟨Nat.le_of_ble_eq_true h.1, ?_⟩
    cases hDj : D j with
    | false => rfl
    | true =>
      have := clos i D hD j (.inl hDj) (lt_of j rj hj) i h.2
      rw [hDi] at this
      cases this
  obtain ⟨hld, _⟩ := loads_sat _ hl
  refine ⟨by simpa using hlen, fun i o ho => hop i o (by simpa using ho), hedge, fun i j ri rj t hi hj h1 h2 => ?_, fun i j ri rj t D hi hj h1 h2 hne hDi hD => ?_, fun i j ri rj b D hi hj h1 h2 hne hDi hD => ?_, fun i ri b hi hb => ?_, fun i j ri rj b hi hj hb hne hbk => ?_, fun i ri t b o D hi hp hDi hD => ?_⟩
  · by_cases e : i = j
    · exact e
    · exfalso
      have := (hall i ri hi).2 j rj hj e
      unfold okPair at this
      rw [h1, h2] at this
      simp at this
  · have := (hall i ri hi).2 j rj hj hne
    unfold okPair at this
    simp only [Bool.and_eq_true] at this
    have h3 := this.1.2
    rw [h1] at h3
    simp only [any_beq h2, Bool.not_true, Bool.false_or, Bool.or_eq_true] at h3
    rcases h3 with h3 | h3
    · exact .inl (beh i j ri D hi hD h3)
    · exact .inr (beh2 i j rj D hj hD hDi h3)
  · have := (hall i ri hi).2 j rj hj hne
    unfold okPair at this
    simp only [Bool.and_eq_true] at this
    have h3 := List.all_eq_true.1 this.2 b h1
    rw [Bool.and_eq_true] at h3
    have h3 := h3.1
    simp only [any_beq h2, Bool.not_true, Bool.false_or, Bool.or_eq_true] at h3
    rcases h3 with (h4 | h4) | h4
    · exact .inl (beh i j ri D hi hD h4)
    · exact .inr (.inl (beh2 i j rj D hj hD hDi h4))
    · rw [Bool.and_eq_true] at h4
      exact .inr (.inr ⟨h4.1, fun hb => by rw [any_beq hb] at h4; exact Bool.noConfusion h4.2⟩)
  · have := List.all_eq_true.1 (hall i ri hi).1 b hb
    simp only [Bool.or_eq_true] at this
    rcases this with h1 | h1
    · obtain ⟨c, hc, h2⟩ := List.any_eq_true.1 h1
      rw [Nat.eq_of_beq_eq_true h2]
      exact .inl hc
    · unfold inRange at h1
      rw [Bool.and_eq_true] at h1
      exact .inr ⟨Nat.le_of_ble_eq_true h1.1, Nat.le_of_ble_eq_true h1.2⟩
  · have := (hall i ri hi).2 j rj hj hne
    unfold okPair at this
    simp only [Bool.and_eq_true] at this
    have h3 := List.all_eq_true.1 this.2 b hb
    rw [Bool.and_eq_true] at h3
    have h3 := h3.2
    have hin : inRange ri b = true := by
      unfold inRange
      rw [Bool.and_eq_true]
      exact ⟨Nat.ble_eq_true_of_le hbk.1, Nat.ble_eq_true_of_le hbk.2⟩
    rw [hin] at h3
    simp only [Bool.not_true, Bool.false_or] at h3
    unfold behind at h3
    rw [Bool.and_eq_true] at h3
    exact ⟨Nat.le_of_ble_eq_true h3.1, fun D hD hDj => clos j D (fun x o ho hx => hD x o ho (hx.elim id fun e => by rw [e]; exact hDj)) j (.inl hDj) (lt_of j rj hj) i h3.2⟩
  · cases ho : open_ b i (ms.getD i 0) ms tr.zipIdx with
    | true =>
      refine .inl ?_
      obtain ⟨h1, h2⟩ := hld (ri, i) (List.mem_zipIdx_iff_getElem?.2 (by simpa using hi)) t b o hp ho
      rcases app_cases D b tr 0 s with h3 | ⟨j, rj, h3, h4, h5, h6⟩
      · rw [h3]; exact h1
      · rw [h6]
        rw [Nat.zero_add] at h4
        refine h2 (rj, j) (List.mem_zipIdx_iff_getElem?.2 (by simpa using h3)) h5 ?_ ?_
        · cases hb : behind j i (ms.getD j 0) with
          | false => rfl
          | true =>
            have := (beh2 i j rj D h3 hD hDi hb).2
            rw [h4] at this
            cases this
        · rintro rfl
          simp only at h4
          rw [hDi] at h4; cases h4
    | false =>
      refine .inr fun j rj hj hb => ?_
      have h1 : ((keysOf rj.d).any (Nat.beq b) && !(behind j i (ms.getD j 0)) && !(behind i j (ms.getD i 0))) = false := by
        have := (List.any_eq_false.1 ho) (rj, j) (List.mem_zipIdx_iff_getElem?.2 (by simpa using hj))
        simpa using this
      rw [any_beq hb] at h1
      cases h2 : behind j i (ms.getD j 0) with
      | true =>
        obtain ⟨h3, h4⟩ := beh2 i j rj D hj hD hDi h2
        rw [h4]; symm; simp; omega
      | false =>
        rw [h2] at h1
        simp only [Bool.not_false, Bool.and_self, Bool.true_and, Bool.not_eq_false'] at h1
        obtain ⟨h3, h4⟩ := beh i j ri D hi hD h1
        rw [h4]; simp [h3]

theorem countP_set (l : List Bool) : ∀ (i : Nat), l[i]? = some false → (l.set i true).countP (fun b => !b) + 1 = l.countP fun b => !b := by
  induction l with
  | nil => intro i h; simp at h
  | cons b l ih =>
    intro i h
    cases i with
    | zero => simp only [List.getElem?_cons_zero, Option.some.injEq] at h; subst h; simp
    | succ i =>
      have := ih i (by simpa using h)
      simp only [List.set_cons_succ, List.countP_cons]
      omega

theorem keys_app {tr : List Rec} {s : St} (D : Nat → Bool) (b : Nat) (hb : has (app D 0 tr s).h b) (hD : ∀ j, D j = true → ∀ r : Rec, tr[j]? = some r → ¬ b ∈ keysOf r.d) : has s.h b := by
  obtain ⟨c, hc⟩ := hb
  rcases app_cases D b tr 0 s with h | ⟨j, r, h1, h2, h3, _⟩
  · exact ⟨c, by rw [← h]; exact hc⟩
  · rw [Nat.zero_add] at h2
    exact absurd h3 (hD j h2 r h1)

theorem app_nx (D : Nat → Bool) (m : Nat) : ∀ (tr : List Rec) (i : Nat) (s : St), app D i tr { s with nx := m } = { app D i tr s with nx := m }
  | [], _, _ => rfl
  | r :: tr, i, s => by
    simp only [app]
    cases D i with
    | false => exact app_nx D m tr (i + 1) s
    | true =>
      have : X.after { s with nx := m } r = { X.after s r with nx := m } := by unfold X.after put; cases r.o.dst <;> rfl
      simp only [cond_true]
      rw [this]
      exact app_nx D m tr (i + 1) _

theorem is_nx {ih : Task → St → T} {s : St} {m k k1 : Nat} {o : Oper} {v : V} {d : Hp} (h : Is P φ ih s k o v d k1) : Is P φ ih { s with nx := m } k o v d k1 := by
  refine is_same (s := s) (fun x _ => by cases x <;> rfl) (fun _ _ => rfl) h

theorem tch_nx (s : St) (m : Nat) (o : Oper) : tch { s with nx := m } o = tch s o := by
  have he : ∀ x, ev { s with nx := m } x = ev s x := fun x => by cases x <;> rfl
  have hl : ∀ xs, evL { s with nx := m } xs = evL s xs := fun xs => List.map_congr_left fun x _ => he x
  unfold tch
  simp only [he, hl]

theorem placeOf_nx (s : St) (m : Nat) (o : Oper) : placeOf { s with nx := m } o = placeOf s o := by
  have he : ∀ x, ev { s with nx := m } x = ev s x := fun x => by cases x <;> rfl
  unfold placeOf
  simp only [he]

theorem recOk_nx {ih : Task → St → T} {all : Array Oper} {s : St} {m k : Nat} {o : Oper} {r : Rec} (h : RecOk P φ ih all s k o r) : RecOk P φ ih all { s with nx := m } k o r := by
  obtain ⟨h1, h2, h3, h4, h5, h6⟩ := h
  exact ⟨h1, h2, h3, h4, fun hon => ⟨by rw [tch_nx]; exact (h5 hon).1, by rw [placeOf_nx]; exact (h5 hon).2.1, is_nx (h5 hon).2.2⟩, h6⟩

set_option maxHeartbeats 1000000 in
theorem drawn_any (hφ : Good P φ) {n : Nat} {ih : Task → St → T} (hs : ∀ F w0, Sd P F w0 n ih) {ops : Array Oper} {k : Nat} {s : St} {tr : List Rec} (pl : Plan P φ ih ops k s.nx s tr) (hk : ∀ j, has s.h j → j < k) {β₀ : Nat → Nat} (Q : Exit → Act → World → Prop)
    (hQ : ∀ β a w, HR F₀ w0 β (app (fun _ => true) 0 tr s).h w → RE β (app (fun _ => true) 0 tr s) a → (∀ j, has s.h j → β j = β₀ j) → Q .normal a w) :
    ∀ (fuel : Nat) (listed : Array Bool) (a : Act) (w : World) (β : Nat → Nat), listed.size = ops.size → listed.toList.countP (fun b => !b) ≤ fuel →
      (∀ (x : Nat) (o : Oper), ops[x]? = some o → listed.getD x false = true → ∀ e ∈ bound o, listed.getD e.on false = true) →
      HR F₀ w0 β (app (fun j => listed.getD j false) 0 tr s).h w → RE β (app (fun j => listed.getD j false) 0 tr s) a → (∀ j, has s.h j → β j = β₀ j) →
      (∀ j, has s.h j → has (app (fun j => listed.getD j false) 0 tr s).h j) → wpAny P .any ops Q fuel listed a w := by
  intro fuel
  have ready_iff : ∀ (listed : Array Bool) (i : Nat), listed.size = ops.size → (i ∈ Region.ready .any ops listed ↔ i < ops.size ∧ listed.getD i false = false ∧ ∀ o, ops[i]? = some o → ∀ e ∈ bound o, listed.getD e.on false = true) := by
    intro listed i hsz
    unfold Region.ready
    rw [List.mem_filter, List.mem_range]
    constructor
    · rintro ⟨h1, h2⟩
      simp only [Bool.and_eq_true, Bool.not_eq_true'] at h2
      obtain ⟨h2, h3⟩ := h2
      have hg : listed.getD i false = false := by
        simp only [Array.getD_eq_getD_getElem?] at h2 ⊢
        rw [Array.getElem?_eq_getElem (by omega)] at h2 ⊢
        exact h2
      refine ⟨h1, hg, fun o ho e he => ?_⟩
      rw [ho] at h3
      simp only [Option.map_some, Option.getD_some] at h3
      obtain ⟨he1, he2⟩ := List.mem_filter.1 he
      have := Array.all_eq_true'.1 h3 e (by simpa using he1)
      rw [he2] at this
      simpa using this
    · rintro ⟨h1, h2, h3⟩
      refine ⟨h1, ?_⟩
      simp only [Bool.and_eq_true, Bool.not_eq_true']
      refine ⟨?_, ?_⟩
      · simp only [Array.getD_eq_getD_getElem?] at h2 ⊢
        rw [Array.getElem?_eq_getElem (by omega)] at h2 ⊢
        exact h2
      · rw [Array.getElem?_eq_getElem h1]
        simp only [Option.map_some, Option.getD_some]
        refine Array.all_eq_true'.2 fun e he => ?_
        cases hb : Region.binds .any e with
        | false => rfl
        | true =>
          rw [h3 _ (Array.getElem?_eq_getElem h1) e (List.mem_filter.2 ⟨by simpa using he, hb⟩)]
          rfl
  have done : ∀ (listed : Array Bool) (a : Act) (w : World) (β : Nat → Nat), listed.size = ops.size → Region.ready .any ops listed = [] →
      HR F₀ w0 β (app (fun j => listed.getD j false) 0 tr s).h w → RE β (app (fun j => listed.getD j false) 0 tr s) a → (∀ j, has s.h j → β j = β₀ j) → Q .normal a w := by
    intro listed a w β hsz hre H hr hβ
    have hall : ∀ i, i < ops.size → listed.getD i false = true := by
      intro i
      induction i using Nat.strongRecOn with
      | _ i ih =>
        intro hi
        cases hl : listed.getD i false with
        | true => rfl
        | false =>
          have : i ∈ Region.ready .any ops listed := (ready_iff listed i hsz).2 ⟨hi, hl, fun o ho e he => ih e.on (pl.edge i o ho e he) (by have := (pl.edge i o ho e he); omega)⟩
          rw [hre] at this
          cases this
    have heq : ∀ j (r : Rec), tr[j]? = some r → listed.getD (0 + j) false = true := fun j r hj => by
      rw [Nat.zero_add]
      exact hall j (by rw [← pl.len]; exact (List.getElem?_eq_some_iff.1 hj).1)
    refine hQ β a w (H.congr fun b => app_h _ _ b tr 0 s s rfl fun j r hj _ => (heq j r hj).symm) (hr.congr (fun t => app_env _ _ t tr 0 s s rfl fun j r hj _ => (heq j r hj).symm) (fun b => app_h _ _ b tr 0 s s rfl fun j r hj _ => (heq j r hj).symm) ?_ ?_) hβ
    · rw [(app_n _ tr 0 s).1, (app_n _ tr 0 s).1]
    · rw [(app_n _ tr 0 s).2, (app_n _ tr 0 s).2]
  induction fuel with
  | zero =>
    intro listed a w β hsz hc hd H hr hβ hmono
    have hnone : Region.ready .any ops listed = [] := by
      apply List.eq_nil_iff_forall_not_mem.2
      intro i hi
      obtain ⟨h1, h2, _⟩ := (ready_iff listed i hsz).1 hi
      have : 0 < listed.toList.countP (fun b => !b) := by
        apply List.countP_pos_iff.2
        refine ⟨false, ?_, rfl⟩
        have h3 : listed[i]? = some false := by
          rw [Array.getD_eq_getD_getElem?] at h2
          rw [Array.getElem?_eq_getElem (by omega)] at h2 ⊢
          simpa using h2
        exact List.mem_of_getElem? (i := i) (by simpa using h3)
      omega
    exact ⟨hnone, done listed a w β hsz hnone H hr hβ⟩
  | succ fuel ihf =>
    intro listed a w β hsz hc hd H hr hβ hmono
    refine ⟨fun hre => done listed a w β hsz hre H hr hβ, fun i hi => ?_⟩
    obtain ⟨hilt, hif, hie⟩ := (ready_iff listed i hsz).1 hi
    have hio : ops[i]? = some ops[i] := Array.getElem?_eq_getElem hilt
    obtain ⟨r, hr1, ⟨hr2, hdst, _, hguard, hon, hoff⟩, hk0, hk1, hk01⟩ := pl.op i _ hio
    generalize hD : (fun j => listed.getD j false) = D at H hr hmono
    have hDi : D i = false := by rw [← hD]; exact hif
    have hclos : ∀ (x : Nat) (o : Oper), ops[x]? = some o → (D x = true ∨ x = i) → ∀ e ∈ bound o, D e.on = true := by
      intro x o ho hx e he
      rw [← hD] at hx ⊢
      rcases hx with hx | rfl
      · exact hd x o ho hx e he
      · exact hie o ho e he
    have hpair : ∀ (j : Nat) (rj : Rec), tr[j]? = some rj → ∀ b, b ∈ keysOf rj.d → b ∈ r.tc → D j = decide (j < i) ∨ (r.pt.isSome = true ∧ ¬ b ∈ keysOf r.d) := by
      intro j rj hj b hb hbt
      by_cases e : i = j
      · subst e; rw [hDi]; simp
      · rcases pl.heap i j r rj b D hr1 hj hb hbt e hDi hclos with ⟨h1, h2⟩ | ⟨h1, h2⟩ | h2
        · rw [h2]; simp [h1]
        · rw [h2]; left; symm; simp; omega
        · exact .inr h2
    have henvs : ∀ t ∈ opTmps ops ops[i], look (app D 0 tr s).env t = look (app (fun j => decide (j < i)) 0 tr s).env t := fun t ht => app_env _ _ t tr 0 s s rfl fun j rj hj hjt => by
      rw [Nat.zero_add]
      by_cases e : i = j
      · subst e; rw [hDi]; simp
      · rcases pl.data i j r rj t D hr1 hj hjt (by rw [hr2]; exact ht) e hDi hclos with ⟨h1, h2⟩ | ⟨h1, h2⟩
        · rw [h2]; simp [h1]
        · rw [h2]; symm; simp; omega
    have hevs := ev_same henvs
    have hwant : Region.wanted ops[i] (yielded ops a.tmps) = r.on := wanted_of (by rw [guard_same henvs]; exact hguard) hr
    have hagree : r.pt = none → ∀ b, b ∈ r.tc → lookB (app D 0 tr s).h b = lookB (app (fun j => decide (j < i)) 0 tr s).h b := by
      intro hpt b hb
      refine app_h _ _ b tr 0 s s rfl fun j rj hj hjb => ?_
      rw [Nat.zero_add]
      rcases hpair j rj hj b hjb hb with h | h
      · exact h
      · rw [hpt] at h; exact Bool.noConfusion h.1
    -- the operation sees what it saw in the text's order
    have hsame : r.on = true → Is P φ ih (app D 0 tr s) r.k0 ops[i] r.v r.d r.k1 := by
      intro ho
      obtain ⟨htc, hpt, his⟩ := hon ho
      cases hp : r.pt with
      | none => exact is_same hevs (fun b hb => hagree hp b (by rw [htc]; exact hb)) his
      | some q =>
        obtain ⟨t, b, off⟩ := q
        rcases pl.load i r t b off D hr1 hp hDi hclos with h | h
        · rw [hp] at hpt
          unfold placeOf at hpt
          split at hpt
          · rename_i t' x hop
            split at hpt
            · rename_i j' o' hev
              simp only [Option.some.injEq, Prod.mk.injEq] at hpt
              obtain ⟨rfl, rfl, rfl⟩ := hpt
              have hev2 : ev (app D 0 tr s) x = .p b off := by rw [hevs x (by rw [hop]; simp [Op.operands])]; exact hev
              unfold Is at his ⊢
              rw [hop] at his ⊢
              simp only [valueCall] at his ⊢
              obtain ⟨p, hst, hp2, hk2⟩ := his
              refine ⟨none, ?_, (fun q hq => by cases hq), hk2⟩
              have hd : r.d = [] := by
                simp only [step, hop, hev, Option.bind_eq_some_iff] at hst
                obtain ⟨b1, _, hst⟩ := hst
                replace hst := (bif_some' hst).2
                simp only [Option.bind_eq_some_iff, Option.some.injEq, Prod.mk.injEq] at hst
                obtain ⟨_, _, _, h2, _⟩ := hst
                exact h2.symm
              rw [hd]
              unfold loadB at h
              obtain ⟨b1, hb1, h⟩ := Option.bind_eq_some_iff.1 h
              obtain ⟨hf, h⟩ := bif_some' h
              simp only [step, hop, hev2, hb1, Option.bind_some, hf, cond_true, h]
            · cases hpt
          · cases hpt
        · refine is_same hevs (fun c hc => app_h _ _ c tr 0 s s rfl fun j rj hj hjb => ?_) his
          rw [Nat.zero_add]
          refine h j rj hj ?_
          rw [hp] at hpt
          unfold placeOf at hpt
          split at hpt
          · rename_i t' x hop
            split at hpt
            · rename_i j' o' hev
              simp only [Option.some.injEq, Prod.mk.injEq] at hpt
              obtain ⟨rfl, rfl, rfl⟩ := hpt
              simp only [tch, hop, hev, refs, List.mem_singleton] at hc
              subst hc
              exact hjb
            · cases hpt
          · cases hpt
    have hkeys : ∀ j, has (app D 0 tr s).h j → ¬ (r.k0 ≤ j ∧ j < r.k1) := by
      intro j hj hrange
      have := keys_app D j hj fun j' hj' r' hr' hb => by
        have hne : i ≠ j' := by rintro rfl; rw [hDi] at hj'; cases hj'
        have h1 := (pl.new i j' r r' j hr1 hr' hb hne hrange).2 D (fun x o ho hx => hclos x o ho (.inl hx)) hj'
        rw [hDi] at h1
        cases h1
      have := hk j this
      omega
    have cont : ∀ β' w' x, HR F₀ w0 β' (r.d ++ (app D 0 tr s).h) w' → (∀ j, has (app D 0 tr s).h j → β' j = β j) → (r.v ≠ .u → x = den β' r.v) → (∀ j, j ∈ refs r.v → has (r.d ++ (app D 0 tr s).h) j) →
        wpAny P .any ops Q fuel (listed.setIfInBounds i true) (a.put ops[i].dst x) w' := ?cont
    · unfold wpOp
      rw [hio]
      dsimp only
      rw [hwant]
      cases ho : r.on with
      | true => rw [if_pos rfl]; exact .inl (is_ok hφ hs (hsame ho) hkeys H hr _ Q cont)
      | false =>
        rw [if_neg (by simp)]
        obtain ⟨o1, o2, _⟩ := hoff ho
        exact cont β w undef (by rw [o2]; exact H) (fun _ _ => rfl) (fun _ => by rw [o1]; rfl) (by rw [o1]; simp [refs])
    intro β' w' x H' hext hx hrefs
    -- the state behind it
    have hset : ∀ j, (listed.setIfInBounds i true).getD j false = if j = i then true else D j := by
      intro j
      rw [← hD]
      simp only [Array.getD_eq_getD_getElem?, Array.getElem?_setIfInBounds]
      by_cases e : j = i
      · subst e; simp [hsz, hilt]
      · rw [if_neg (fun e2 => e e2.symm), if_neg e]
    have hfun : (fun j => (listed.setIfInBounds i true).getD j false) = fun j => if j = i then true else D j := funext hset
    have henv : ∀ t, look (app (fun j => if j = i then true else D j) 0 tr s).env t = look (X.after (app D 0 tr s) r).env t := by
      intro t
      rw [look_after]
      by_cases e : r.o.dst = some t
      · rw [if_pos e]
        exact app_env_last _ t tr 0 s i r hr1 e (by simp) fun j' r' hj' ht' => (pl.dst j' i r' r t hj' hr1 ht' e)
      · rw [if_neg e]
        refine app_env _ _ t tr 0 s s rfl fun j rj hj hjt => ?_
        rw [Nat.zero_add]
        have : ¬ j = i := by rintro rfl; rw [hr1] at hj; injection hj with hj; subst hj; exact e hjt
        simp [this]
    have hheap : ∀ b, lookB (app (fun j => if j = i then true else D j) 0 tr s).h b = lookB (X.after (app D 0 tr s) r).h b := by
      intro b
      rw [h_after, lookB_append]
      by_cases e : b ∈ keysOf r.d
      · rw [if_pos e]
        refine app_h_last _ b tr 0 s i r hr1 e (by simp) fun j' r' hj' hb' hlt => ?_
        rw [Nat.zero_add]
        have hne : ¬ j' = i := by omega
        rw [if_neg hne]
        rcases pl.keys j' r' b hj' hb' with h1 | h1
        · -- i writes what j' touches
          cases hDj : D j' with
          | false => rfl
          | true =>
            exfalso
            rcases pl.keys i r b hr1 e with h2 | h2
            · rcases hpair j' r' hj' b hb' h2 with this | this
              · rw [hDj] at this
                simp at this
                omega
              · exact this.2 e
            · have h3 := (pl.new i j' r r' b hr1 hj' hb' (by omega) h2).2 D (fun x o ho hx => hclos x o ho (.inl hx)) hDj
              rw [hDi] at h3
              cases h3
        · have h3 := (pl.new j' i r' r b hj' hr1 e hne h1).1
          omega
      · rw [if_neg e]
        refine app_h _ _ b tr 0 s s rfl fun j rj hj hjb => ?_
        rw [Nat.zero_add]
        have : ¬ j = i := by rintro rfl; rw [hr1] at hj; injection hj with hj; subst hj; exact e hjb
        simp [this]
    have hmono' : ∀ j, has (app D 0 tr s).h j → has (r.d ++ (app D 0 tr s).h) j := by
      rintro j ⟨b, hj⟩
      by_cases e : j ∈ keysOf r.d
      · have hl : ∀ d : Hp, j ∈ keysOf d → ∃ b, lookB d j = some b := by
          intro d
          induction d with
          | nil => intro h; simp [keysOf] at h
          | cons x d ih =>
            obtain ⟨kx, cx⟩ := x
            intro h
            rw [lookB_cons]
            by_cases e : j = kx
            · exact ⟨cx, if_pos e⟩
            · rw [if_neg e]
              simp only [keysOf, List.map_cons, List.mem_cons] at h
              exact ih (h.resolve_left e)
        obtain ⟨c, hc⟩ := hl r.d e
        exact ⟨c, by rw [lookB_append, if_pos e]; exact hc⟩
      · exact ⟨b, by rw [lookB_append, if_neg e]; exact hj⟩
    have hre : RE β' (X.after (app D 0 tr s) r) (a.put ops[i].dst x) := by
      have hfr : ∀ j, has (r.d ++ (app D 0 tr s).h) j → j < (app D 0 tr s).nx := by
        rintro j ⟨b, hj⟩
        rw [lookB_append] at hj
        by_cases e : j ∈ keysOf r.d
        · rcases pl.keys i r j hr1 e with h1 | h1
          · -- a block that it touches was there
            have ho : r.on = true := by
              cases ho : r.on with
              | true => rfl
              | false => rw [(hoff ho).2.2.1] at h1; cases h1
            obtain ⟨htce, hpte, _⟩ := hon ho
            have : has (app D 0 tr s).h j := by
              have one : ∀ x, x ∈ ops[i].op.operands → j ∈ refs (ev (app (fun j => decide (j < i)) 0 tr s) x) → has (app D 0 tr s).h j := fun x hx hjx => ev_refs hr x j (by rw [hevs x hx]; exact hjx)
              have h1' := h1
              rw [htce] at h1'
              unfold tch at h1'
              split at h1'
              · rename_i x ho; exact one _ (by rw [ho]; simp [Op.operands]) h1'
              · rename_i x y ho; exact one _ (by rw [ho]; simp [Op.operands]) h1'
              · rename_i x ho; exact one _ (by rw [ho]; simp [Op.operands]) h1'
              · rename_i x _ _ _ ho; exact one _ (by rw [ho]; simp [Op.operands]) h1'
              · rename_i x _ _ ho; exact one _ (by rw [ho]; simp [Op.operands]) h1'
              · rename_i x _ _ ho; exact one _ (by rw [ho]; simp [Op.operands]) h1'
              · rename_i c ho
                split at h1'
                · obtain ⟨v, hv, hj⟩ := mem_refsL.1 h1'
                  obtain ⟨y, hy, rfl⟩ := List.mem_map.1 hv
                  exact one y (by rw [ho]; simp only [Op.operands, Call.operands, Array.mem_append]; exact .inr (by simpa using hy)) hj
                · split at h1'
                  · split at h1'
                    · rename_i h0 hres
                      have hpn : r.pt = none := by rw [hpte]; unfold placeOf; rw [ho]
                      obtain ⟨hsub, _, _⟩ := restr_ok _ _ _ _ _ hres (by intro j b hj; simp [lookB] at hj) (by intro j b hj; simp [lookB] at hj)
                      obtain ⟨c, hc⟩ := (has_iff _ _).2 h1'
                      exact ⟨c, by rw [hagree hpn j h1]; exact hsub j c hc⟩
                    · cases h1'
                  · cases h1'
                · cases h1'
              · cases h1'
            exact hr.fresh j this
          · rw [(app_n D tr 0 s).2]
            omega
        · rw [if_neg e] at hj; exact hr.fresh j ⟨b, hj⟩
      have h1 := (hr.mono (r.d ++ (app D 0 tr s).h) (app D 0 tr s).nx hext hmono' hfr).lay (d := ops[i].dst) (x := r.v) (v := x) (by
        cases hdd : ops[i].dst with
        | none => rfl
        | some t => rw [hdd] at hdst; unfold dstOk at hdst ⊢; dsimp only at hdst ⊢; rw [(app_n _ tr 0 s).1] at hdst; rw [(app_n D tr 0 s).1]; exact hdst) hx hrefs
      rw [← hr2] at h1 ⊢
      exact h1
    refine ihf (listed.setIfInBounds i true) _ w' β' (by simpa using hsz) ?_ ?_ ?_ ?_ (fun j hj => (hext j (hmono j hj)).trans (hβ j hj)) ?_
    · have := countP_set listed.toList i (by
        have h2 := hif
        rw [Array.getD_eq_getD_getElem?, Array.getElem?_eq_getElem (by omega)] at h2
        simp only [Option.getD_some] at h2
        simp [h2, hsz, hilt])
      rw [Array.toList_setIfInBounds]
      omega
    · intro x o ho hx e he
      rw [hset] at hx ⊢
      by_cases ex : e.on = i
      · rw [if_pos ex]
      · rw [if_neg ex]
        by_cases exi : x = i
        · exact hclos x o ho (.inr exi) e he
        · rw [if_neg exi] at hx; exact hclos x o ho (.inl hx) e he
    · rw [hfun]
      exact H'.congr fun b => by rw [hheap, h_after]
    · rw [hfun]
      exact hre.congr henv hheap (by rw [(app_n _ tr 0 s).1, n_after, (app_n _ tr 0 s).1]) (by rw [(app_n _ tr 0 s).2, nx_after, (app_n _ tr 0 s).2])
    · intro j hj
      rw [hfun]
      obtain ⟨b, hb⟩ := hmono' j (hmono j hj)
      exact ⟨b, by rw [hheap, h_after]; exact hb⟩
end
end Go.Proofs.Ythmighgfefjcmaa.X
