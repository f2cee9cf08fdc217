/- One operation of the reader is one operation of the machine. No condition. -/
import Derived.Test.YthmighgfefjcmaaEngA
namespace Go.Proofs.Ythmighgfefjcmaa.X
open Go.RowKit

section
variable {P : Program}

theorem eqFlds_ok (d k : Nat) (ih : ∀ t x y r, eqB P d t x y = some r → ∀ w, (Op.equalIn (d + k) t x y).run P w = .ok r w) (xs ys : Array Value) :
    ∀ fs r, eqFlds P (eqB P d) xs ys fs = some r → ∀ w, (Op.eqFields (d + k) xs ys fs).run P w = .ok r w
  | [], r, h, w => by
    simp only [eqFlds, Option.some.injEq] at h
    subst h
    simp [Op.eqFields]
  | f :: fs, r, h, w => by
    unfold eqFlds at h
    cases hn : (f.name == "_") with
    | true => rw [hn] at h; cases h
    | false =>
      rw [hn] at h
      simp only [cond_false, Option.bind_eq_some_iff, Option.some.injEq] at h
      obtain ⟨a, ha, b, hb, r1, h1, r2, h2, rfl⟩ := h
      have hn' : f.name ≠ "_" := by simpa using hn
      rw [Op.eqFields]
      simp only [if_pos hn', Sem.run_bind, ep_run _ _ ha, ep_run _ _ hb, ih _ _ _ _ h1, Result.andThen_ok]
      cases r1
      · simp
      · simpa using eqFlds_ok d k ih xs ys fs r2 h2 w

theorem eqB_ok (k : Nat) : ∀ d t x y r, eqB P d t x y = some r → ∀ w, (Op.equalIn (d + k) t x y).run P w = .ok r w
  | 0, _, _, _, _, h, _ => by simp [eqB] at h
  | d + 1, t, x, y, r, h, w => by
    have e : d + 1 + k = (d + k) + 1 := by omega
    rw [e]
    unfold eqB at h
    split at h
    · rename_i hu
      split at h
      · rename_i hk _
        subst hk
        simp only [Option.some.injEq] at h; subst h; simp [Op.equalIn, run_underlying hu]
      · cases h
    · rename_i hu; simp only [Option.some.injEq] at h; subst h; exact run_equalIn_bool w (d + k) t _ _ hu
    · rename_i hu; simp only [Option.some.injEq] at h; subst h; exact run_equalIn_string w (d + k) t _ _ hu
    · rename_i fs xs ys hu
      cases hs : P.stoodInHeld t with
      | true => rw [hs] at h; cases h
      | false =>
        rw [hs] at h
        have hf : P.fieldsOf t = fs := by simp [Program.fieldsOf, hu]
        rw [run_equalIn_struct (P := P) w (d + k) t xs ys (by rw [hf]; exact hu) hs, hf]
        exact eqFlds_ok d k (eqB_ok k d) xs ys fs.toList r h w
    · cases h

theorem binV_ok {op : BinOp} {t : TypeId} {x y : Operand} {a b r : Value} (h : binV P op t x y a b = some r) (w : World) :
    (do eqGuard op t x y a b; binOp op t a b : Sem Value).run P w = .ok r w := by
  unfold binV at h
  split at h
  · rename_i xs ys
    cases hg : P.eqGuardType P.depth t with
    | true => rw [hg] at h; cases h
    | false =>
      rw [hg] at h
      simp only [cond_false] at h
      split at h
      · simp only [Option.bind_eq_some_iff, Option.some.injEq] at h
        obtain ⟨q, hq, rfl⟩ := h
        have := eqB_ok 9980 _ _ _ _ _ hq w
        simp only [Sem.run_bind, run_eqGuard_agg w .eql t x y xs ys hg, Result.andThen_ok, run_eql_struct, this]
      · simp only [Option.bind_eq_some_iff, Option.some.injEq] at h
        obtain ⟨q, hq, rfl⟩ := h
        have := eqB_ok 9980 _ _ _ _ _ hq w
        simp only [Sem.run_bind, run_eqGuard_agg w .neq t x y xs ys hg, Result.andThen_ok, run_neq_struct, this]
      · cases h
  · exact ep_run _ _ h w

theorem mergeB_den {q : Bool} {x y : V} (h : mergeB q x y ≠ .u) : ∃ x' y', val x = some x' ∧ val y = some y' ∧ ∀ β, den β (mergeB q x y) = if q then x' else y' := by
  unfold mergeB at h ⊢
  split at h
  · rename_i h1 h2; exact ⟨_, _, h1, h2, fun β => by simp only [den]; cases q <;> rfl⟩
  · rename_i k x1 k' y1 h1 h2
    split at h
    · obtain rfl : k = k' := by assumption
      exact ⟨_, _, h1, h2, fun β => by simp only [den]; cases q <;> rfl⟩
    · exact absurd rfl h
  · rename_i h1 h2; exact ⟨_, _, h1, h2, fun β => by simp only [den]; cases q <;> rfl⟩
  · exact absurd rfl h
theorem mergeB_refs (q : Bool) (x y : V) : refs (mergeB q x y) = [] := by
  unfold mergeB
  split <;> (try split) <;> simp [refs]

structure Out (F : Nat → Prop) (w0 : World) (β : Nat → Nat) (s : St) (k : Nat) (v : V) (d : Hp) (r : Next) (β' : Nat → Nat) (w' : World) : Prop where
  next : (∃ x, r = .value x ∧ (v ≠ .u → x = den β' v)) ∨ (r = .skip ∧ v = .c undef)
  ext : ∀ j, has s.h j → β' j = β j
  hr : HR F w0 β' (d ++ s.h) w'
  refs : ∀ j, j ∈ refs v → has (d ++ s.h) j
  keys : ∀ j, has (d ++ s.h) j → has s.h j ∨ j = k ∨ j = k + 1

theorem Out.same {F : Nat → Prop} {w0 : World} {β : Nat → Nat} {s : St} {k : Nat} {v : V} {x : Value} {w : World} (H : HR F w0 β s.h w) (hx : v ≠ .u → x = den β v) (hb : ∀ j, j ∈ X.refs v → has s.h j) :
    Out F w0 β s k v [] (.value x) β w := ⟨.inl ⟨x, rfl, hx⟩, fun _ _ => rfl, H, hb, fun _ h => .inl h⟩

theorem isAgg_of {t : TypeId} {q : Bool} (h : aggT P t = some q) (w : World) : (isAgg t).run P w = .ok q w := by
  unfold aggT at h
  simp only [isAgg, Sem.run_bind]
  cases hu : P.underlying t with
  | none => rw [hu] at h; cases h
  | some d =>
    rw [hu] at h
    rw [run_underlying hu]
    cases d <;> simp only [Option.some.injEq] at h <;> subst h <;> rfl

theorem loadVar_ok {t : TypeId} {b : Blk} {o : Nat} {v : V} (h : partV P t b.cs o = some v) (β : Nat → Nat) (w : World) (g : Nat)
    (hg : Here β b w g) (hfl : b.k.flat = true) : (loadVar t ⟨g, o, none⟩).run P w = .ok (den β v) w := by
  have hc : ∀ j, j < b.cs.length → w.cell? ⟨g, j, none⟩ = (denL β b.cs)[j]? := fun j hj => hg.cell hfl j hj
  have hll : (denL β b.cs).length = b.cs.length := by rw [denL_map]; simp
  unfold partV at h
  split at h
  · rename_i i ha hi
    cases hb : Nat.ble (o + i.size) b.cs.length with
    | false => rw [hb] at h; cases h
    | true =>
      rw [hb] at h
      simp only [cond_true, Option.some.injEq] at h
      subst h
      have hle := Nat.le_of_ble_eq_true hb
      have hl : ((denL β b.cs).drop o).take i.size = denL β ((b.cs.drop o).take i.size) := by simp [denL_map, List.map_take, List.map_drop]
      have hlen : (denL β ((b.cs.drop o).take i.size)).length = i.size := by rw [denL_map]; simp; omega
      have hr := run_loadCells_list (P := P) w ⟨g, o, none⟩ (denL β ((b.cs.drop o).take i.size)) (fun j u hu => by
        have hj : j < i.size := by have := (List.getElem?_eq_some_iff.1 hu).1; omega
        rw [Addr.add_lit, hc _ (by omega), ← hu, ← hl]
        rw [List.getElem?_take, if_pos hj, List.getElem?_drop])
      rw [hlen] at hr
      simp only [loadVar, Sem.run_bind, isAgg_of ha, Result.andThen_ok, if_true, sizeOf, typeInfo, run_program, hi, Sem.run_pure, hr, den]
  · rename_i i ha hi
    have hlt := (List.getElem?_eq_some_iff.1 h).1
    have hx : w.cell? ⟨g, o, none⟩ = some (den β v) := by rw [hc o hlt, denL_map]; simp [h]
    simp only [loadVar, Sem.run_bind, isAgg_of ha, Result.andThen_ok, Bool.false_eq_true, if_false, run_load, hx]
  · cases h

theorem placesOf_ok : ∀ (fs : List Field) (ps : List (Nat × Nat)), placesOf P fs = some ps → ∀ w,
    (fs.mapM fun f => do pure (f.offset, ← sizeOf f.type) : Sem (List (Nat × Nat))).run P w = .ok ps w
  | [], ps, h, w => by simp only [placesOf, Option.some.injEq] at h; subst h; rfl
  | f :: fs, ps, h, w => by
    simp only [placesOf, Option.bind_eq_some_iff, Option.some.injEq] at h
    obtain ⟨j, hj, r, hr, rfl⟩ := h
    simp only [List.mapM_cons, Sem.run_bind, sizeOf, typeInfo, run_program, hj, Sem.run_pure, Result.andThen_ok]
    have := placesOf_ok fs r hr w
    simp only [sizeOf, typeInfo] at this
    rw [this]
    rfl

theorem fold_set (xs : List Value) : ∀ (k off : Nat) (cs : List Value), off + k + xs.length ≤ cs.length →
    (xs.zipIdx k).foldl (fun (a : Array Value) (q : Value × Nat) => a.setIfInBounds (off + q.2) q.1) cs.toArray = (cs.take (off + k) ++ xs ++ cs.drop (off + k + xs.length)).toArray := by
  induction xs with
  | nil => intro k off cs h; simp
  | cons x xs ih =>
    intro k off cs h
    simp only [List.length_cons] at h
    simp only [List.zipIdx_cons, List.foldl_cons]
    have e : (cs.toArray.setIfInBounds (off + k) x) = (cs.set (off + k) x).toArray := by simp
    rw [e, ih (k + 1) off (cs.set (off + k) x) (by simp; omega)]
    congr 1
    apply List.ext_getElem?
    intro i
    simp only [List.getElem?_append, List.length_append, List.length_take, List.length_set, List.getElem?_take, List.getElem?_set, List.getElem?_drop, List.length_cons]
    have h1 : min (off + (k + 1)) cs.length = off + k + 1 := by omega
    have h2 : min (off + k) cs.length = off + k := by omega
    simp only [h1, h2]
    by_cases a1 : i < off + k
    · rw [if_pos (by omega), if_pos (by omega), if_pos (by omega), if_neg (by omega), if_pos (by omega), if_pos (by omega), if_pos a1]
    · by_cases a2 : i = off + k
      · subst a2
        rw [if_pos (by omega), if_pos (by omega), if_pos (by omega), if_pos rfl, if_pos (by omega), if_pos (by omega), if_neg (by omega)]
        simp
      · by_cases a3 : i < off + k + 1 + xs.length
        · rw [if_pos (by omega), if_neg (by omega), if_pos (by omega), if_neg (by omega)]
          have : i - (off + k) = (i - (off + k + 1)) + 1 := by omega
          rw [this, List.getElem?_cons_succ]
        · rw [if_neg (by omega), if_neg (by omega), if_neg (by omega)]
          congr 1
          omega

theorem fillV_ok (β : Nat → Nat) (place : Nat → Option (Nat × Nat)) (a : Act) : ∀ (l : List (Nat × V)) (l' : List (Nat × Value)) (cs r : List V), fillV place cs l = some r → l.map Prod.fst = l'.map Prod.fst →
    (∀ (i : Nat) (x : Nat × V) (y : Nat × Value), l[i]? = some x → l'[i]? = some y → x.2 ≠ .u → y.2 = den β x.2) → Instr.fill place (denL β cs).toArray l' = some (denL β r).toArray
  | [], l', cs, r, h, hk, _ => by
    simp only [fillV, Option.some.injEq] at h
    subst h
    cases l' with
    | nil => rfl
    | cons y l' => simp at hk
  | (i, x) :: l, [], cs, r, h, hk, _ => by simp at hk
  | (i, x) :: l, (i', y) :: l', cs, r, h, hk, hv => by
    simp only [List.map_cons, List.cons.injEq] at hk
    obtain ⟨rfl, hk⟩ := hk
    simp only [fillV, Option.bind_eq_some_iff] at h
    obtain ⟨⟨off, size⟩, hp, xs, hx, h⟩ := h
    dsimp only at h
    cases hb : (Nat.beq xs.length size && Nat.ble (off + size) cs.length) with
    | false => rw [hb] at h; cases h
    | true =>
      rw [hb] at h
      simp only [cond_true] at h
      simp only [Bool.and_eq_true] at hb
      obtain ⟨hb1, hb2⟩ := hb
      have hb1 := Nat.eq_of_beq_eq_true hb1
      have hb2 := Nat.le_of_ble_eq_true hb2
      have hxu : x ≠ .u := by rintro rfl; simp [cells] at hx
      have hy : y = den β x := hv 0 _ _ rfl rfl hxu
      have hc := cells_den hx β
      simp only [Instr.fill, hp, hy, hc, List.size_toArray]
      have hl : (denL β xs).length = xs.length := by rw [denL_map]; simp
      have hl2 : (denL β cs).length = cs.length := by rw [denL_map]; simp
      rw [if_neg (by simp; omega)]
      have hf := fold_set (denL β xs) 0 off (denL β cs) (by omega)
      simp only [Nat.add_zero] at hf
      have hz : (denL β xs).toArray.zipIdx.foldl (fun cs (c, j) => cs.setIfInBounds (off + j) c) (denL β cs).toArray = (denL β (setL cs off xs)).toArray := by
        rw [show (denL β xs).toArray.zipIdx = ((denL β xs).zipIdx).toArray by simp]
        rw [List.foldl_toArray']
        · rw [hf]
          simp [setL, denL_map, List.map_take, List.map_drop]
        · rfl
      rw [hz]
      exact fillV_ok β place a l l' _ r h hk (fun i x y h1 h2 => hv (i + 1) x y (by simpa using h1) (by simpa using h2))

theorem fillV_refs (place : Nat → Option (Nat × Nat)) (A : Nat → Prop) : ∀ (l : List (Nat × V)) (cs r : List V), fillV place cs l = some r → (∀ j, j ∈ refsL cs → A j) → (∀ x ∈ l, ∀ j, j ∈ refs x.2 → A j) → ∀ j, j ∈ refsL r → A j
  | [], cs, r, h, hc, _ => by simp only [fillV, Option.some.injEq] at h; subst h; exact hc
  | (i, x) :: l, cs, r, h, hc, hl => by
    simp only [fillV, Option.bind_eq_some_iff] at h
    obtain ⟨⟨off, size⟩, hp, xs, hx, h⟩ := h
    dsimp only at h
    cases hb : (Nat.beq xs.length size && Nat.ble (off + size) cs.length) with
    | false => rw [hb] at h; cases h
    | true =>
    rw [hb] at h
    refine fillV_refs place A l _ r h ?_ (fun y hy => hl y (List.mem_cons_of_mem _ hy))
    intro j hj
    obtain ⟨y, hy, hj⟩ := mem_refsL.1 hj
    simp only [setL, List.mem_append] at hy
    rcases hy with (hy | hy) | hy
    · exact hc j (mem_refsL.2 ⟨y, List.mem_of_mem_take hy, hj⟩)
    · exact hl (i, x) (List.mem_cons_self ..) j (cells_refs hx j (mem_refsL.2 ⟨y, hy, hj⟩))
    · exact hc j (mem_refsL.2 ⟨y, List.mem_of_mem_drop hy, hj⟩)
end
end Go.Proofs.Ythmighgfefjcmaa.X
