/- Parts of the proof, laid together: EngQ, EngR, EngT, EngU, EngV, EngW, EngY, EngZ. No condition. -/
import Derived.Test.YtfjldllegmfooaaDoorCtB

section
/- Patterns of values and memory: what fits is what the pattern says. No condition. -/
namespace Go.Proofs.YtfjldllegmfooaaDoor.X
open Go.RowKit

def isOpen : Kd → Prop
  | .open_ _ _ _ _ _ => True
  | _ => False

theorem find_cons {α : Type} (g : Nat) (r : α) (l : List (Nat × α)) (f : Nat) : find ((g, r) :: l) f = if f = g then some r else find l f := by
  simp only [find]
  by_cases e : f = g
  · subst e; rw [if_pos rfl, show Nat.beq f f = true by simp]; rfl
  · rw [if_neg e, beq_ne (fun h => e h.symm)]; rfl
theorem find_mem {α : Type} : ∀ {l : List (Nat × α)} {n : Nat} {x : α}, find l n = some x → (n, x) ∈ l
  | [], n, x, h => by simp [find] at h
  | (g, r) :: l, n, x, h => by
    rw [find_cons] at h
    by_cases e : n = g
    · rw [if_pos e] at h; simp only [Option.some.injEq] at h; subst h; subst e; exact List.mem_cons_self
    · rw [if_neg e] at h; exact List.mem_cons_of_mem _ (find_mem h)
theorem lookB_mem : ∀ {h : Hp} {j : Nat} {b : Blk}, lookB h j = some b → (j, b) ∈ h
  | [], j, b, h => by simp [lookB] at h
  | (k, c) :: l, j, b, h => by
    rw [lookB_cons] at h
    by_cases e : j = k
    · rw [if_pos e] at h; simp only [Option.some.injEq] at h; subst h; subst e; exact List.mem_cons_self
    · rw [if_neg e] at h; exact List.mem_cons_of_mem _ (lookB_mem h)

theorem nodupB_inj : ∀ {l : List (Nat × Nat)} {i j x : Nat}, nodupB (l.map (·.2)) = true → (i, x) ∈ l → (j, x) ∈ l → i = j
  | [], _, _, _, _, h, _ => by cases h
  | (g, y) :: l, i, j, x, hn, hi, hj => by
    simp only [List.map_cons, nodupB, Bool.and_eq_true] at hn
    have hne : ∀ k, (k, y) ∈ l → False := fun k hk => by
      have : (l.map (·.2)).any (Nat.beq y) = true := List.any_eq_true.2 ⟨y, List.mem_map.2 ⟨_, hk, rfl⟩, by simp⟩
      rw [this] at hn
      cases hn.1
    rcases List.mem_cons.1 hi with e1 | hi <;> rcases List.mem_cons.1 hj with e2 | hj
    · injection e1 with e1; injection e2 with e2; omega
    · injection e1 with e1 e1'; rw [e1'] at hj; exact (hne _ hj).elim
    · injection e2 with e2 e2'; rw [e2'] at hi; exact (hne _ hi).elim
    · exact nodupB_inj hn.2 hi hj

theorem nodupB_look : ∀ {h : Hp} {j : Nat} {b : Blk}, nodupB (keysOf h) = true → (j, b) ∈ h → lookB h j = some b
  | [], _, _, _, h => by cases h
  | (k, c) :: l, j, b, hn, hm => by
    simp only [keysOf, List.map_cons, nodupB, Bool.and_eq_true] at hn
    rw [lookB_cons]
    rcases List.mem_cons.1 hm with e | hm
    · injection e with e1 e2; rw [if_pos e1, e2]
    · by_cases e : j = k
      · have : (l.map (·.1)).any (Nat.beq k) = true := List.any_eq_true.2 ⟨j, List.mem_map.2 ⟨(j, b), hm, rfl⟩, by simp [e]⟩
        rw [this] at hn
        cases hn.1
      · rw [if_neg e]; exact nodupB_look hn.2 hm

section
variable {P : Program} {F : Nat → Prop} {w0 : World} {rom : RomP}

structure MI (F : Nat → Prop) (w0 : World) (β : Nat → Nat) (m : M) (w : World) : Prop where
  hr : HR F w0 β m.h w
  fr : ∀ j, has m.h j → j < m.nx

structure Ext (β : Nat → Nat) (m : M) (β' : Nat → Nat) (m' : M) : Prop where
  β : ∀ j, has m.h j → β' j = β j
  h : ∀ j, has m.h j → has m'.h j
  op : ∀ j b, lookB m.h j = some b → isOpen b.k → lookB m'.h j = some b
  ot : ∀ j b, lookB m.h j = some b → lookB m'.h j = some b ∨ ∃ b', lookB m'.h j = some b' ∧ isOpen b'.k
  D : ∀ n x, find m.D n = some x → find m'.D n = some x
  R : ∀ n x, find m.R n = some x → find m'.R n = some x
  ρ : ∀ n x, find m.ρ n = some x → find m'.ρ n = some x
  L : ∀ n x, find m.L n = some x → find m'.L n = some x
  p : m'.p → m.p

theorem Ext.refl (β : Nat → Nat) (m : M) : Ext β m β m := ⟨fun _ _ => rfl, fun _ h => h, fun _ _ h _ => h, fun _ _ h => .inl h, fun _ _ h => h, fun _ _ h => h, fun _ _ h => h, fun _ _ h => h, fun h => h⟩
theorem Ext.trans {β β' β'' : Nat → Nat} {m m' m'' : M} (h : Ext β m β' m') (k : Ext β' m' β'' m'') : Ext β m β'' m'' := by
  refine ⟨fun j hj => (k.β j (h.h j hj)).trans (h.β j hj), fun j hj => k.h j (h.h j hj), fun j b hj ho => k.op j b (h.op j b hj ho) ho, fun j b hj => ?_, fun n x hx => k.D n x (h.D n x hx), fun n x hx => k.R n x (h.R n x hx),
    fun n x hx => k.ρ n x (h.ρ n x hx), fun n x hx => k.L n x (h.L n x hx), fun hp => h.p (k.p hp)⟩
  rcases h.ot j b hj with h1 | ⟨b', h1, h2⟩
  · exact k.ot j b h1
  · exact .inr ⟨b', k.op j b' h1 h2, h2⟩

theorem bindD_ok {m m' : M} {n : Nat} {x : Value} (h : m.bindD n x = some m') (β : Nat → Nat) : Ext β m β m' ∧ find m'.D n = some x ∧ m'.h = m.h ∧ m'.nx = m.nx := by
  unfold M.bindD at h
  split at h
  · cases h
  · rename_i hn
    simp only [Option.some.injEq] at h
    subst h
    refine ⟨{ Ext.refl β m with D := fun n' y hy => ?_ }, by rw [find_cons]; simp, rfl, rfl⟩
    rw [find_cons]
    by_cases e : n' = n
    · subst e; rw [hn] at hy; cases hy
    · rw [if_neg e]; exact hy
theorem bindR_ok {m m' : M} {n : Nat} {x : List (List Value)} (h : m.bindR n x = some m') (β : Nat → Nat) : Ext β m β m' ∧ find m'.R n = some x ∧ m'.h = m.h ∧ m'.nx = m.nx := by
  unfold M.bindR at h
  split at h
  · cases h
  · rename_i hn
    simp only [Option.some.injEq] at h
    subst h
    refine ⟨{ Ext.refl β m with R := fun n' y hy => ?_ }, by rw [find_cons]; simp, rfl, rfl⟩
    rw [find_cons]
    by_cases e : n' = n
    · subst e; rw [hn] at hy; cases hy
    · rw [if_neg e]; exact hy
theorem bindL_ok {m m' : M} {n : Nat} {x : V} (h : m.bindL n x = some m') (β : Nat → Nat) : Ext β m β m' ∧ find m'.L n = some x ∧ m'.h = m.h ∧ m'.nx = m.nx := by
  unfold M.bindL at h
  split at h
  · cases h
  · rename_i hn
    simp only [Option.some.injEq] at h
    subst h
    refine ⟨{ Ext.refl β m with L := fun n' y hy => ?_ }, by rw [find_cons]; simp, rfl, rfl⟩
    rw [find_cons]
    by_cases e : n' = n
    · subst e; rw [hn] at hy; cases hy
    · rw [if_neg e]; exact hy
theorem bindρ_ok {m m' : M} {j j' : Nat} (h : m.bindρ j j' = some m') (β : Nat → Nat) : Ext β m β m' ∧ find m'.ρ j = some j' ∧ m'.h = m.h ∧ m'.nx = m.nx := by
  unfold M.bindρ at h
  split at h
  · rename_i i hi
    obtain ⟨hb, h⟩ := bif_some' h
    simp only [Option.some.injEq] at h
    subst h
    exact ⟨Ext.refl β m, by rw [hi, Nat.eq_of_beq_eq_true hb], rfl, rfl⟩
  · rename_i hn
    simp only [Option.some.injEq] at h
    subst h
    refine ⟨{ Ext.refl β m with ρ := fun n' y hy => ?_ }, by rw [find_cons]; simp, rfl, rfl⟩
    rw [find_cons]
    by_cases e : n' = j
    · subst e; rw [hn] at hy; cases hy
    · rw [if_neg e]; exact hy
theorem ask_ok (m : M) (q : Prop) (β : Nat → Nat) : Ext β m β (m.ask q) ∧ ((m.ask q).p → q) := ⟨{ Ext.refl β m with p := fun h => h.1 }, fun h => h.2⟩

theorem MI.same {β : Nat → Nat} {m m' : M} {w : World} (h : MI F w0 β m w) (e1 : m'.h = m.h) (e2 : m'.nx = m.nx) : MI F w0 β m' w := ⟨by rw [e1]; exact h.hr, by rw [e1, e2]; exact h.fr⟩

/-- A number is given a key. -/
theorem HR.num_ {β : Nat → Nat} {h : Hp} {w : World} (H : HR F w0 β h w) {k : Nat} (hk : ¬ has h k) (ty : TypeId) (x : Nat) : HR F w0 (fun j => if j = k then x else β j) ((k, ⟨ty, [], .num⟩) :: h) w := by
  have hne : ∀ j, has h j → (if j = k then x else β j) = β j := fun j hj => if_neg (fun (e : j = k) => hk (e ▸ hj))
  have old : ∀ j b, lookB ((k, (⟨ty, [], .num⟩ : Blk)) :: h) j = some b → b.k.live = true → lookB h j = some b := fun j b hj hl => by
    rw [lookB_cons] at hj
    by_cases e : j = k
    · rw [if_pos e] at hj; simp only [Option.some.injEq] at hj; subst hj; cases hl
    · rw [if_neg e] at hj; exact hj
  have onc : ∀ j b, lookB h j = some b → (b.k.on (fun j => if j = k then x else β j) ↔ b.k.on β) := fun j b hj => Kd.on_congr fun i hi => hne i (H.wf j b hj i (.inr hi))
  refine ⟨H.os, H.tape, H.output, H.size, H.keep, fun j b hj hl => ?_, fun j b hj hl => ?_, fun i j b b' hi hj l1 l2 e => ?_, fun j b hj i hi => ?_⟩
  · have hj' := old j b hj hl
    show Here _ b w (if j = k then x else β j)
    rw [hne j ⟨b, hj'⟩]
    exact H.here_same hj' hl (fun _ => ⟨rfl, rfl⟩) fun i hi => hne i (H.wf j b hj' i hi)
  · have hj' := old j b hj (Kd.live_of_on hl)
    show F (if j = k then x else β j) ∨ w0.heap.size ≤ (if j = k then x else β j)
    rw [hne j ⟨b, hj'⟩]
    exact H.own j b hj' ((onc j b hj').1 hl)
  · have hi' := old i b hi (Kd.live_of_on l1)
    have hj' := old j b' hj (Kd.live_of_on l2)
    replace e : (if i = k then x else β i) = (if j = k then x else β j) := e
    rw [hne i ⟨b, hi'⟩, hne j ⟨b', hj'⟩] at e
    exact H.inj i j b b' hi' hj' ((onc i b hi').1 l1) ((onc j b' hj').1 l2) e
  · rw [has_cons]
    rw [lookB_cons] at hj
    by_cases e : j = k
    · rw [if_pos e] at hj; simp only [Option.some.injEq] at hj; subst hj
      rcases hi with hi | hi
      · simp [refsL] at hi
      · simp [Kd.refs] at hi
    · rw [if_neg e] at hj; exact .inr (H.wf j b hj i hi)

/-- A block is seen otherwise. -/
theorem HR.recast {β : Nat → Nat} {h : Hp} {w : World} (H : HR F w0 β h w) {j : Nat} {b : Blk} (hj : lookB h j = some b) (hon : b.k.on β) (nb : Blk) (hc : ∀ i, i ∈ refsL nb.cs ∨ i ∈ nb.k.refs → has h i) (hh : Here β nb w (β j)) : HR F w0 β ((j, nb) :: h) w :=
  H.put hj hon nb hc rfl rfl rfl rfl (fun _ _ => rfl) hh

theorem grown_refl (w : World) (own : Option Nat) : w.grownBy w own := ⟨rfl, rfl, rfl, Nat.le_refl _, fun _ _ _ => rfl⟩

/-- What a slice as a row comes to. -/
structure RowOk (F : Nat → Prop) (w0 : World) (β : Nat → Nat) (h : Hp) (w : World) (ty : TypeId) (ks : List PK) (v : V) (r : RowAt) (β' : Nat → Nat) : Prop where
  hr : HR F w0 β' (r.d ++ h) w
  fr : ∀ j, has (r.d ++ h) j → j < r.nx
  ext : ∀ j, has h j → β' j = β j
  mono : ∀ j, has h j → has (r.d ++ h) j
  op : ∀ j b, lookB h j = some b → isOpen b.k → lookB (r.d ++ h) j = some b
  ot : ∀ j b, lookB h j = some b → lookB (r.d ++ h) j = some b ∨ ∃ b', lookB (r.d ++ h) j = some b' ∧ isOpen b'.k
  den : X.den β' v = X.den β' (.r r.j r.a r.o r.c r.n)
  at_ : ∃ b, lookB (r.d ++ h) r.j = some b ∧ b.ty = ty ∧ b.k = .open_ r.a r.o r.c ks r.xs

theorem asRow_ok {h : Hp} {nx : Nat} {ty : TypeId} {ks : List PK} {v : V} {r : RowAt} (hr : asRow h nx ty ks v = some r) {β : Nat → Nat} {w : World} (H : HR F w0 β h w) (hf : ∀ j, has h j → j < nx) :
    ∃ β', RowOk F w0 β h w ty ks v r β' := by
  unfold asRow at hr
  split at hr
  · rename_i j a o c n
    simp only [Option.bind_eq_some_iff] at hr
    obtain ⟨b, hb, hr⟩ := hr
    split at hr
    · rename_i a' o' c' ks' xs hk
      obtain ⟨hq, hr⟩ := bif_some' hr
      simp only [Option.some.injEq] at hr
      subst hr
      simp only [Bool.and_eq_true] at hq
      obtain ⟨⟨⟨⟨q1, q2⟩, q3⟩, q4⟩, q5⟩ := hq
      obtain rfl := Nat.eq_of_beq_eq_true q1
      obtain rfl := Nat.eq_of_beq_eq_true q2
      obtain rfl := Nat.eq_of_beq_eq_true q3
      obtain rfl := eqKs_ok q4
      have q5 := Nat.eq_of_beq_eq_true q5
      exact ⟨β, H, hf, fun _ _ => rfl, fun _ h => h, fun _ _ h _ => h, fun _ _ h => .inl h, rfl, b, hb, q5, hk⟩
    · cases hr
  · obtain ⟨hq, hr⟩ := bif_some' hr
    have hq := Nat.le_of_ble_eq_true hq
    simp only [Option.some.injEq] at hr
    subst hr
    have HH := H.appendO (k := nx) (fun j hj => by have := hf j hj; omega) (grown_refl w none) (kill := []) (.inl ⟨rfl, rfl⟩) (g := 0) (va := 0) (cap := 0) (e := ty) (ks := ks) (xs := []) (fun h => absurd rfl h) ⟨hq, by simp, .inl ⟨rfl, rfl, rfl⟩⟩
    simp only [List.nil_append] at HH
    have hold : ∀ j b, lookB h j = some b → lookB (laidO nx ty ks [] ++ h) j = some b := fun j b hj => by
      have := hf j ⟨b, hj⟩
      rw [look_laid, if_neg (by omega), if_neg (by omega)]; exact hj
    refine ⟨_, HH, fun j hj => ?_, fun j hj => ?_, fun j hj => (has_laid _ _ _ _ _ _).2 (.inr hj), fun j b hj _ => hold j b hj, fun j b hj => .inl (hold j b hj), ?_, _, by rw [look_laid, if_pos rfl], rfl, rfl⟩
    · rcases (has_laid _ _ _ _ _ _).1 hj with h1 | h1
      · exact h1.2
      · have := hf j h1; show j < nx + 4; omega
    · have := hf j hj
      dsimp only [turnO]
      rw [if_neg (by omega), if_neg (by omega), if_neg (by omega), if_neg (by omega)]
    · simp [den, turnO, adrOf]
  · rename_i j c n
    simp only [Option.bind_eq_some_iff] at hr
    obtain ⟨b, hb, hr⟩ := hr
    split at hr
    · rename_i c' sz hk
      obtain ⟨hq, hr⟩ := bif_some' hr
      simp only [Option.bind_eq_some_iff, Option.some.injEq] at hr
      obtain ⟨xs, hxs, rfl⟩ := hr
      simp only [Bool.and_eq_true] at hq
      obtain ⟨⟨⟨q1, q2⟩, q3⟩, q4⟩ := hq
      obtain rfl := Nat.eq_of_beq_eq_true q1
      obtain rfl := Nat.eq_of_beq_eq_true q2
      have q3 := Nat.eq_of_beq_eq_true q3
      have q4 := Nat.le_of_ble_eq_true q4
      obtain ⟨c1, c2, c3, _⟩ := chunk_ok β hxs
      have hlive : b.k.live = true := by rw [hk]; rfl
      have hcn : has h c := H.wf j b hb c (.inr (by rw [hk]; simp [Kd.refs]))
      have hjn := hf j ⟨b, hb⟩
      have hcx := hf c hcn
      obtain ⟨junk, hg, hroom⟩ := (H.blk j b hb hlive).of_flat (by rw [hk]; rfl)
      unfold Room at hroom
      rw [hk] at hroom
      dsimp only at hroom
      obtain ⟨r1, r2⟩ := hroom
      have hn0 : ¬ has h nx := fun hh => Nat.lt_irrefl _ (hf nx hh)
      have H1 := H.num_ hn0 ty 1
      have hn1 : ¬ has ((nx, (⟨ty, [], .num⟩ : Blk)) :: h) (nx + 1) := fun hh => by
        rcases (has_cons _ _ _ _).1 hh with e | e
        · omega
        · have := hf _ e; omega
      have H2 := H1.num_ hn1 ty 0
      have hβ : ∀ i, has h i → (fun j => if j = nx + 1 then 0 else if j = nx then 1 else β j) i = β i := fun i hi => by
        have := hf i hi
        dsimp only
        rw [if_neg (by omega), if_neg (by omega)]
      have v1 : (fun j => if j = nx + 1 then 0 else if j = nx then 1 else β j) nx = 1 := by simp
      have v2 : (fun j => if j = nx + 1 then 0 else if j = nx then 1 else β j) (nx + 1) = 0 := by simp
      generalize (fun j => if j = nx + 1 then 0 else if j = nx then 1 else β j) = β' at H2 hβ v1 v2
      have hb2 : lookB ((nx + 1, (⟨ty, [], .num⟩ : Blk)) :: (nx, ⟨ty, [], .num⟩) :: h) j = some b := by
        rw [lookB_cons, if_neg (by omega), lookB_cons, if_neg (by omega)]; exact hb
      have hlen : (denL β b.cs).length = xs.length * ks.length := by rw [c1, flatten_len xs fun x hx => okRow_len (c3 x hx)]
      have H3 := H2.recast hb2 (by rw [hk]; trivial) ⟨ty, [], .open_ nx (nx + 1) c ks xs⟩ (fun i hi => by
          simp only [refsL, Kd.refs, List.not_mem_nil, List.mem_cons, false_or, or_false] at hi
          rw [has_cons, has_cons]
          rcases hi with rfl | rfl | rfl
          · exact .inr (.inl rfl)
          · exact .inl rfl
          · exact .inr (.inr hcn)) (by
          show HereO w _ ty _ _ _ ks xs
          refine ⟨q4, c3, .inr ⟨by rw [v1]; simp, v2, by rw [hβ c hcn]; exact r2, junk, ?_, ?_⟩⟩
          · rw [hβ j ⟨b, hb⟩, ← c1, ← q3]; exact hg
          · rw [hβ c hcn, ← r1, List.length_append, hlen])
      have hold : ∀ i b', lookB h i = some b' → i ≠ j → lookB ((j, (⟨ty, [], .open_ nx (nx + 1) c ks xs⟩ : Blk)) :: (nx + 1, ⟨ty, [], .num⟩) :: (nx, ⟨ty, [], .num⟩) :: h) i = some b' := fun i b' hi hne => by
        have := hf i ⟨b', hi⟩
        rw [lookB_cons, if_neg hne, lookB_cons, if_neg (by omega), lookB_cons, if_neg (by omega)]; exact hi
      refine ⟨_, H3, fun i hi => ?_, hβ, fun i hi => ?_, fun i b' hi ho => ?_, fun i b' hi => ?_, ?_, _, by simp only [List.cons_append, lookB_cons, if_true]; rfl, rfl, rfl⟩
      · show i < nx + 4
        simp only [List.cons_append, List.nil_append] at hi
        rw [has_cons, has_cons, has_cons] at hi
        rcases hi with rfl | rfl | rfl | hi
        · omega
        · omega
        · omega
        · have := hf i hi; omega
      · simp only [List.cons_append, List.nil_append]
        rw [has_cons, has_cons, has_cons]; exact .inr (.inr (.inr hi))
      · refine hold i b' hi fun e => ?_
        subst e
        rw [hb] at hi; injection hi with hi; subst hi
        rw [hk] at ho; exact ho
      · by_cases e : i = j
        · subst e; exact .inr ⟨_, by simp only [List.cons_append, lookB_cons, if_true]; rfl, by dsimp only; trivial⟩
        · exact .inl (hold i b' hi e)
      · simp only [den, v1, v2]
        rfl
    · cases hr
  · rename_i j n cap
    simp only [Option.bind_eq_some_iff] at hr
    obtain ⟨b, hb, hr⟩ := hr
    split at hr
    · rename_i hk
      obtain ⟨hq, hr⟩ := bif_some' hr
      simp only [Option.bind_eq_some_iff, Option.some.injEq] at hr
      obtain ⟨xs, hxs, rfl⟩ := hr
      simp only [Bool.and_eq_true] at hq
      obtain ⟨⟨⟨q1, q2⟩, q3⟩, q4⟩ := hq
      obtain rfl := Nat.eq_of_beq_eq_true q1
      have q2 := Nat.eq_of_beq_eq_true q2
      have q3 := Nat.le_of_ble_eq_true q3
      have q4 := Nat.le_of_ble_eq_true q4
      obtain ⟨c1, c2, c3, _⟩ := chunk_ok β hxs
      have hlive : b.k.live = true := by rw [hk]; rfl
      have hjn := hf j ⟨b, hb⟩
      obtain ⟨junk, hg, hroom⟩ := (H.blk j b hb hlive).of_flat (by rw [hk]; rfl)
      unfold Room at hroom
      rw [hk] at hroom
      dsimp only at hroom
      subst hroom
      have hn0 : ¬ has h nx := fun hh => Nat.lt_irrefl _ (hf nx hh)
      have H1 := H.num_ hn0 ty 1
      have hn1 : ¬ has ((nx, (⟨ty, [], .num⟩ : Blk)) :: h) (nx + 1) := fun hh => by
        rcases (has_cons _ _ _ _).1 hh with e | e
        · omega
        · have := hf _ e; omega
      have H2 := H1.num_ hn1 ty 0
      have hn2 : ¬ has ((nx + 1, (⟨ty, [], .num⟩ : Blk)) :: (nx, (⟨ty, [], .num⟩ : Blk)) :: h) (nx + 2) := fun hh => by
        rw [has_cons, has_cons] at hh
        rcases hh with e | e | e
        · omega
        · omega
        · have := hf _ e; omega
      have H2' := H2.num_ hn2 ty n
      have hβ : ∀ i, has h i → (fun j => if j = nx + 2 then n else if j = nx + 1 then 0 else if j = nx then 1 else β j) i = β i := fun i hi => by
        have := hf i hi
        dsimp only
        rw [if_neg (by omega), if_neg (by omega), if_neg (by omega)]
      have v1 : (fun j => if j = nx + 2 then n else if j = nx + 1 then 0 else if j = nx then 1 else β j) nx = 1 := by simp
      have v2 : (fun j => if j = nx + 2 then n else if j = nx + 1 then 0 else if j = nx then 1 else β j) (nx + 1) = 0 := by simp
      have v3 : (fun j => if j = nx + 2 then n else if j = nx + 1 then 0 else if j = nx then 1 else β j) (nx + 2) = n := by simp
      generalize (fun j => if j = nx + 2 then n else if j = nx + 1 then 0 else if j = nx then 1 else β j) = β' at H2' hβ v1 v2 v3
      have hb2 : lookB ((nx + 2, (⟨ty, [], .num⟩ : Blk)) :: (nx + 1, (⟨ty, [], .num⟩ : Blk)) :: (nx, ⟨ty, [], .num⟩) :: h) j = some b := by
        rw [lookB_cons, if_neg (by omega), lookB_cons, if_neg (by omega), lookB_cons, if_neg (by omega)]; exact hb
      have H3 := H2'.recast hb2 (by rw [hk]; trivial) ⟨ty, [], .open_ nx (nx + 1) (nx + 2) ks xs⟩ (fun i hi => by
          simp only [refsL, Kd.refs, List.not_mem_nil, List.mem_cons, false_or, or_false] at hi
          rw [has_cons, has_cons, has_cons]
          rcases hi with rfl | rfl | rfl
          · exact .inr (.inr (.inl rfl))
          · exact .inr (.inl rfl)
          · exact .inl rfl) (by
          show HereO w _ ty _ _ _ ks xs
          refine ⟨q3, c3, .inr ⟨by rw [v1]; simp, v2, by rw [v3]; exact q4, [], ?_, ?_⟩⟩
          · rw [hβ j ⟨b, hb⟩, ← c1, ← q2]; exact hg
          · rw [v3, List.length_nil, Nat.add_zero, c2])
      have hold : ∀ i b', lookB h i = some b' → i ≠ j → lookB ((j, (⟨ty, [], .open_ nx (nx + 1) (nx + 2) ks xs⟩ : Blk)) :: (nx + 2, ⟨ty, [], .num⟩) :: (nx + 1, ⟨ty, [], .num⟩) :: (nx, ⟨ty, [], .num⟩) :: h) i = some b' := fun i b' hi hne => by
        have := hf i ⟨b', hi⟩
        rw [lookB_cons, if_neg hne, lookB_cons, if_neg (by omega), lookB_cons, if_neg (by omega), lookB_cons, if_neg (by omega)]; exact hi
      refine ⟨_, H3, fun i hi => ?_, hβ, fun i hi => ?_, fun i b' hi ho => ?_, fun i b' hi => ?_, ?_, _, by simp only [List.cons_append, lookB_cons, if_true]; rfl, rfl, rfl⟩
      · show i < nx + 4
        simp only [List.cons_append, List.nil_append] at hi
        rw [has_cons, has_cons, has_cons, has_cons] at hi
        rcases hi with rfl | rfl | rfl | rfl | hi
        · omega
        · omega
        · omega
        · omega
        · have := hf i hi; omega
      · simp only [List.cons_append, List.nil_append]
        rw [has_cons, has_cons, has_cons, has_cons]; exact .inr (.inr (.inr (.inr hi)))
      · refine hold i b' hi fun e => ?_
        subst e
        rw [hb] at hi; injection hi with hi; subst hi
        rw [hk] at ho; exact ho
      · by_cases e : i = j
        · subst e; exact .inr ⟨_, by simp only [List.cons_append, lookB_cons, if_true]; rfl, by dsimp only; trivial⟩
        · exact .inl (hold i b' hi e)
      · simp only [den, v1, v2, v3]
        rfl
    · cases hr
  · cases hr

theorem row_ok {m m' : M} {j : Nat} {r : RowAt} (h : m.row j r = some m') : m'.h = r.d ++ m.h ∧ m'.nx = r.nx ∧ m'.D = m.D ∧ m'.R = m.R ∧ m'.L = m.L ∧ m'.p = m.p ∧ (∀ n x, find m.ρ n = some x → find m'.ρ n = some x) ∧
    find m'.ρ j = some r.j ∧ find m'.ρ (j + 1) = some r.a ∧ find m'.ρ (j + 2) = some r.o ∧ find m'.ρ (j + 3) = some r.c := by
  unfold M.row at h
  simp only [Option.bind_eq_some_iff] at h
  obtain ⟨m1, h1, m2, h2, m3, h3, h4⟩ := h
  have key : ∀ {m m' : M} {j j' : Nat}, m.bindρ j j' = some m' → m'.h = m.h ∧ m'.nx = m.nx ∧ m'.D = m.D ∧ m'.R = m.R ∧ m'.L = m.L ∧ m'.p = m.p ∧ (∀ n x, find m.ρ n = some x → find m'.ρ n = some x) ∧ find m'.ρ j = some j' := by
    intro m m' j j' h
    obtain ⟨e1, e2, e3, e4⟩ := bindρ_ok h (fun _ => 0)
    refine ⟨e3, e4, ?_, ?_, ?_, ?_, e1.ρ, e2⟩ <;>
    · unfold M.bindρ at h
      split at h
      · have := (bif_some' h).2; simp only [Option.some.injEq] at this; subst this; rfl
      · simp only [Option.some.injEq] at h; subst h; rfl
  obtain ⟨a1, a2, a3, a4, a5, a6, a7, a8⟩ := key h1
  obtain ⟨b1, b2, b3, b4, b5, b6, b7, b8⟩ := key h2
  obtain ⟨c1, c2, c3, c4, c5, c6, c7, c8⟩ := key h3
  obtain ⟨d1, d2, d3, d4, d5, d6, d7, d8⟩ := key h4
  refine ⟨by rw [d1, c1, b1, a1], by rw [d2, c2, b2, a2], by rw [d3, c3, b3, a3], by rw [d4, c4, b4, a4], by rw [d5, c5, b5, a5], by rw [d6, c6, b6, a6], fun n x hx => d7 n x (c7 n x (b7 n x (a7 n x hx))), ?_, ?_, ?_, d8⟩
  · exact d7 _ _ (c7 _ _ (b7 _ _ a8))
  · exact d7 _ _ (c7 _ _ b8)
  · exact d7 _ _ c8

theorem ext_row {β β' : Nat → Nat} {m : M} {w : World} {ty : TypeId} {ks : List PK} {v : V} {r : RowAt} (h : RowOk F w0 β m.h w ty ks v r β') {m' : M} (e1 : m'.h = r.d ++ m.h) (e3 : m'.D = m.D) (e4 : m'.R = m.R) (e5 : m'.L = m.L) (e6 : m'.p → m.p) (e7 : ∀ n x, find m.ρ n = some x → find m'.ρ n = some x) :
    Ext β m β' m' :=
  ⟨h.ext, by rw [e1]; exact h.mono, by rw [e1]; exact h.op, by rw [e1]; exact h.ot, by rw [e3]; exact fun _ _ h => h, by rw [e4]; exact fun _ _ h => h, e7, by rw [e5]; exact fun _ _ h => h, e6⟩

/-! ### what a fit says -/
def RowM (m : M) (j : Nat) (ty : TypeId) (ks : List PK) (xs : List (List Value)) : Prop :=
  ∃ j' a' o' c' b, find m.ρ j = some j' ∧ find m.ρ (j + 1) = some a' ∧ find m.ρ (j + 2) = some o' ∧ find m.ρ (j + 3) = some c' ∧ lookB m.h j' = some b ∧ b.ty = ty ∧ b.k = .open_ a' o' c' ks xs
def KeyM (β : Nat → Nat) (m : M) (j n : Nat) (v : V) : Prop :=
  ∃ j' a' o' c', find m.ρ j = some j' ∧ find m.ρ (j + 1) = some a' ∧ find m.ρ (j + 2) = some o' ∧ find m.ρ (j + 3) = some c' ∧ den β v = den β (.r j' a' o' c' n) ∧ has m.h j' ∧ has m.h a' ∧ has m.h o' ∧ has m.h c'
def LentM (rom : RomP) (β : Nat → Nat) (m : M) (j : Nat) (ks : List PK) (xs : List (List Value)) (v : V) : Prop :=
  ∃ y, find m.L j = some y ∧ den β v = den β y ∧ (∀ i, i ∈ refs y → has m.h i) ∧
    ((∃ nn ad cap, y = .w nn ad xs.length cap ks xs ∧ rom nn ad ks xs) ∨ ∃ j' a' o' c' b, y = .r j' a' o' c' xs.length ∧ lookB m.h j' = some b ∧ b.k = .open_ a' o' c' ks xs)

mutual
def Mat (rom : RomP) (β : Nat → Nat) (m : M) : Pt → V → Prop
  | .i k n, v => ∃ x, find m.D n = some (.int k x) ∧ val v = some (.int k x)
  | .b n, v => ∃ x, find m.D n = some (.bool x) ∧ val v = some (.bool x)
  | .s n, v => ∃ x, find m.D n = some (.string x) ∧ val v = some (.string x)
  | .c x, v => val v = some x
  | .gi k x, v => val v = some (.int k x)
  | .gb x, v => val v = some (.bool x)
  | .gs x, v => val v = some (.string x)
  | .p j o, v => ∃ j', find m.ρ j = some j' ∧ v = .p j' o
  | .r j ty ks, v => ∃ xs, find m.R j = some xs ∧ RowM m j ty ks xs ∧ KeyM β m j xs.length v
  | .gr j ty ks xs, v => RowM m j ty ks xs ∧ KeyM β m j xs.length v
  | .k j n, v => KeyM β m j n v
  | .x j _ ks, v => ∃ xs, find m.R j = some xs ∧ LentM rom β m j ks xs v
  | .gx nn ad n cap ks xs, v => v = .w nn ad n cap ks xs
  | .f g xs ys, v => ∃ as bs, target v = some (g, as, bs) ∧ MatL rom β m xs as ∧ MatL rom β m ys bs
  | .a xs, v => ∃ cs, isAg v = true ∧ cells v = some cs ∧ MatL rom β m xs cs
  | .t xs, v => ∃ cs, tupleC v = some cs ∧ MatL rom β m xs cs
termination_by structural x => x
def MatL (rom : RomP) (β : Nat → Nat) (m : M) : List Pt → List V → Prop
  | [], [] => True
  | [], _ :: _ => False
  | _ :: _, [] => False
  | p :: ps, v :: vs => Mat rom β m p v ∧ MatL rom β m ps vs
termination_by structural x => x
end

theorem tupleC_refs {v : V} {cs : List V} (h : tupleC v = some cs) : ∀ j, j ∈ refsL cs → j ∈ refs v := by
  unfold tupleC at h
  split at h <;> simp only [Option.some.injEq, reduceCtorEq] at h <;> subst h
  · exact fun _ h => h
  · rw [refsL_mapc]; simp
  · rw [refsL_mapv]; simp
theorem target_refs {v : V} {g : FuncId} {as bs : List V} (h : target v = some (g, as, bs)) : (∀ j, j ∈ refsL as → j ∈ refs v) ∧ ∀ j, j ∈ refsL bs → j ∈ refs v :=
  ⟨(target_den h (fun _ => 0)).2.2.1, (target_den h (fun _ => 0)).2.2.2⟩

theorem RowM.ext {β β' : Nat → Nat} {m m' : M} (he : Ext β m β' m') {j : Nat} {ty : TypeId} {ks : List PK} {xs : List (List Value)} (h : RowM m j ty ks xs) : RowM m' j ty ks xs := by
  obtain ⟨j', a', o', c', b, h1, h2, h3, h4, h5, h6, h7⟩ := h
  exact ⟨j', a', o', c', b, he.ρ _ _ h1, he.ρ _ _ h2, he.ρ _ _ h3, he.ρ _ _ h4, he.op _ _ h5 (by rw [h7]; trivial), h6, h7⟩
theorem den_ext {β β' : Nat → Nat} {m m' : M} (he : Ext β m β' m') {v : V} (hv : ∀ j, j ∈ refs v → has m.h j) : den β' v = den β v := den_congr β β' v fun j hj => he.β j (hv j hj)
theorem KeyM.ext {β β' : Nat → Nat} {m m' : M} (he : Ext β m β' m') {j n : Nat} {v : V} (hv : ∀ j, j ∈ refs v → has m.h j) (h : KeyM β m j n v) : KeyM β' m' j n v := by
  obtain ⟨j', a', o', c', h1, h2, h3, h4, h5, h6, h7, h8, h9⟩ := h
  refine ⟨j', a', o', c', he.ρ _ _ h1, he.ρ _ _ h2, he.ρ _ _ h3, he.ρ _ _ h4, ?_, he.h _ h6, he.h _ h7, he.h _ h8, he.h _ h9⟩
  rw [den_ext he hv, h5, den_ext he (v := .r j' a' o' c' n)]
  intro i hi
  simp only [refs, List.mem_cons, List.not_mem_nil, or_false] at hi
  rcases hi with rfl | rfl | rfl | rfl <;> assumption
theorem LentM.ext {β β' : Nat → Nat} {m m' : M} (he : Ext β m β' m') {j : Nat} {ks : List PK} {xs : List (List Value)} {v : V} (hv : ∀ j, j ∈ refs v → has m.h j) (h : LentM rom β m j ks xs v) : LentM rom β' m' j ks xs v := by
  obtain ⟨y, h1, h2, h3, h4⟩ := h
  refine ⟨y, he.L _ _ h1, by rw [den_ext he hv, h2, den_ext he h3], fun i hi => he.h i (h3 i hi), ?_⟩
  rcases h4 with h4 | ⟨j', a', o', c', b, h5, h6, h7⟩
  · exact .inl h4
  · exact .inr ⟨j', a', o', c', b, h5, he.op _ _ h6 (by rw [h7]; trivial), h7⟩

mutual
theorem mat_ext {β β' : Nat → Nat} {m m' : M} (he : Ext β m β' m') : ∀ (pt : Pt) (v : V), (∀ j, j ∈ refs v → has m.h j) → Mat rom β m pt v → Mat rom β' m' pt v
  | .i k n, v, _, h => by obtain ⟨x, h1, h2⟩ := h; exact ⟨x, he.D _ _ h1, h2⟩
  | .b n, v, _, h => by obtain ⟨x, h1, h2⟩ := h; exact ⟨x, he.D _ _ h1, h2⟩
  | .s n, v, _, h => by obtain ⟨x, h1, h2⟩ := h; exact ⟨x, he.D _ _ h1, h2⟩
  | .c x, v, _, h => h
  | .gi k x, v, _, h => h
  | .gb x, v, _, h => h
  | .gs x, v, _, h => h
  | .p j o, v, _, h => by obtain ⟨j', h1, h2⟩ := h; exact ⟨j', he.ρ _ _ h1, h2⟩
  | .r j ty ks, v, hv, h => by obtain ⟨xs, h1, h2, h3⟩ := h; exact ⟨xs, he.R _ _ h1, h2.ext he, h3.ext he hv⟩
  | .gr j ty ks xs, v, hv, h => ⟨h.1.ext he, h.2.ext he hv⟩
  | .k j n, v, hv, h => KeyM.ext he hv h
  | .gx nn ad n cap ks xs, v, _, h => h
  | .x j _ ks, v, hv, h => by obtain ⟨xs, h1, h2⟩ := h; exact ⟨xs, he.R _ _ h1, h2.ext he hv⟩
  | .f g xs ys, v, hv, h => by
    obtain ⟨as, bs, h1, h2, h3⟩ := h
    obtain ⟨t1, t2⟩ := target_refs h1
    exact ⟨as, bs, h1, matL_ext he xs as (fun j hj => hv j (t1 j hj)) h2, matL_ext he ys bs (fun j hj => hv j (t2 j hj)) h3⟩
  | .a xs, v, hv, h => by
    obtain ⟨cs, h1, h2, h3⟩ := h
    exact ⟨cs, h1, h2, matL_ext he xs cs (fun j hj => hv j (cells_refs h2 j hj)) h3⟩
  | .t xs, v, hv, h => by
    obtain ⟨cs, h1, h3⟩ := h
    exact ⟨cs, h1, matL_ext he xs cs (fun j hj => hv j (tupleC_refs h1 j hj)) h3⟩
theorem matL_ext {β β' : Nat → Nat} {m m' : M} (he : Ext β m β' m') : ∀ (ps : List Pt) (vs : List V), (∀ j, j ∈ refsL vs → has m.h j) → MatL rom β m ps vs → MatL rom β' m' ps vs
  | [], [], _, h => h
  | [], _ :: _, _, h => h
  | _ :: _, [], _, h => h
  | p :: ps, v :: vs, hv, h => ⟨mat_ext he p v (fun j hj => hv j (List.mem_append_left _ hj)) h.1, matL_ext he ps vs (fun j hj => hv j (List.mem_append_right _ hj)) h.2⟩
end

theorem hasRow {β : Nat → Nat} {h : Hp} {w : World} (H : HR F w0 β h w) {j a o c : Nat} {ks : List PK} {xs : List (List Value)} {b : Blk} (hb : lookB h j = some b) (hk : b.k = .open_ a o c ks xs) : has h j ∧ has h a ∧ has h o ∧ has h c :=
  ⟨⟨b, hb⟩, H.wf j b hb a (.inr (by rw [hk]; simp [Kd.refs])), H.wf j b hb o (.inr (by rw [hk]; simp [Kd.refs])), H.wf j b hb c (.inr (by rw [hk]; simp [Kd.refs]))⟩

theorem rowStep {β : Nat → Nat} {m : M} {w : World} (hi : MI F w0 β m w) {ty : TypeId} {ks : List PK} {v : V} {r : RowAt} (hr : asRow m.h m.nx ty ks v = some r) {j : Nat} {m' : M} (hm : m.row j r = some m') (hn : r.n = r.xs.length) :
    ∃ β', MI F w0 β' m' w ∧ Ext β m β' m' ∧ RowM m' j ty ks r.xs ∧ KeyM β' m' j r.xs.length v := by
  obtain ⟨β', ok⟩ := asRow_ok hr hi.hr hi.fr
  obtain ⟨a1, a2, a3, a4, a5, a6, a7, a8, a9, a10, a11⟩ := row_ok hm
  obtain ⟨b, b1, b2, b3⟩ := ok.at_
  have hmi : MI F w0 β' m' w := ⟨by rw [a1]; exact ok.hr, by rw [a1, a2]; exact ok.fr⟩
  obtain ⟨k1, k2, k3, k4⟩ := hasRow ok.hr b1 b3
  refine ⟨β', hmi, ext_row ok a1 a3 a4 a5 (by rw [a6]; exact fun h => h) a7, ⟨r.j, r.a, r.o, r.c, b, a8, a9, a10, a11, by rw [a1]; exact b1, b2, b3⟩, ⟨r.j, r.a, r.o, r.c, a8, a9, a10, a11, ?_, ?_, ?_, ?_, ?_⟩⟩
  · rw [← hn]; exact ok.den
  all_goals rw [a1]; assumption

theorem bindp {m m' : M} {n : Nat} {x : Value} (h : m.bindD n x = some m') : m'.p → m.p := (bindD_ok h (fun _ => 0)).1.p
mutual
theorem mt_p : ∀ (pt : Pt) (v : V) (m m' : M), mt rom pt v m = some m' → m'.p → m.p
  | .i k n, v, m, m', h => by
    simp only [mt] at h
    split at h
    · split at h
      · exact bindp h
      · cases h
    · cases h
  | .b n, v, m, m', h => by
    simp only [mt] at h
    split at h
    · exact bindp h
    · cases h
  | .s n, v, m, m', h => by
    simp only [mt] at h
    split at h
    · exact bindp h
    · cases h
  | .c x, v, m, m', h => by
    simp only [mt, Option.bind_eq_some_iff] at h
    obtain ⟨y, _, h⟩ := h
    cases hc : isC v with
    | true =>
      rw [hc] at h
      simp only [cond_true] at h
      have := (bif_some' h).2
      simp only [Option.some.injEq] at this
      subst this
      exact fun h => h
    | false =>
      rw [hc] at h
      simp only [cond_false, Option.some.injEq] at h
      subst h
      exact fun h => h.1
  | .gi k x, v, m, m', h => by
    simp only [mt] at h
    split at h
    · split at h
      · simp only [Option.some.injEq] at h; subst h; exact fun h => h.1
      · cases h
    · cases h
  | .gb x, v, m, m', h => by
    simp only [mt] at h
    split at h
    · simp only [Option.some.injEq] at h; subst h; exact fun h => h.1
    · cases h
  | .gs x, v, m, m', h => by
    simp only [mt] at h
    split at h
    · simp only [Option.some.injEq] at h; subst h; exact fun h => h.1
    · cases h
  | .p j o, v, m, m', h => by
    simp only [mt] at h
    split at h
    · exact (bindρ_ok (bif_some' h).2 (fun _ => 0)).1.p
    · cases h
  | .r j ty ks, v, m, m', h => by
    simp only [mt, Option.bind_eq_some_iff, Option.some.injEq] at h
    obtain ⟨r, hr, m1, h1, m2, h2, rfl⟩ := h
    intro hp
    have := (bindR_ok h2 (fun _ => 0)).1.p hp.1
    rw [(row_ok h1).2.2.2.2.2.1] at this
    exact this
  | .gr j ty ks xs, v, m, m', h => by
    simp only [mt, Option.bind_eq_some_iff, Option.some.injEq] at h
    obtain ⟨r, hr, m1, h1, rfl⟩ := h
    intro hp
    have := hp.1
    rw [(row_ok h1).2.2.2.2.2.1] at this
    exact this
  | .k j n, v, m, m', h => by
    simp only [mt] at h
    split at h
    · simp only [Option.bind_eq_some_iff, Option.some.injEq] at h
      obtain ⟨m1, h1, m2, h2, m3, h3, m4, h4, rfl⟩ := h
      intro hp
      exact (bindρ_ok h1 (fun _ => 0)).1.p ((bindρ_ok h2 (fun _ => 0)).1.p ((bindρ_ok h3 (fun _ => 0)).1.p ((bindρ_ok h4 (fun _ => 0)).1.p hp.1)))
    · cases h
  | .x j ty ks, v, m, m', h => by
    simp only [mt] at h
    split at h
    · obtain ⟨_, h'⟩ := bif_some' h
      simp only [Option.bind_eq_some_iff, Option.some.injEq] at h'
      obtain ⟨m1, h1, m2, h2, rfl⟩ := h'
      intro hp
      exact (bindR_ok h1 (fun _ => 0)).1.p ((bindL_ok h2 (fun _ => 0)).1.p hp.1)
    · simp only [Option.bind_eq_some_iff, Option.some.injEq] at h
      obtain ⟨r, hr, m1, h1, m2, h2, rfl⟩ := h
      intro hp
      exact (bindR_ok h1 (fun _ => 0)).1.p ((bindL_ok h2 (fun _ => 0)).1.p hp.1)
  | .gx nn ad n cap ks xs, v, m, m', h => by
    simp only [mt] at h
    split at h
    · have h' := (bif_some' h).2
      simp only [Option.some.injEq] at h'
      subst h'
      exact fun h => h.1
    · cases h
  | .f g xs ys, v, m, m', h => by
    simp only [mt] at h
    split at h
    · have h' := (bif_some' h).2
      simp only [Option.bind_eq_some_iff] at h'
      obtain ⟨m1, h1, h2⟩ := h'
      exact fun hp => mtL_p xs _ m m1 h1 (mtL_p ys _ m1 m' h2 hp)
    · cases h
  | .a xs, v, m, m', h => by
    simp only [mt] at h
    have h' := (bif_some' h).2
    simp only [Option.bind_eq_some_iff] at h'
    obtain ⟨cs, _, h'⟩ := h'
    exact mtL_p xs cs m m' h'
  | .t xs, v, m, m', h => by
    simp only [mt, Option.bind_eq_some_iff] at h
    obtain ⟨cs, _, h⟩ := h
    exact mtL_p xs cs m m' h
theorem mtL_p : ∀ (ps : List Pt) (vs : List V) (m m' : M), mtL rom ps vs m = some m' → m'.p → m.p
  | [], [], m, m', h => by simp only [mtL, Option.some.injEq] at h; subst h; exact fun h => h
  | [], _ :: _, m, m', h => by simp [mtL] at h
  | _ :: _, [], m, m', h => by simp [mtL] at h
  | p :: ps, v :: vs, m, m', h => by
    simp only [mtL, Option.bind_eq_some_iff] at h
    obtain ⟨m1, h1, h2⟩ := h
    exact fun hp => mt_p p v m m1 h1 (mtL_p ps vs m1 m' h2 hp)
end

mutual
theorem mt_ok {w : World} : ∀ (pt : Pt) (v : V) (m m' : M) (β : Nat → Nat), mt rom pt v m = some m' → MI F w0 β m w → (∀ j, j ∈ refs v → has m.h j) → m'.p →
    ∃ β', MI F w0 β' m' w ∧ Ext β m β' m' ∧ Mat rom β' m' pt v
  | .i k n, v, m, m', β, h, hi, hv, hp => by
    simp only [mt] at h
    split at h
    · rename_i k' x hx
      split at h
      · rename_i e _; subst e
        obtain ⟨e1, e2, e3, e4⟩ := bindD_ok h β
        exact ⟨β, hi.same e3 e4, e1, x, e2, hx⟩
      · cases h
    · cases h
  | .b n, v, m, m', β, h, hi, hv, hp => by
    simp only [mt] at h
    split at h
    · rename_i x hx
      obtain ⟨e1, e2, e3, e4⟩ := bindD_ok h β
      exact ⟨β, hi.same e3 e4, e1, x, e2, hx⟩
    · cases h
  | .s n, v, m, m', β, h, hi, hv, hp => by
    simp only [mt] at h
    split at h
    · rename_i x hx
      obtain ⟨e1, e2, e3, e4⟩ := bindD_ok h β
      exact ⟨β, hi.same e3 e4, e1, x, e2, hx⟩
    · cases h
  | .c x, v, m, m', β, h, hi, hv, hp => by
    simp only [mt, Option.bind_eq_some_iff] at h
    obtain ⟨y, hy, h⟩ := h
    cases hc : isC v with
    | true =>
      rw [hc] at h
      simp only [cond_true] at h
      obtain ⟨he, h⟩ := bif_some' h
      simp only [Option.some.injEq] at h
      subst h
      have := eqAt_ok he
      subst this
      exact ⟨β, hi, Ext.refl β m, hy⟩
    | false =>
      rw [hc] at h
      simp only [cond_false, Option.some.injEq] at h
      subst h
      obtain ⟨e1, e2⟩ := ask_ok m (y = x) β
      have := e2 hp
      subst this
      exact ⟨β, hi.same rfl rfl, e1, hy⟩
  | .gi k x, v, m, m', β, h, hi, hv, hp => by
    simp only [mt] at h
    split at h
    · rename_i k' y hy
      split at h
      · rename_i e _; subst e
        simp only [Option.some.injEq] at h
        subst h
        obtain ⟨e1, e2⟩ := ask_ok m (y = x) β
        have := e2 hp
        subst this
        exact ⟨β, hi.same rfl rfl, e1, hy⟩
      · cases h
    · cases h
  | .gb x, v, m, m', β, h, hi, hv, hp => by
    simp only [mt] at h
    split at h
    · rename_i y hy
      simp only [Option.some.injEq] at h
      subst h
      obtain ⟨e1, e2⟩ := ask_ok m (y = x) β
      have := e2 hp
      subst this
      exact ⟨β, hi.same rfl rfl, e1, hy⟩
    · cases h
  | .gs x, v, m, m', β, h, hi, hv, hp => by
    simp only [mt] at h
    split at h
    · rename_i y hy
      simp only [Option.some.injEq] at h
      subst h
      obtain ⟨e1, e2⟩ := ask_ok m (y = x) β
      have := e2 hp
      subst this
      exact ⟨β, hi.same rfl rfl, e1, hy⟩
    · cases h
  | .p j o, v, m, m', β, h, hi, hv, hp => by
    simp only [mt] at h
    split at h
    · rename_i j' o'
      obtain ⟨hb, h'⟩ := bif_some' h
      obtain ⟨e1, e2, e3, e4⟩ := bindρ_ok h' β
      exact ⟨β, hi.same e3 e4, e1, j', e2, by rw [Nat.eq_of_beq_eq_true hb]⟩
    · cases h
  | .r j ty ks, v, m, m', β, h, hi, hv, hp => by
    simp only [mt, Option.bind_eq_some_iff, Option.some.injEq] at h
    obtain ⟨r, hr, m1, h1, m2, h2, rfl⟩ := h
    obtain ⟨f1, f2⟩ := ask_ok m2 (r.n = r.xs.length) β
    obtain ⟨β', a1, a2, a3, a4⟩ := rowStep hi hr h1 (f2 hp)
    obtain ⟨e1, e2, e3, e4⟩ := bindR_ok h2 β'
    obtain ⟨f1, _⟩ := ask_ok m2 (r.n = r.xs.length) β'
    have hv1 : ∀ i, i ∈ refs v → has m1.h i := fun i hi' => a2.h i (hv i hi')
    exact ⟨β', (a1.same e3 e4).same rfl rfl, (a2.trans e1).trans f1, r.xs, f1.R _ _ e2, (a3.ext e1).ext f1, a4.ext (e1.trans f1) hv1⟩
  | .gr j ty ks xs, v, m, m', β, h, hi, hv, hp => by
    simp only [mt, Option.bind_eq_some_iff, Option.some.injEq] at h
    obtain ⟨r, hr, m1, h1, rfl⟩ := h
    obtain ⟨f1, f2⟩ := ask_ok m1 (r.n = r.xs.length ∧ r.xs = xs) β
    obtain ⟨f3, f4⟩ := f2 hp
    obtain ⟨β', a1, a2, a3, a4⟩ := rowStep hi hr h1 f3
    obtain ⟨f1, _⟩ := ask_ok m1 (r.n = r.xs.length ∧ r.xs = xs) β'
    rw [f4] at a3 a4
    have hv1 : ∀ i, i ∈ refs v → has m1.h i := fun i hi' => a2.h i (hv i hi')
    exact ⟨β', a1.same rfl rfl, a2.trans f1, a3.ext f1, a4.ext f1 hv1⟩
  | .k j n, v, m, m', β, h, hi, hv, hp => by
    simp only [mt] at h
    split at h
    · rename_i j' a o c n'
      simp only [Option.bind_eq_some_iff, Option.some.injEq] at h
      obtain ⟨m1, h1, m2, h2, m3, h3, m4, h4, rfl⟩ := h
      obtain ⟨a1, a2, a3, a4⟩ := bindρ_ok h1 β
      obtain ⟨b1, b2, b3, b4⟩ := bindρ_ok h2 β
      obtain ⟨c1, c2, c3, c4⟩ := bindρ_ok h3 β
      obtain ⟨d1, d2, d3, d4⟩ := bindρ_ok h4 β
      obtain ⟨f1, f2⟩ := ask_ok m4 (n' = n) β
      have := f2 hp
      subst this
      have hh : (m4.ask (n' = n')).h = m.h := by show m4.h = m.h; rw [d3, c3, b3, a3]
      refine ⟨β, hi.same hh (by show m4.nx = m.nx; rw [d4, c4, b4, a4]), (((a1.trans b1).trans c1).trans d1).trans f1, j', a, o, c, f1.ρ _ _ (d1.ρ _ _ (c1.ρ _ _ (b1.ρ _ _ a2))), f1.ρ _ _ (d1.ρ _ _ (c1.ρ _ _ b2)), f1.ρ _ _ (d1.ρ _ _ c2), f1.ρ _ _ d2, rfl, ?_, ?_, ?_, ?_⟩ <;> rw [hh] <;> exact hv _ (by simp [refs])
    · cases h
  | .x j ty ks, v, m, m', β, h, hi, hv, hp => by
    simp only [mt] at h
    split at h
    · rename_i nn ad n cap ks' xs
      obtain ⟨hk, h'⟩ := bif_some' h
      have := eqKs_ok hk
      subst this
      simp only [Option.bind_eq_some_iff, Option.some.injEq] at h'
      obtain ⟨m1, h1, m2, h2, rfl⟩ := h'
      obtain ⟨a1, a2, a3, a4⟩ := bindR_ok h1 β
      obtain ⟨b1, b2, b3, b4⟩ := bindL_ok h2 β
      obtain ⟨f1, f2⟩ := ask_ok m2 (rom nn ad ks xs ∧ n = xs.length) β
      obtain ⟨f3, f4⟩ := f2 hp
      subst f4
      exact ⟨β, hi.same (by show m2.h = m.h; rw [b3, a3]) (by show m2.nx = m.nx; rw [b4, a4]), (a1.trans b1).trans f1, xs, f1.R _ _ (b1.R _ _ a2), _, f1.L _ _ b2, rfl, by simp [refs], .inl ⟨nn, ad, cap, rfl, f3⟩⟩
    · simp only [Option.bind_eq_some_iff, Option.some.injEq] at h
      obtain ⟨r, hr, m1, h1, m2, h2, rfl⟩ := h
      obtain ⟨β', ok⟩ := asRow_ok hr hi.hr hi.fr
      obtain ⟨a1, a2, a3, a4⟩ := bindR_ok h1 β
      obtain ⟨b1, b2, b3, b4⟩ := bindL_ok h2 β
      obtain ⟨hp1, hn⟩ := hp
      obtain ⟨b, c1, c2, c3⟩ := ok.at_
      have hh : r.d ++ m2.h = r.d ++ m.h := by rw [b3, a3]
      obtain ⟨k1, k2, k3, k4⟩ := hasRow ok.hr c1 c3
      refine ⟨β', ⟨by show HR F w0 β' (r.d ++ m2.h) w; rw [hh]; exact ok.hr, by show ∀ j, has (r.d ++ m2.h) j → j < r.nx; rw [hh]; exact ok.fr⟩, ⟨ok.ext, ?_, ?_, ?_, fun _ _ h => b1.D _ _ (a1.D _ _ h), fun _ _ h => b1.R _ _ (a1.R _ _ h), fun _ _ h => b1.ρ _ _ (a1.ρ _ _ h), fun _ _ h => b1.L _ _ (a1.L _ _ h), fun h => a1.p (b1.p h.1)⟩, r.xs, b1.R _ _ a2, _, b2, ok.den, ?_, .inr ⟨r.j, r.a, r.o, r.c, b, by rw [hn], ?_, c3⟩⟩
      · show ∀ j, has m.h j → has (r.d ++ m2.h) j; rw [hh]; exact ok.mono
      · show ∀ j b, lookB m.h j = some b → isOpen b.k → lookB (r.d ++ m2.h) j = some b; rw [hh]; exact ok.op
      · show ∀ j b, lookB m.h j = some b → lookB (r.d ++ m2.h) j = some b ∨ ∃ b', lookB (r.d ++ m2.h) j = some b' ∧ isOpen b'.k; rw [hh]; exact ok.ot
      · intro i hi'
        show has (r.d ++ m2.h) i
        rw [hh]
        simp only [refs, List.mem_cons, List.not_mem_nil, or_false] at hi'
        rcases hi' with rfl | rfl | rfl | rfl <;> assumption
      · show lookB (r.d ++ m2.h) r.j = some b
        rw [hh]; exact c1
  | .gx nn ad n cap ks xs, v, m, m', β, h, hi, hv, hp => by
    simp only [mt] at h
    split at h
    · obtain ⟨hk, h'⟩ := bif_some' h
      have := eqKs_ok hk
      subst this
      simp only [Option.some.injEq] at h'
      subst h'
      obtain ⟨f1, f2⟩ := ask_ok m _ β
      obtain ⟨g1, g2, g3, g4, g5⟩ := f2 hp
      subst g1; subst g2; subst g3; subst g4; subst g5
      exact ⟨β, hi.same rfl rfl, f1, rfl⟩
    · cases h
  | .f g xs ys, v, m, m', β, h, hi, hv, hp => by
    simp only [mt] at h
    split at h
    · rename_i g' as bs ht
      obtain ⟨hb, h'⟩ := bif_some' h
      rw [← Nat.eq_of_beq_eq_true hb] at ht
      simp only [Option.bind_eq_some_iff] at h'
      obtain ⟨m1, h1, h2⟩ := h'
      obtain ⟨t1, t2⟩ := target_refs ht
      have q := mtL_p ys bs m1 m' h2
      obtain ⟨β1, a1, a2, a3⟩ := mtL_ok xs as m m1 β h1 hi (fun j hj => hv j (t1 j hj)) (q hp)
      obtain ⟨β2, b1, b2, b3⟩ := mtL_ok ys bs m1 m' β1 h2 a1 (fun j hj => a2.h j (hv j (t2 j hj))) hp
      exact ⟨β2, b1, a2.trans b2, as, bs, ht, matL_ext b2 xs as (fun j hj => a2.h j (hv j (t1 j hj))) a3, b3⟩
    · cases h
  | .a xs, v, m, m', β, h, hi, hv, hp => by
    simp only [mt] at h
    obtain ⟨ha, h⟩ := bif_some' h
    simp only [Option.bind_eq_some_iff] at h
    obtain ⟨cs, hc, h⟩ := h
    obtain ⟨β1, a1, a2, a3⟩ := mtL_ok xs cs m m' β h hi (fun j hj => hv j (cells_refs hc j hj)) hp
    exact ⟨β1, a1, a2, cs, ha, hc, a3⟩
  | .t xs, v, m, m', β, h, hi, hv, hp => by
    simp only [mt, Option.bind_eq_some_iff] at h
    obtain ⟨cs, hc, h⟩ := h
    obtain ⟨β1, a1, a2, a3⟩ := mtL_ok xs cs m m' β h hi (fun j hj => hv j (tupleC_refs hc j hj)) hp
    exact ⟨β1, a1, a2, cs, hc, a3⟩
theorem mtL_ok {w : World} : ∀ (ps : List Pt) (vs : List V) (m m' : M) (β : Nat → Nat), mtL rom ps vs m = some m' → MI F w0 β m w → (∀ j, j ∈ refsL vs → has m.h j) → m'.p →
    ∃ β', MI F w0 β' m' w ∧ Ext β m β' m' ∧ MatL rom β' m' ps vs
  | [], [], m, m', β, h, hi, hv, hp => by simp only [mtL, Option.some.injEq] at h; subst h; exact ⟨β, hi, Ext.refl β m, trivial⟩
  | [], _ :: _, m, m', β, h, hi, hv, hp => by simp [mtL] at h
  | _ :: _, [], m, m', β, h, hi, hv, hp => by simp [mtL] at h
  | p :: ps, v :: vs, m, m', β, h, hi, hv, hp => by
    simp only [mtL, Option.bind_eq_some_iff] at h
    obtain ⟨m1, h1, h2⟩ := h
    have q := mtL_p ps vs m1 m' h2
    have hv1 : ∀ j, j ∈ refs v → has m.h j := fun j hj => hv j (List.mem_append_left _ hj)
    have hv2 : ∀ j, j ∈ refsL vs → has m.h j := fun j hj => hv j (List.mem_append_right _ hj)
    obtain ⟨β1, a1, a2, a3⟩ := mt_ok p v m m1 β h1 hi hv1 (q hp)
    obtain ⟨β2, b1, b2, b3⟩ := mtL_ok ps vs m1 m' β1 h2 a1 (fun j hj => a2.h j (hv2 j hj)) hp
    exact ⟨β2, b1, a2.trans b2, mat_ext b2 p v (fun j hj => a2.h j (hv1 j hj)) a3, b3⟩
end
end
end Go.Proofs.YtfjldllegmfooaaDoor.X
end

section
/- A view that fits: its memory is what the pattern says. No condition. -/
namespace Go.Proofs.YtfjldllegmfooaaDoor.X
open Go.RowKit

section
variable {P : Program} {F : Nat → Prop} {w0 : World} {rom : RomP}

def nz : Nat → Bool
  | 0 => false
  | _ + 1 => true

/-- Where what is lent lies. -/
def adt (β : Nat → Nat) (m : M) : At' where
  nn := fun j => match find m.L j with
    | some (.w nn _ _ _ _ _) => nn
    | some (.r _ a _ _ _) => nz (β a)
    | _ => false
  ad := fun j => match find m.L j with
    | some (.w _ ad _ _ _ _) => ad
    | some (.r j' _ o _ _) => ⟨β j', β o, none⟩
    | _ => default
  cap := fun j => match find m.L j with
    | some (.w _ _ _ cap _ _) => cap
    | some (.r _ _ _ c _) => β c
    | _ => 0

theorem ρf_of {m : M} {j j' : Nat} (h : find m.ρ j = some j') : m.ρf j = j' := by unfold M.ρf; rw [h]; rfl
theorem dtD_of {m : M} {n : Nat} {x : Value} (h : find m.D n = some x) : m.dt.D n = x := by unfold M.dt; dsimp only; rw [h]; rfl
theorem dtR_of {m : M} {n : Nat} {x : List (List Value)} (h : find m.R n = some x) : m.dt.R n = x := by unfold M.dt; dsimp only; rw [h]; rfl

theorem adrOf_nz (va g o : Nat) : adrOf va g o = bif nz va then some ⟨g, o, none⟩ else none := by cases va <;> rfl

theorem cells_den' {v : V} {cs : List V} (ha : isAg v = true) (h : cells v = some cs) (β : Nat → Nat) : den β v = .agg (denL β cs).toArray := by
  have hc := cells_den h β
  unfold isAg at ha
  split at ha
  · simp only [den, Value.cells] at hc ⊢; rw [hc]
  · simp only [den, Value.cells] at hc ⊢; rw [hc]
  · simp only [den, Value.cells] at hc ⊢; rw [hc]
  · cases ha
theorem tupleC_den {v : V} {cs : List V} (h : tupleC v = some cs) (β : Nat → Nat) : den β v = .tuple (denL β cs).toArray := by
  unfold tupleC at h
  split at h <;> simp only [Option.some.injEq, reduceCtorEq] at h <;> subst h
  · rfl
  · simp [den, denL_mapc]
  · simp [den, denL_mapv]

theorem keyM_den {β : Nat → Nat} {m : M} {j n : Nat} {v : V} (h : KeyM β m j n v) : den β v = den (β ∘ m.ρf) (.r j (j + 1) (j + 2) (j + 3) n) := by
  obtain ⟨j', a', o', c', h1, h2, h3, h4, h5, _⟩ := h
  rw [h5]
  simp only [den, Function.comp_apply, ρf_of h1, ρf_of h2, ρf_of h3, ρf_of h4]

mutual
theorem mat_den {β : Nat → Nat} {m : M} : ∀ (pt : Pt) (v : V), Mat rom β m pt v → den β v = den (β ∘ m.ρf) (fill m.dt (adt β m) pt)
  | .i k n, v, h => by obtain ⟨x, h1, h2⟩ := h; rw [val_den β v _ h2]; simp only [fill, den, Dt.I, dtD_of h1, asI]
  | .b n, v, h => by obtain ⟨x, h1, h2⟩ := h; rw [val_den β v _ h2]; simp only [fill, den, Dt.B, dtD_of h1, asB]
  | .s n, v, h => by obtain ⟨x, h1, h2⟩ := h; rw [val_den β v _ h2]; simp only [fill, den, Dt.S, dtD_of h1, asS]
  | .c x, v, h => by rw [val_den β v _ h]; rfl
  | .gi k x, v, h => by rw [val_den β v _ h]; rfl
  | .gb x, v, h => by rw [val_den β v _ h]; rfl
  | .gs x, v, h => by rw [val_den β v _ h]; rfl
  | .p j o, v, h => by obtain ⟨j', h1, h2⟩ := h; rw [h2]; simp only [fill, den, Function.comp_apply, ρf_of h1]
  | .r j ty ks, v, h => by
    obtain ⟨xs, h1, _, h3⟩ := h
    rw [keyM_den h3]; simp only [fill, dtR_of h1]
  | .gr j ty ks xs, v, h => by rw [keyM_den h.2]; simp only [fill]
  | .k j n, v, h => by rw [keyM_den h]; simp only [fill]
  | .gx nn ad n cap ks xs, v, h => by
    replace h : v = .w nn ad n cap ks xs := h
    rw [h]; rfl
  | .x j _ ks, v, h => by
    obtain ⟨xs, h1, y, h2, h3, _, h4⟩ := h
    rw [h3]
    rcases h4 with ⟨nn, ad, cap, rfl, _⟩ | ⟨j', a', o', c', b, rfl, _⟩
    · simp only [fill, den, adt, h2, dtR_of h1]
    · simp only [fill, den, adt, h2, dtR_of h1, adrOf_nz]
  | .f g xs ys, v, h => by
    obtain ⟨as, bs, h1, h2, h3⟩ := h
    rw [(target_den h1 β).1, matL_den xs as h2, matL_den ys bs h3]; rfl
  | .a xs, v, h => by
    obtain ⟨cs, h1, h2, h3⟩ := h
    rw [cells_den' h1 h2 β, matL_den xs cs h3]; rfl
  | .t xs, v, h => by
    obtain ⟨cs, h1, h3⟩ := h
    rw [tupleC_den h1 β, matL_den xs cs h3]; rfl
theorem matL_den {β : Nat → Nat} {m : M} : ∀ (ps : List Pt) (vs : List V), MatL rom β m ps vs → denL β vs = denL (β ∘ m.ρf) (fillL m.dt (adt β m) ps)
  | [], [], _ => rfl
  | [], _ :: _, h => h.elim
  | _ :: _, [], h => h.elim
  | p :: ps, v :: vs, h => by simp only [denL, fillL]; rw [mat_den p v h.1, matL_den ps vs h.2]
end

theorem matL_len {β : Nat → Nat} {m : M} : ∀ (ps : List Pt) (vs : List V), MatL rom β m ps vs → vs.length = ps.length
  | [], [], _ => rfl
  | [], _ :: _, h => h.elim
  | _ :: _, [], h => h.elim
  | p :: ps, v :: vs, h => by simp [matL_len ps vs h.2]

mutual
theorem mat_rws {β : Nat → Nat} {m : M} : ∀ (pt : Pt) (v : V), Mat rom β m pt v → ∀ r ∈ rws m.dt pt, RowM m r.1 r.2.1 r.2.2.1 r.2.2.2
  | .i k n, v, _, r, hr => by simp [rws] at hr
  | .b n, v, _, r, hr => by simp [rws] at hr
  | .s n, v, _, r, hr => by simp [rws] at hr
  | .c x, v, _, r, hr => by simp [rws] at hr
  | .gi k x, v, _, r, hr => by simp [rws] at hr
  | .gb x, v, _, r, hr => by simp [rws] at hr
  | .gs x, v, _, r, hr => by simp [rws] at hr
  | .p j o, v, _, r, hr => by simp [rws] at hr
  | .k j n, v, _, r, hr => by simp [rws] at hr
  | .x j _ ks, v, _, r, hr => by simp [rws] at hr
  | .gx _ _ _ _ _ _, v, _, r, hr => by simp [rws] at hr
  | .r j ty ks, v, h, r, hr => by
    obtain ⟨xs, h1, h2, _⟩ := h
    simp only [rws, List.mem_singleton] at hr
    subst hr
    rw [dtR_of h1]; exact h2
  | .gr j ty ks xs, v, h, r, hr => by
    simp only [rws, List.mem_singleton] at hr
    subst hr
    exact h.1
  | .f g xs ys, v, h, r, hr => by
    obtain ⟨as, bs, _, h2, h3⟩ := h
    simp only [rws, List.mem_append] at hr
    exact hr.elim (matL_rws xs as h2 r) (matL_rws ys bs h3 r)
  | .a xs, v, h, r, hr => by
    obtain ⟨cs, _, _, h3⟩ := h
    exact matL_rws xs cs h3 r hr
  | .t xs, v, h, r, hr => by
    obtain ⟨cs, _, h3⟩ := h
    exact matL_rws xs cs h3 r hr
theorem matL_rws {β : Nat → Nat} {m : M} : ∀ (ps : List Pt) (vs : List V), MatL rom β m ps vs → ∀ r ∈ rwsL m.dt ps, RowM m r.1 r.2.1 r.2.2.1 r.2.2.2
  | [], _, _, r, hr => by simp [rwsL] at hr
  | _ :: _, [], h, _, _ => h.elim
  | p :: ps, v :: vs, h, r, hr => by
    simp only [rwsL, List.mem_append] at hr
    exact hr.elim (mat_rws p v h.1 r) (matL_rws ps vs h.2 r)
end

mutual
theorem mat_lent {β : Nat → Nat} {m : M} : ∀ (pt : Pt) (v : V), Mat rom β m pt v → ∀ r ∈ lent m.dt pt, ∃ v', LentM rom β m r.1 r.2.1 r.2.2 v'
  | .i k n, v, _, r, hr => by simp [lent] at hr
  | .b n, v, _, r, hr => by simp [lent] at hr
  | .s n, v, _, r, hr => by simp [lent] at hr
  | .c x, v, _, r, hr => by simp [lent] at hr
  | .gi k x, v, _, r, hr => by simp [lent] at hr
  | .gb x, v, _, r, hr => by simp [lent] at hr
  | .gs x, v, _, r, hr => by simp [lent] at hr
  | .p j o, v, _, r, hr => by simp [lent] at hr
  | .k j n, v, _, r, hr => by simp [lent] at hr
  | .r j ty ks, v, _, r, hr => by simp [lent] at hr
  | .gr j ty ks xs, v, _, r, hr => by simp [lent] at hr
  | .gx _ _ _ _ _ _, v, _, r, hr => by simp [lent] at hr
  | .x j _ ks, v, h, r, hr => by
    obtain ⟨xs, h1, h2⟩ := h
    simp only [lent, List.mem_singleton] at hr
    subst hr
    rw [dtR_of h1]; exact ⟨v, h2⟩
  | .f g xs ys, v, h, r, hr => by
    obtain ⟨as, bs, _, h2, h3⟩ := h
    simp only [lent, List.mem_append] at hr
    exact hr.elim (matL_lent xs as h2 r) (matL_lent ys bs h3 r)
  | .a xs, v, h, r, hr => by
    obtain ⟨cs, _, _, h3⟩ := h
    exact matL_lent xs cs h3 r hr
  | .t xs, v, h, r, hr => by
    obtain ⟨cs, _, h3⟩ := h
    exact matL_lent xs cs h3 r hr
theorem matL_lent {β : Nat → Nat} {m : M} : ∀ (ps : List Pt) (vs : List V), MatL rom β m ps vs → ∀ r ∈ lentL m.dt ps, ∃ v', LentM rom β m r.1 r.2.1 r.2.2 v'
  | [], _, _, r, hr => by simp [lentL] at hr
  | _ :: _, [], h, _, _ => h.elim
  | p :: ps, v :: vs, h, r, hr => by
    simp only [lentL, List.mem_append] at hr
    exact hr.elim (mat_lent p v h.1 r) (matL_lent ps vs h.2 r)
end

/-- A block fits: as long as it is known whole. -/
def BlockM (rom : RomP) (β : Nat → Nat) (m : M) (x : Nat × TypeId × List Pt) : Prop :=
  ∃ j' b, find m.ρ x.1 = some j' ∧ (lookB m.h j' = some b ∨ ∃ b', lookB m.h j' = some b' ∧ isOpen b'.k) ∧ b.k = .exact ∧ b.ty = x.2.1 ∧ MatL rom β m x.2.2 b.cs ∧ ∀ i, i ∈ refsL b.cs → has m.h i

theorem BlockM.ext {β β' : Nat → Nat} {m m' : M} (he : Ext β m β' m') {x : Nat × TypeId × List Pt} (h : BlockM rom β m x) : BlockM rom β' m' x := by
  obtain ⟨j', b, h1, h2, h3, h4, h5, h6⟩ := h
  refine ⟨j', b, he.ρ _ _ h1, ?_, h3, h4, matL_ext he _ _ h6 h5, fun i hi => he.h i (h6 i hi)⟩
  rcases h2 with h2 | ⟨b', h2, h7⟩
  · exact he.ot _ _ h2
  · exact .inr ⟨b', he.op _ _ h2 h7, h7⟩

theorem mtH_ok {w : World} : ∀ (bl : Bls) (m m' : M) (β : Nat → Nat), mtH rom bl m = some m' → MI F w0 β m w → (m'.p → m.p) ∧ (m'.p → ∃ β', MI F w0 β' m' w ∧ Ext β m β' m' ∧ ∀ x ∈ bl, BlockM rom β' m' x)
  | [], m, m', β, h, hi => by
    simp only [mtH, Option.some.injEq] at h
    subst h
    exact ⟨fun h => h, fun _ => ⟨β, hi, Ext.refl β m, by simp⟩⟩
  | (j, ty, ps) :: l, m, m', β, h, hi => by
    simp only [mtH, Option.bind_eq_some_iff] at h
    obtain ⟨j', h1, b, h2, h⟩ := h
    split at h
    · rename_i hk
      obtain ⟨hty, h'⟩ := bif_some' h
      simp only [Option.bind_eq_some_iff] at h'
      obtain ⟨m1, h3, h4⟩ := h'
      have hq : ∀ β1, MI F w0 β1 m1 w → m'.p → m1.p := fun β1 hi1 => (mtH_ok l m1 m' β1 h4 hi1).1
      have hrefs : ∀ i, i ∈ refsL b.cs → has m.h i := fun i hi' => hi.hr.wf j' b h2 i (.inl hi')
      have p1 : m1.p → m.p := mtL_p _ _ _ _ h3
      have main : m1.p → ∃ β1, MI F w0 β1 m1 w ∧ Ext β m β1 m1 ∧ BlockM rom β1 m1 (j, ty, ps) := fun hp1 => by
        obtain ⟨β1, a1, a2, a3⟩ := mtL_ok ps b.cs m m1 β h3 hi hrefs hp1
        exact ⟨β1, a1, a2, j', b, a2.ρ _ _ h1, a2.ot _ _ h2, hk, Nat.eq_of_beq_eq_true hty, a3, fun i hi' => a2.h i (hrefs i hi')⟩
      have pp : ∀ (l : Bls) (m1 m' : M), mtH rom l m1 = some m' → m'.p → m1.p := by
        intro l
        induction l with
        | nil => intro m1 m' h; simp only [mtH, Option.some.injEq] at h; subst h; exact fun h => h
        | cons x l ih =>
          obtain ⟨j, ty, ps⟩ := x
          intro m1 m' h
          simp only [mtH, Option.bind_eq_some_iff] at h
          obtain ⟨j', h1, b, h2, h⟩ := h
          split at h
          · have h' := (bif_some' h).2
            simp only [Option.bind_eq_some_iff] at h'
            obtain ⟨m2, h3, h4⟩ := h'
            exact fun hp => mtL_p _ _ _ _ h3 (ih m2 m' h4 hp)
          · cases h
      refine ⟨fun hp => p1 (pp l m1 m' h4 hp), fun hp => ?_⟩
      obtain ⟨β1, a1, a2, a3⟩ := main (pp l m1 m' h4 hp)
      obtain ⟨β2, b1, b2, b3⟩ := (mtH_ok l m1 m' β1 h4 a1).2 hp
      refine ⟨β2, b1, a2.trans b2, fun x hx => ?_⟩
      rcases List.mem_cons.1 hx with rfl | hx
      · exact a3.ext b2
      · exact b3 x hx
    · cases h

/-- A view fits. -/
structure Fit (rom : RomP) (F : Nat → Prop) (w0 : World) (ps : List Pt) (bl : Bls) (vs : List V) (w : World) (β : Nat → Nat) (m : M) : Prop where
  mi : MI F w0 β m w
  num : ∀ r ∈ rwsL m.dt (allP ps bl), ∀ i, i = r.1 + 1 ∨ i = r.1 + 2 ∨ i = r.1 + 3 → ∀ j b, find m.ρ i = some j → lookB m.h j = some b → b.k = .num
  ps : MatL rom β m ps vs
  bl : ∀ x ∈ bl, ∃ j' b, find m.ρ x.1 = some j' ∧ lookB m.h j' = some b ∧ b.k = .exact ∧ b.ty = x.2.1 ∧ MatL rom β m x.2.2 b.cs ∧ ∀ i, i ∈ refsL b.cs → has m.h i
  nodup : nodupB (m.ρ.map (·.2)) = true
  lent : ∀ x ∈ m.L, ∀ j ∈ refs x.2, ∀ i, find m.ρ i ≠ some j

theorem view_ok {ps : List Pt} {bl : Bls} {vs : List V} {h : Hp} {nx : Nat} {ρ : List (Nat × Nat)} {m : M} (hv : view rom ps bl vs h nx ρ = some m) (hp : m.p) {β : Nat → Nat} {w : World} (H : HR F w0 β h w) (hf : ∀ j, has h j → j < nx) (hvs : ∀ j, j ∈ refsL vs → has h j) :
    ∃ β', Fit rom F w0 ps bl vs w β' m ∧ Ext β (M.start h nx ρ) β' m := by
  unfold view at hv
  simp only [Option.bind_eq_some_iff] at hv
  obtain ⟨m1, h1, m2, h2, hv⟩ := hv
  obtain ⟨hok, hv⟩ := bif_some' hv
  simp only [Option.some.injEq] at hv
  subst hv
  have hi : MI F w0 β (M.start h nx ρ) w := ⟨H, hf⟩
  have hp1 : m1.p := by
    have : ∀ (l : Bls) (m1 m' : M), mtH rom l m1 = some m' → m'.p → m1.p := by
      intro l
      induction l with
      | nil => intro m1 m' h; simp only [mtH, Option.some.injEq] at h; subst h; exact fun h => h
      | cons x l ih =>
        obtain ⟨j, ty, ps⟩ := x
        intro m1 m' h
        simp only [mtH, Option.bind_eq_some_iff] at h
        obtain ⟨j', h1, b, h2, h⟩ := h
        split at h
        · have h' := (bif_some' h).2
          simp only [Option.bind_eq_some_iff] at h'
          obtain ⟨m2, h3, h4⟩ := h'
          exact fun hp => mtL_p _ _ _ _ h3 (ih m2 m' h4 hp)
        · cases h
    exact this bl m1 m2 h2 hp
  obtain ⟨β1, a1, a2, a3⟩ := mtL_ok ps vs _ m1 β h1 hi hvs hp1
  obtain ⟨β2, b1, b2, b3⟩ := (mtH_ok bl m1 m2 β1 h2 a1).2 hp
  simp only [okM, Bool.and_eq_true] at hok
  obtain ⟨⟨⟨o0, o1⟩, o2⟩, o3⟩ := hok
  refine ⟨β2, ⟨b1, fun r hr i hi' j b hj hb => ?_, matL_ext b2 ps vs (fun j hj => a2.h j (hvs j hj)) a3, fun x hx => ?_, o1, fun x hx j hj i hi' => ?_⟩, a2.trans b2⟩
  · have := List.all_eq_true.1 o0 r hr
    simp only [Bool.and_eq_true] at this
    have key : ∀ i, numAt m2 i = true → ∀ j b, find m2.ρ i = some j → lookB m2.h j = some b → b.k = .num := fun i hi' j b hj hb => by
      unfold numAt isNum at hi'
      rw [hj] at hi'
      dsimp only at hi'
      rw [hb] at hi'
      dsimp only at hi'
      cases hk : b.k with
      | num => rfl
      | _ => rw [hk] at hi'; cases hi'
    rcases hi' with rfl | rfl | rfl
    · exact key _ this.1.1 j b hj hb
    · exact key _ this.1.2 j b hj hb
    · exact key _ this.2 j b hj hb
  · obtain ⟨j', b, c1, c2, c3, c4, c5, c6⟩ := b3 x hx
    refine ⟨j', b, c1, ?_, c3, c4, c5, c6⟩
    have := List.all_eq_true.1 o2 x hx
    rw [c1] at this
    dsimp only at this
    rcases c2 with c2 | ⟨b', c2, c7⟩
    · exact c2
    · unfold isEx at this
      rw [c2] at this
      dsimp only at this
      cases hk : b'.k with
      | exact => rw [hk] at c7; exact c7.elim
      | _ => rw [hk] at this; cases this
  · have := List.all_eq_true.1 (List.all_eq_true.1 o3 x hx) j hj
    rw [any_beq (List.mem_map.2 ⟨_, find_mem hi', rfl⟩)] at this
    cases this

theorem Fit.inj {ps : List Pt} {bl : Bls} {vs : List V} {w : World} {β : Nat → Nat} {m : M} (h : Fit rom F w0 ps bl vs w β m) {i j x : Nat} (hi : find m.ρ i = some x) (hj : find m.ρ j = some x) : i = j :=
  nodupB_inj h.nodup (find_mem hi) (find_mem hj)

theorem Fit.rows {ps : List Pt} {bl : Bls} {vs : List V} {w : World} {β : Nat → Nat} {m : M} (h : Fit rom F w0 ps bl vs w β m) : ∀ r ∈ rwsL m.dt (allP ps bl), RowM m r.1 r.2.1 r.2.2.1 r.2.2.2 := by
  have app : ∀ (a b : List Pt) σ, rwsL σ (a ++ b) = rwsL σ a ++ rwsL σ b := by
    intro a b σ
    induction a with
    | nil => rfl
    | cons x a ih => simp only [List.cons_append, rwsL, ih, List.append_assoc]
  intro r hr
  unfold allP at hr
  rw [app, List.mem_append] at hr
  rcases hr with hr | hr
  · exact matL_rws ps vs h.ps r hr
  · have : ∀ l : Bls, (∀ x ∈ l, x ∈ bl) → r ∈ rwsL m.dt (l.flatMap fun x => x.2.2) → RowM m r.1 r.2.1 r.2.2.1 r.2.2.2 := by
      intro l
      induction l with
      | nil => intro _ hr; simp [rwsL] at hr
      | cons x l ih =>
        intro hl hr
        rw [List.flatMap_cons, app, List.mem_append] at hr
        rcases hr with hr | hr
        · obtain ⟨j', b, _, _, _, _, c5, _⟩ := h.bl x (hl x (by simp))
          exact matL_rws _ _ c5 r hr
        · exact ih (fun y hy => hl y (by simp [hy])) hr
    exact this bl (fun _ h => h) hr

theorem Fit.lents {ps : List Pt} {bl : Bls} {vs : List V} {w : World} {β : Nat → Nat} {m : M} (h : Fit rom F w0 ps bl vs w β m) : ∀ r ∈ lentL m.dt (allP ps bl), ∃ v', LentM rom β m r.1 r.2.1 r.2.2 v' := by
  have app : ∀ (a b : List Pt) σ, lentL σ (a ++ b) = lentL σ a ++ lentL σ b := by
    intro a b σ
    induction a with
    | nil => rfl
    | cons x a ih => simp only [List.cons_append, lentL, ih, List.append_assoc]
  intro r hr
  unfold allP at hr
  rw [app, List.mem_append] at hr
  rcases hr with hr | hr
  · exact matL_lent ps vs h.ps r hr
  · have : ∀ l : Bls, (∀ x ∈ l, x ∈ bl) → r ∈ lentL m.dt (l.flatMap fun x => x.2.2) → ∃ v', LentM rom β m r.1 r.2.1 r.2.2 v' := by
      intro l
      induction l with
      | nil => intro _ hr; simp [lentL] at hr
      | cons x l ih =>
        intro hl hr
        rw [List.flatMap_cons, app, List.mem_append] at hr
        rcases hr with hr | hr
        · obtain ⟨j', b, _, _, _, _, c5, _⟩ := h.bl x (hl x (by simp))
          exact matL_lent _ _ c5 r hr
        · exact ih (fun y hy => hl y (by simp [hy])) hr
    exact this bl (fun _ h => h) hr

theorem fillL_append (σ : Dt) (α : At') (a b : List Pt) : fillL σ α (a ++ b) = fillL σ α a ++ fillL σ α b := by
  induction a with
  | nil => rfl
  | cons x a ih => simp only [List.cons_append, fillL, ih]

theorem refs_fill_all {σ : Dt} {α : At'} {ps : List Pt} {bl : Bls} : (∀ j, j ∈ refsL (fillL σ α ps) → j ∈ refsL (fillL σ α (allP ps bl))) ∧ ∀ x ∈ bl, ∀ j, j ∈ refsL (fillL σ α x.2.2) → j ∈ refsL (fillL σ α (allP ps bl)) := by
  unfold allP
  rw [fillL_append, refsL_append]
  refine ⟨fun j hj => List.mem_append_left _ hj, fun x hx j hj => List.mem_append_right _ ?_⟩
  have : ∀ l : Bls, x ∈ l → j ∈ refsL (fillL σ α (l.flatMap fun x => x.2.2)) := by
    intro l
    induction l with
    | nil => intro h; cases h
    | cons y l ih =>
      intro h
      rw [List.flatMap_cons, fillL_append, refsL_append, List.mem_append]
      rcases List.mem_cons.1 h with rfl | h
      · exact .inl hj
      · exact .inr (ih h)
  exact this bl hx

/-- What lies in a view's memory. -/
theorem view_mem {σ : Dt} {α : At'} {ps : List Pt} {bl : Bls} {j : Nat} {b : Blk} (h : (j, b) ∈ viewH σ α ps bl) :
    (∃ x ∈ bl, j = x.1 ∧ b = ⟨x.2.1, fillL σ α x.2.2, .exact⟩) ∨ ∃ r ∈ rwsL σ (allP ps bl), (j = r.1 ∧ b = ⟨r.2.1, [], .open_ (r.1 + 1) (r.1 + 2) (r.1 + 3) r.2.2.1 r.2.2.2⟩) ∨ ((j = r.1 + 1 ∨ j = r.1 + 2 ∨ j = r.1 + 3) ∧ b = ⟨r.2.1, [], .num⟩) := by
  unfold viewH at h
  rw [List.mem_append] at h
  rcases h with h | h
  · obtain ⟨x, hx, e⟩ := List.mem_map.1 h
    injection e with e1 e2
    exact .inl ⟨x, hx, e1.symm, e2.symm⟩
  · obtain ⟨r, hr, h⟩ := List.mem_flatMap.1 h
    refine .inr ⟨r, hr, ?_⟩
    simp only [laidO, List.mem_cons, Prod.mk.injEq, List.not_mem_nil, or_false] at h
    rcases h with ⟨h1, h2⟩ | ⟨h1, h2⟩ | ⟨h1, h2⟩ | ⟨h1, h2⟩
    · exact .inl ⟨h1, h2⟩
    · exact .inr ⟨.inl h1, h2⟩
    · exact .inr ⟨.inr (.inl h1), h2⟩
    · exact .inr ⟨.inr (.inr h1), h2⟩

theorem view_has {σ : Dt} {α : At'} {ps : List Pt} {bl : Bls} {r : Nat × TypeId × List PK × List (List Value)} (h : r ∈ rwsL σ (allP ps bl)) {j : Nat} (hj : j = r.1 ∨ j = r.1 + 1 ∨ j = r.1 + 2 ∨ j = r.1 + 3) : has (viewH σ α ps bl) j := by
  rw [has_iff]
  unfold viewH keysOf
  rw [List.map_append, List.mem_append, List.map_flatMap]
  refine .inr (List.mem_flatMap.2 ⟨r, h, ?_⟩)
  simp [laidO]
  exact hj

theorem viewWf_ok {σ : Dt} {α : At'} {ps : List Pt} {bl : Bls} (h : viewWf σ α ps bl = true) : nodupB (keysOf (viewH σ α ps bl)) = true ∧ ∀ j, j ∈ refsL (fillL σ α (allP ps bl)) → has (viewH σ α ps bl) j := by
  simp only [viewWf, Bool.and_eq_true] at h
  exact ⟨h.1, fun j hj => (has_any _ _).1 (List.all_eq_true.1 h.2 j hj)⟩

/-- The memory of a view that fits, under the view's own keys. -/
theorem Fit.hr {ps : List Pt} {bl : Bls} {vs : List V} {w : World} {β : Nat → Nat} {m : M} (h : Fit rom F w0 ps bl vs w β m) (hwf : viewWf m.dt (adt β m) ps bl = true) :
    HR F w0 (β ∘ m.ρf) (viewH m.dt (adt β m) ps bl) w := by
  have H := h.mi.hr
  obtain ⟨_, hcl⟩ := viewWf_ok hwf
  -- each live block of the view is a block of the memory
  have key : ∀ (j : Nat) (b : Blk), lookB (viewH m.dt (adt β m) ps bl) j = some b → b.k.live = true → ∃ j' b', find m.ρ j = some j' ∧ lookB m.h j' = some b' ∧ Here (β ∘ m.ρf) b w (β j') ∧ (b.k.on (β ∘ m.ρf) → b'.k.on β) := by
    intro j b hj hl
    rcases view_mem (lookB_mem hj) with ⟨x, hx, rfl, rfl⟩ | ⟨r, hr, ⟨rfl, rfl⟩ | ⟨_, rfl⟩⟩
    · obtain ⟨j', b', c1, c2, c3, c4, c5, _⟩ := h.bl x hx
      refine ⟨j', b', c1, c2, ?_, fun _ => by rw [c3]; trivial⟩
      have hb := H.blk j' b' c2 (by rw [c3]; rfl)
      unfold Here at hb ⊢
      rw [c3] at hb
      obtain ⟨junk, h1, h2⟩ := hb
      refine ⟨junk, ?_, ?_⟩
      · rw [← matL_den _ _ c5, ← c4]; exact h1
      · unfold Room at h2 ⊢; rw [c3] at h2; exact h2
    · obtain ⟨j', a', o', c', b', h1, h2, h3, h4, h5, h6, h7⟩ := h.rows r hr
      refine ⟨j', b', h1, h5, ?_, fun hon => ?_⟩
      · have := H.open_ h5 h7
        show HereO w (β j') r.2.1 ((β ∘ m.ρf) (r.1 + 1)) ((β ∘ m.ρf) (r.1 + 2)) ((β ∘ m.ρf) (r.1 + 3)) _ _
        simp only [Function.comp_apply, ρf_of h2, ρf_of h3, ρf_of h4]
        rw [← h6]; exact this
      · rw [h7]
        simp only [Kd.on, Function.comp_apply, ρf_of h2] at hon
        exact hon
    · cases hl
  refine ⟨H.os, H.tape, H.output, H.size, H.keep, fun j b hj hl => ?_, fun j b hj hl => ?_, fun i j b b' hi hj l1 l2 e => ?_, fun j b hj i hi => ?_⟩
  · obtain ⟨j', b', h1, _, h3, _⟩ := key j b hj hl
    simp only [Function.comp_apply, ρf_of h1]; exact h3
  · obtain ⟨j', b', h1, h2, _, h4⟩ := key j b hj (Kd.live_of_on hl)
    simp only [Function.comp_apply, ρf_of h1]
    exact H.own j' b' h2 (h4 hl)
  · obtain ⟨i', c, h1, h2, _, h4⟩ := key i b hi (Kd.live_of_on l1)
    obtain ⟨j', c', g1, g2, _, g4⟩ := key j b' hj (Kd.live_of_on l2)
    simp only [Function.comp_apply, ρf_of h1, ρf_of g1] at e
    have := H.inj i' j' c c' h2 g2 (h4 l1) (g4 l2) e
    subst this
    exact h.inj h1 g1
  · rcases view_mem (lookB_mem hj) with ⟨x, hx, rfl, rfl⟩ | ⟨r, hr, ⟨rfl, rfl⟩ | ⟨_, rfl⟩⟩
    · rcases hi with hi | hi
      · exact hcl i (refs_fill_all.2 x hx i hi)
      · simp [Kd.refs] at hi
    · rcases hi with hi | hi
      · simp [refsL] at hi
      · simp only [Kd.refs, List.mem_cons, List.not_mem_nil, or_false] at hi
        exact view_has hr (.inr hi)
    · rcases hi with hi | hi
      · simp [refsL] at hi
      · simp [Kd.refs] at hi

theorem Fit.romOk {ps : List Pt} {bl : Bls} {vs : List V} {w : World} {β : Nat → Nat} {m : M} (h : Fit rom F w0 ps bl vs w β m) (hrom : RomOk rom F w0) :
    RomOk (romOf m.dt (adt β m) ps bl) (Handed (β ∘ m.ρf) (viewH m.dt (adt β m) ps bl)) w := by
  have H := h.mi.hr
  -- a handed block is a block of the memory under a key of the view
  have handed : ∀ g, Handed (β ∘ m.ρf) (viewH m.dt (adt β m) ps bl) g → ∃ i j' b', find m.ρ i = some j' ∧ lookB m.h j' = some b' ∧ b'.k.on β ∧ g = β j' := by
    rintro g ⟨j, b, hj, hon, rfl⟩
    rcases view_mem (lookB_mem hj) with ⟨z, hz, rfl, rfl⟩ | ⟨r, hr, ⟨rfl, rfl⟩ | ⟨_, rfl⟩⟩
    · obtain ⟨j', b', c1, c2, c3, _⟩ := h.bl z hz
      exact ⟨_, j', b', c1, c2, by rw [c3]; trivial, by simp only [Function.comp_apply, ρf_of c1]⟩
    · obtain ⟨j', a', o', c', b', g1, g2, _, _, g5, _, g7⟩ := h.rows r hr
      refine ⟨_, j', b', g1, g5, ?_, by simp only [Function.comp_apply, ρf_of g1]⟩
      rw [g7]
      simp only [Kd.on, Function.comp_apply, ρf_of g2] at hon
      exact hon
    · exact hon.elim
  refine ⟨?_, hrom.glw H, fun q hq hh => ?_⟩
  rotate_left
  · obtain ⟨i, j', b', _, g2, g3, g4⟩ := handed _ hh
    rcases H.own j' b' g2 g3 with h5 | h5
    · exact hrom.glF q hq (g4 ▸ h5)
    · have := (hrom.gls q hq).1
      omega
  rintro nn ad ks xs ⟨x, hx, rfl, rfl, rfl, rfl⟩
  obtain ⟨v', y, h1, _, h3, h4⟩ := h.lents x hx
  rcases h4 with ⟨nn, ad, cap, rfl, h4⟩ | ⟨j', a', o', c', b, rfl, h5, h6⟩
  · have e1 : (adt β m).nn x.1 = nn := by simp only [adt, h1]
    have e2 : (adt β m).ad x.1 = ad := by simp only [adt, h1]
    rw [e1, e2]
    obtain ⟨a1, a2, a3, a4⟩ := hrom.rows nn ad _ _ h4
    refine ⟨a1, a2, a3, fun hn => ?_⟩
    obtain ⟨b1, b2, b3⟩ := a4 hn
    refine ⟨Nat.lt_of_lt_of_le b1 H.size, fun hh => ?_, fun i u hu => hrom.cell H h4 hu⟩
    obtain ⟨i, j', b', _, g2, g3, g4⟩ := handed _ hh
    rcases H.own j' b' g2 g3 with h5 | h5
    · exact b2 (g4 ▸ h5)
    · omega
  · have e1 : (adt β m).nn x.1 = nz (β a') := by simp only [adt, h1]
    have e2 : (adt β m).ad x.1 = ⟨β j', β o', none⟩ := by simp only [adt, h1]
    rw [e1, e2]
    have hh := H.open_ h5 h6
    refine ⟨hh.1, hh.2.1, fun hn => ?_, fun hn => ?_⟩
    · obtain ⟨_, _, ⟨_, h7, _⟩ | ⟨h7, _⟩⟩ := hh
      · exact h7
      · exfalso; cases hv : β a' with
        | zero => exact h7 hv
        | succ n => rw [hv] at hn; cases hn
    · have hon : b.k.on β := by
        rw [h6]; intro e
        rw [e] at hn; cases hn
      refine ⟨H.lt h5 hon, fun hg => ?_, fun i u hu => ?_⟩
      · obtain ⟨i, j2, b2, g1, g2, g3, g4⟩ := handed _ hg
        have : j' = j2 := H.inj j' j2 b b2 h5 g2 hon g3 g4
        subst this
        exact h.lent _ (find_mem h1) j' (by simp [refs]) i g1
      · rw [Addr.add_lit]; exact (hh.cell hu).2
end
end Go.Proofs.YtfjldllegmfooaaDoor.X
end

section
/- Memory under other keys, and laid back where it came from. No condition. -/
namespace Go.Proofs.YtfjldllegmfooaaDoor.X
open Go.RowKit

section
variable {P : Program} {F : Nat → Prop} {w0 : World} {rom : RomP}

mutual
theorem den_ren (β ρ : Nat → Nat) : ∀ v, den β (renV ρ v) = den (β ∘ ρ) v
  | .c _ => rfl
  | .v _ => rfl
  | .p _ _ => rfl
  | .sl _ _ _ _ => rfl
  | .s _ _ _ => rfl
  | .m _ => rfl
  | .r _ _ _ _ _ => rfl
  | .q _ _ _ _ _ => rfl
  | .w _ _ _ _ _ _ => rfl
  | .y _ _ _ _ _ _ => rfl
  | .z _ _ _ _ _ _ => rfl
  | .u => rfl
  | .i t x => by simp only [renV, den, den_ren β ρ x]
  | .f g xs ys => by simp only [renV, den, denL_ren β ρ xs, denL_ren β ρ ys]
  | .a xs => by simp only [renV, den, denL_ren β ρ xs]
  | .t xs => by simp only [renV, den, denL_ren β ρ xs]
theorem denL_ren (β ρ : Nat → Nat) : ∀ xs, denL β (renVL ρ xs) = denL (β ∘ ρ) xs
  | [] => rfl
  | x :: xs => by simp only [renVL, denL, den_ren β ρ x, denL_ren β ρ xs]
end

mutual
theorem refs_ren (ρ : Nat → Nat) : ∀ v, refs (renV ρ v) = (refs v).map ρ
  | .c _ => rfl
  | .v _ => rfl
  | .p _ _ => rfl
  | .sl _ _ _ _ => rfl
  | .s _ _ _ => rfl
  | .m _ => rfl
  | .r _ _ _ _ _ => rfl
  | .q _ _ _ _ _ => rfl
  | .w _ _ _ _ _ _ => rfl
  | .y _ _ _ _ _ _ => rfl
  | .z _ _ _ _ _ _ => rfl
  | .u => rfl
  | .i t x => by simp only [renV, refs, refs_ren ρ x]
  | .f g xs ys => by simp only [renV, refs, refsL_ren ρ xs, refsL_ren ρ ys, List.map_append]
  | .a xs => by simp only [renV, refs, refsL_ren ρ xs]
  | .t xs => by simp only [renV, refs, refsL_ren ρ xs]
theorem refsL_ren (ρ : Nat → Nat) : ∀ xs, refsL (renVL ρ xs) = (refsL xs).map ρ
  | [] => rfl
  | x :: xs => by simp only [renVL, refsL, refs_ren ρ x, refsL_ren ρ xs, List.map_append]
end

theorem refsK_ren (ρ : Nat → Nat) (k : Kd) : (renK ρ k).refs = k.refs.map ρ := by cases k <;> rfl
theorem renK_live (ρ : Nat → Nat) (k : Kd) : (renK ρ k).live = k.live := by cases k <;> rfl
theorem renK_on (ρ β : Nat → Nat) (k : Kd) : (renK ρ k).on β ↔ k.on (β ∘ ρ) := by cases k <;> exact Iff.rfl

theorem here_ren {β ρ : Nat → Nat} {b : Blk} {w : World} {g : Nat} : Here β (renB ρ b) w g ↔ Here (β ∘ ρ) b w g := by
  obtain ⟨ty, cs, k⟩ := b
  unfold Here renB
  cases k <;> simp only [renK, denL_ren, Room, Function.comp_apply]

theorem look_ren {ρ : Nat → Nat} : ∀ {h : Hp} {j : Nat} {b : Blk}, lookB (renH ρ h) j = some b → ∃ i b', j = ρ i ∧ b = renB ρ b' ∧ (i, b') ∈ h
  | [], j, b, h => by simp [renH, lookB] at h
  | (i, b') :: l, j, b, h => by
    simp only [renH, List.map_cons] at h
    rw [lookB_cons] at h
    by_cases e : j = ρ i
    · rw [if_pos e] at h; simp only [Option.some.injEq] at h
      exact ⟨i, b', e, h.symm, List.mem_cons_self⟩
    · rw [if_neg e] at h
      obtain ⟨i2, b2, h1, h2, h3⟩ := look_ren h
      exact ⟨i2, b2, h1, h2, List.mem_cons_of_mem _ h3⟩
theorem look_ren_of {ρ : Nat → Nat} : ∀ {h : Hp} {i : Nat} {b : Blk}, lookB h i = some b → (∀ k, has h k → ρ k = ρ i → k = i) → lookB (renH ρ h) (ρ i) = some (renB ρ b)
  | [], i, b, h, _ => by simp [lookB] at h
  | (k, b') :: l, i, b, h, hinj => by
    rw [lookB_cons] at h
    simp only [renH, List.map_cons]
    rw [lookB_cons]
    by_cases e : i = k
    · subst e; rw [if_pos rfl] at h ⊢; simp only [Option.some.injEq] at h; rw [h]
    · rw [if_neg e] at h
      rw [if_neg (fun e2 => e (hinj k ((has_cons _ _ _ _).2 (.inl rfl)) e2.symm).symm)]
      exact look_ren_of h fun k hk => hinj k ((has_cons _ _ _ _).2 (.inr hk))
theorem has_ren {ρ : Nat → Nat} (h : Hp) (j : Nat) : has (renH ρ h) j ↔ ∃ i, has h i ∧ j = ρ i := by
  rw [has_iff]
  simp only [keysOf, renH, List.map_map, List.mem_map]
  constructor
  · rintro ⟨x, hx, rfl⟩; exact ⟨x.1, (has_iff _ _).2 (List.mem_map.2 ⟨x, hx, rfl⟩), rfl⟩
  · rintro ⟨i, hi, rfl⟩
    obtain ⟨x, hx, rfl⟩ := List.mem_map.1 ((has_iff _ _).1 hi)
    exact ⟨x, hx, rfl⟩

/-- Memory under other keys. -/
theorem HR.ren {β β2 ρ : Nat → Nat} {h : Hp} {w : World} (H : HR F w0 β h w) (hinj : ∀ i k, has h i → has h k → ρ i = ρ k → i = k) (hβ : ∀ i, has h i → β2 (ρ i) = β i) : HR F w0 β2 (renH ρ h) w := by
  have hlook : ∀ j b, lookB (renH ρ h) j = some b → ∃ i b', j = ρ i ∧ b = renB ρ b' ∧ lookB h i = some b' := by
    intro j b hj
    obtain ⟨i, b1, e1, e2, hm⟩ := look_ren hj
    have hi : has h i := (has_iff _ _).2 (List.mem_map.2 ⟨_, hm, rfl⟩)
    obtain ⟨b2, hb2⟩ := hi
    have := look_ren_of (ρ := ρ) hb2 fun k hk e => hinj k i hk ⟨b2, hb2⟩ e
    rw [← e1, hj] at this
    simp only [Option.some.injEq] at this
    exact ⟨i, b2, e1, this, hb2⟩
  have hon : ∀ i b, lookB h i = some b → ((renB ρ b).k.on β2 ↔ b.k.on β) := fun i b hi => by
    show (renK ρ b.k).on β2 ↔ _
    rw [renK_on]
    exact Kd.on_congr fun l hl => hβ l (H.wf i b hi l (.inr hl))
  refine ⟨H.os, H.tape, H.output, H.size, H.keep, fun j b hj hl => ?_, fun j b hj hl => ?_, fun i j b b' hi hj l1 l2 e => ?_, fun j b hj l hl => ?_⟩
  · obtain ⟨i, b', rfl, rfl, hi⟩ := hlook j b hj
    rw [hβ i ⟨b', hi⟩, here_ren]
    exact H.here_same hi (by rw [← renK_live ρ]; exact hl) (fun _ => ⟨rfl, rfl⟩) fun l hl' => hβ l (H.wf i b' hi l hl')
  · obtain ⟨i, b', rfl, rfl, hi⟩ := hlook j b hj
    rw [hβ i ⟨b', hi⟩]
    exact H.own i b' hi ((hon i b' hi).1 hl)
  · obtain ⟨i', c, rfl, rfl, hi'⟩ := hlook i b hi
    obtain ⟨j', c', rfl, rfl, hj'⟩ := hlook j b' hj
    rw [hβ i' ⟨c, hi'⟩, hβ j' ⟨c', hj'⟩] at e
    rw [H.inj i' j' c c' hi' hj' ((hon i' c hi').1 l1) ((hon j' c' hj').1 l2) e]
  · obtain ⟨i, b', rfl, rfl, hi⟩ := hlook j b hj
    rw [has_ren]
    rcases hl with hl | hl
    · rw [show (renB ρ b').cs = renVL ρ b'.cs from rfl, refsL_ren] at hl
      obtain ⟨l', h1, rfl⟩ := List.mem_map.1 hl
      exact ⟨l', H.wf i b' hi l' (.inl h1), rfl⟩
    · rw [show (renB ρ b').k = renK ρ b'.k from rfl, refsK_ren] at hl
      obtain ⟨l', h1, rfl⟩ := List.mem_map.1 hl
      exact ⟨l', H.wf i b' hi l' (.inr h1), rfl⟩

/-- Blocks that say the same. -/
def SameB (β : Nat → Nat) (b b' : Blk) : Prop := b.ty = b'.ty ∧ b.k = b'.k ∧ (isOpen b.k ∨ denL β b.cs = denL β b'.cs)

theorem here_sameB {β : Nat → Nat} {b b' : Blk} (h : SameB β b b') {w : World} {g : Nat} : Here β b w g ↔ Here β b' w g := by
  obtain ⟨ty, cs, k⟩ := b
  obtain ⟨ty', cs', k'⟩ := b'
  obtain ⟨rfl, rfl, h3⟩ := h
  dsimp only at h3
  rcases h3 with h3 | h3
  · cases k <;> first | exact h3.elim | exact Iff.rfl
  have hroom : ∀ junk, Room β ⟨ty, cs, k⟩ junk ↔ Room β ⟨ty, cs', k⟩ junk := fun junk => by
    unfold Room
    cases k <;> simp only [h3]
  unfold Here
  cases k <;> simp only [h3, hroom]

/-- Memory whose blocks say the same. -/
theorem HR.congrB {β : Nat → Nat} {h h' : Hp} {w : World} (H : HR F w0 β h w) (hs : ∀ j b', lookB h' j = some b' → b'.k.live = true → ∃ b, lookB h j = some b ∧ SameB β b b')
    (hw : ∀ (j : Nat) (b : Blk), lookB h' j = some b → ∀ i, i ∈ refsL b.cs ∨ i ∈ b.k.refs → has h' i) : HR F w0 β h' w := by
  refine ⟨H.os, H.tape, H.output, H.size, H.keep, fun j b hj hl => ?_, fun j b hj hl => ?_, fun i j b b' hi hj l1 l2 e => ?_, hw⟩
  · obtain ⟨b0, h1, h2⟩ := hs j b hj hl
    exact (here_sameB h2).1 (H.blk j b0 h1 (by rw [h2.2.1]; exact hl))
  · obtain ⟨b0, h1, h2⟩ := hs j b hj (Kd.live_of_on hl)
    exact H.own j b0 h1 (by rw [h2.2.1]; exact hl)
  · obtain ⟨b0, h1, h2⟩ := hs i b hi (Kd.live_of_on l1)
    obtain ⟨b1, g1, g2⟩ := hs j b' hj (Kd.live_of_on l2)
    exact H.inj i j b0 b1 h1 g1 (by rw [h2.2.1]; exact l1) (by rw [g2.2.1]; exact l2) e
end
end Go.Proofs.YtfjldllegmfooaaDoor.X
end

section
/- What comes out of a contract, in the memory at hand. No condition. -/
namespace Go.Proofs.YtfjldllegmfooaaDoor.X
open Go.RowKit

mutual
/-- No holes. -/
def ground : Pt → Bool
  | .c _ => true
  | .gi _ _ => true
  | .gb _ => true
  | .gs _ => true
  | .p _ _ => true
  | .gr _ _ _ _ => true
  | .k _ _ => true
  | .gx _ _ _ _ _ _ => true
  | .f _ xs ys => groundL xs && groundL ys
  | .a xs => groundL xs
  | .t xs => groundL xs
  | .i _ _ => false
  | .b _ => false
  | .s _ => false
  | .r _ _ _ => false
  | .x _ _ _ => false
termination_by structural x => x
def groundL : List Pt → Bool
  | [] => true
  | x :: xs => ground x && groundL xs
termination_by structural x => x
end

mutual
theorem ground_of_plain : ∀ p : Pt, plain p = true → ground p = true
  | .c _, _ => rfl
  | .gi _ _, _ => rfl
  | .gb _, _ => rfl
  | .gs _, _ => rfl
  | .p _ _, _ => rfl
  | .gr _ _ _ _, _ => rfl
  | .k _ _, _ => rfl
  | .gx _ _ _ _ _ _, h => by cases h
  | .f _ xs ys, h => by
    simp only [plain, Bool.and_eq_true] at h
    simp only [ground, groundL_of_plain xs h.1, groundL_of_plain ys h.2, Bool.and_self]
  | .a xs, h => groundL_of_plain xs h
  | .t xs, h => groundL_of_plain xs h
  | .i _ _, h => by cases h
  | .b _, h => by cases h
  | .s _, h => by cases h
  | .r _ _ _, h => by cases h
  | .x _ _ _, h => by cases h
theorem groundL_of_plain : ∀ ps : List Pt, plainL ps = true → groundL ps = true
  | [], _ => rfl
  | p :: ps, h => by
    simp only [plainL, Bool.and_eq_true] at h
    simp only [groundL, ground_of_plain p h.1, groundL_of_plain ps h.2, Bool.and_self]
end

mutual
theorem ground_fill {σ σ' : Dt} {α α' : At'} : ∀ p : Pt, ground p = true → fill σ α p = fill σ' α' p
  | .c _, _ => rfl
  | .gi _ _, _ => rfl
  | .gb _, _ => rfl
  | .gs _, _ => rfl
  | .p _ _, _ => rfl
  | .gr _ _ _ _, _ => rfl
  | .k _ _, _ => rfl
  | .gx _ _ _ _ _ _, _ => rfl
  | .f _ xs ys, h => by
    simp only [ground, Bool.and_eq_true] at h
    simp only [fill, groundL_fill (σ := σ) (σ' := σ') (α := α) (α' := α') xs h.1, groundL_fill (σ := σ) (σ' := σ') (α := α) (α' := α') ys h.2]
  | .a xs, h => by simp only [fill, groundL_fill (σ := σ) (σ' := σ') (α := α) (α' := α') xs h]
  | .t xs, h => by simp only [fill, groundL_fill (σ := σ) (σ' := σ') (α := α) (α' := α') xs h]
  | .i _ _, h => by cases h
  | .b _, h => by cases h
  | .s _, h => by cases h
  | .r _ _ _, h => by cases h
  | .x _ _ _, h => by cases h
theorem groundL_fill {σ σ' : Dt} {α α' : At'} : ∀ ps : List Pt, groundL ps = true → fillL σ α ps = fillL σ' α' ps
  | [], _ => rfl
  | p :: ps, h => by
    simp only [groundL, Bool.and_eq_true] at h
    simp only [fillL, ground_fill (σ := σ) (σ' := σ') (α := α) (α' := α') p h.1, groundL_fill (σ := σ) (σ' := σ') (α := α) (α' := α') ps h.2]
end

mutual
theorem ground_rws {σ σ' : Dt} : ∀ p : Pt, ground p = true → rws σ p = rws σ' p
  | .c _, _ => rfl
  | .gi _ _, _ => rfl
  | .gb _, _ => rfl
  | .gs _, _ => rfl
  | .p _ _, _ => rfl
  | .gr _ _ _ _, _ => rfl
  | .k _ _, _ => rfl
  | .gx _ _ _ _ _ _, _ => rfl
  | .f _ xs ys, h => by
    simp only [ground, Bool.and_eq_true] at h
    simp only [rws, groundL_rws (σ := σ) (σ' := σ') xs h.1, groundL_rws (σ := σ) (σ' := σ') ys h.2]
  | .a xs, h => by simp only [rws, groundL_rws (σ := σ) (σ' := σ') xs h]
  | .t xs, h => by simp only [rws, groundL_rws (σ := σ) (σ' := σ') xs h]
  | .i _ _, h => by cases h
  | .b _, h => by cases h
  | .s _, h => by cases h
  | .r _ _ _, h => by cases h
  | .x _ _ _, h => by cases h
theorem groundL_rws {σ σ' : Dt} : ∀ ps : List Pt, groundL ps = true → rwsL σ ps = rwsL σ' ps
  | [], _ => rfl
  | p :: ps, h => by
    simp only [groundL, Bool.and_eq_true] at h
    simp only [rwsL, ground_rws (σ := σ) (σ' := σ') p h.1, groundL_rws (σ := σ) (σ' := σ') ps h.2]
end

mutual
theorem inst_ground (σ : Dt) (α : At') : ∀ p : Pt, ground (inst σ α p) = true ∧ (∀ σ', rws σ' (inst σ α p) = []) ∧ fill σ α (inst σ α p) = fill σ α p
  | .c _ => ⟨rfl, fun _ => rfl, rfl⟩
  | .gi _ _ => ⟨rfl, fun _ => rfl, rfl⟩
  | .gb _ => ⟨rfl, fun _ => rfl, rfl⟩
  | .gs _ => ⟨rfl, fun _ => rfl, rfl⟩
  | .p _ _ => ⟨rfl, fun _ => rfl, rfl⟩
  | .gr _ _ _ _ => ⟨rfl, fun _ => rfl, rfl⟩
  | .k _ _ => ⟨rfl, fun _ => rfl, rfl⟩
  | .gx _ _ _ _ _ _ => ⟨rfl, fun _ => rfl, rfl⟩
  | .i _ _ => ⟨rfl, fun _ => rfl, rfl⟩
  | .b _ => ⟨rfl, fun _ => rfl, rfl⟩
  | .s _ => ⟨rfl, fun _ => rfl, rfl⟩
  | .r _ _ _ => ⟨rfl, fun _ => rfl, rfl⟩
  | .x _ _ _ => ⟨rfl, fun _ => rfl, rfl⟩
  | .f _ xs ys => by
    obtain ⟨a1, a2, a3⟩ := instL_ground σ α xs
    obtain ⟨b1, b2, b3⟩ := instL_ground σ α ys
    exact ⟨by simp only [inst, ground, a1, b1, Bool.and_self], fun σ' => by simp only [inst, rws, a2, b2, List.append_nil], by simp only [inst, fill, a3, b3]⟩
  | .a xs => by
    obtain ⟨a1, a2, a3⟩ := instL_ground σ α xs
    exact ⟨by simp only [inst, ground, a1], fun σ' => by simp only [inst, rws, a2], by simp only [inst, fill, a3]⟩
  | .t xs => by
    obtain ⟨a1, a2, a3⟩ := instL_ground σ α xs
    exact ⟨by simp only [inst, ground, a1], fun σ' => by simp only [inst, rws, a2], by simp only [inst, fill, a3]⟩
theorem instL_ground (σ : Dt) (α : At') : ∀ ps : List Pt, groundL (instL σ α ps) = true ∧ (∀ σ', rwsL σ' (instL σ α ps) = []) ∧ fillL σ α (instL σ α ps) = fillL σ α ps
  | [] => ⟨rfl, fun _ => rfl, rfl⟩
  | p :: ps => by
    obtain ⟨a1, a2, a3⟩ := inst_ground σ α p
    obtain ⟨b1, b2, b3⟩ := instL_ground σ α ps
    exact ⟨by simp only [instL, groundL, a1, b1, Bool.and_self], fun σ' => by simp only [instL, rwsL, a2, b2, List.append_nil], by simp only [instL, fillL, a3, b3]⟩
end

theorem groundL_iff {ps : List Pt} : groundL ps = true ↔ ∀ p ∈ ps, ground p = true := by
  induction ps with
  | nil => simp [groundL]
  | cons p ps ih => simp [groundL, ih]
theorem plainL_iff {ps : List Pt} : plainL ps = true ↔ ∀ p ∈ ps, plain p = true := by
  induction ps with
  | nil => simp [plainL]
  | cons p ps ih => simp [plainL, ih]
theorem mem_rwsL {σ : Dt} {ps : List Pt} {r : Nat × TypeId × List PK × List (List Value)} : r ∈ rwsL σ ps ↔ ∃ p ∈ ps, r ∈ rws σ p := by
  induction ps with
  | nil => simp [rwsL]
  | cons p ps ih => simp [rwsL, ih]
theorem fillL_map (σ : Dt) (α : At') (ps : List Pt) : fillL σ α ps = ps.map (fill σ α) := by
  induction ps with
  | nil => rfl
  | cons p ps ih => simp only [fillL, ih, List.map_cons]
theorem mem_upd {α : Type} {x : α} : ∀ {us : List (Nat × α)} {l : List α}, x ∈ upd l us → x ∈ l ∨ ∃ u ∈ us, x = u.2
  | [], l, h => .inl h
  | (i, y) :: us, l, h => by
    rcases mem_upd (us := us) h with h | ⟨u, hu, e⟩
    · rcases List.mem_or_eq_of_mem_set h with h | h
      · exact .inl h
      · exact .inr ⟨(i, y), by simp, h⟩
    · exact .inr ⟨u, by simp [hu], e⟩
theorem upd_map {α β : Type} (f : α → β) : ∀ (us : List (Nat × α)) (l : List α), (upd l us).map f = upd (l.map f) (us.map fun u => (u.1, f u.2))
  | [], l => rfl
  | (i, y) :: us, l => by simp only [upd, List.map_cons]; rw [upd_map f us, List.map_set]
theorem upd_len {α : Type} : ∀ (us : List (Nat × α)) (l : List α), (upd l us).length = l.length
  | [], l => rfl
  | (i, y) :: us, l => by simp only [upd]; rw [upd_len us, List.length_set]
theorem mem_upsP {bl : Ups} {j : Nat} {u : Nat × Pt} (h : u ∈ upsOf bl j) : u.2 ∈ upsP bl := by
  unfold upsOf at h
  split at h
  · rename_i us hf
    exact List.mem_flatMap.2 ⟨_, find_mem hf, List.mem_map.2 ⟨u, h, rfl⟩⟩
  · cases h

section
variable {P : Program} {F : Nat → Prop} {w0 : World} {rom : RomP}

theorem HR.congrF {F' : Nat → Prop} {β : Nat → Nat} {h : Hp} {w : World} (H : HR F w0 β h w) (e : ∀ g, F g ↔ F' g) : HR F' w0 β h w :=
  ⟨H.os, H.tape, H.output, H.size, fun k hk hF => H.keep k hk fun h => hF ((e k).1 h), H.blk, fun j b hj hl => (H.own j b hj hl).imp (fun h => (e _).1 h) id, H.inj, H.wf⟩

theorem HR.congrβ {β β' : Nat → Nat} {h : Hp} {w : World} (H : HR F w0 β h w) (e : ∀ j, has h j → β' j = β j) : HR F w0 β' h w := by
  have onc : ∀ j b, lookB h j = some b → (b.k.on β' ↔ b.k.on β) := fun j b hj => Kd.on_congr fun i hi => e i (H.wf j b hj i (.inr hi))
  refine ⟨H.os, H.tape, H.output, H.size, H.keep, fun j b hj hl => ?_, fun j b hj hl => ?_, fun i j b b' hi hj l1 l2 eq => ?_, H.wf⟩
  · rw [e j ⟨b, hj⟩]
    exact H.here_same hj hl (fun _ => ⟨rfl, rfl⟩) fun i hi => e i (H.wf j b hj i hi)
  · rw [e j ⟨b, hj⟩]; exact H.own j b hj ((onc j b hj).1 hl)
  · rw [e i ⟨b, hi⟩, e j ⟨b', hj⟩] at eq
    exact H.inj i j b b' hi hj ((onc i b hi).1 l1) ((onc j b' hj).1 l2) eq

/-- What is not live lies behind. -/
theorem HR.more {β : Nat → Nat} {h d : Hp} {w : World} (H : HR F w0 β h w) (hd : ∀ x ∈ d, x.2.k.live = false ∧ x.2.cs = [] ∧ x.2.k.refs = []) : HR F w0 β (h ++ d) w := by
  have old : ∀ j b, lookB (h ++ d) j = some b → b.k.live = true → lookB h j = some b := fun j b hj hl => by
    rw [lookB_append] at hj
    by_cases e : j ∈ keysOf h
    · rw [if_pos e] at hj; exact hj
    · rw [if_neg e] at hj
      have := (hd _ (lookB_mem hj)).1
      rw [hl] at this; cases this
  refine ⟨H.os, H.tape, H.output, H.size, H.keep, fun j b hj hl => H.blk j b (old j b hj hl) hl, fun j b hj hl => H.own j b (old j b hj (Kd.live_of_on hl)) hl,
    fun i j b b' hi hj l1 l2 e => H.inj i j b b' (old i b hi (Kd.live_of_on l1)) (old j b' hj (Kd.live_of_on l2)) l1 l2 e, fun j b hj i hi => ?_⟩
  rw [has_append]
  rw [lookB_append] at hj
  by_cases e : j ∈ keysOf h
  · rw [if_pos e] at hj; exact .inl (H.wf j b hj i hi)
  · rw [if_neg e] at hj
    obtain ⟨_, h2, h3⟩ := hd _ (lookB_mem hj)
    dsimp only at h2 h3
    rw [h2, h3] at hi
    rcases hi with hi | hi <;> simp [refsL] at hi

/-- The same memory, told by a view of it. -/
theorem HR.over {β : Nat → Nat} {h hr : Hp} {w : World} (H : HR F w0 β h w) (H1 : HR F w0 β hr w) (hk : ∀ j b, lookB hr j = some b → ∃ b', lookB h j = some b' ∧ (b.k.on β → b'.k.on β)) : HR F w0 β (hr ++ h) w := by
  have key : ∀ j b, lookB (hr ++ h) j = some b → (lookB hr j = some b ∨ (¬ has hr j ∧ lookB h j = some b)) := fun j b hj => by
    rw [lookB_append] at hj
    by_cases e : j ∈ keysOf hr
    · rw [if_pos e] at hj; exact .inl hj
    · rw [if_neg e] at hj; exact .inr ⟨fun hh => e ((has_iff _ _).1 hh), hj⟩
  refine ⟨H.os, H.tape, H.output, H.size, H.keep, fun j b hj hl => ?_, fun j b hj hl => ?_, fun i j b b' hi hj l1 l2 e => ?_, fun j b hj i hi => ?_⟩
  · rcases key j b hj with h1 | ⟨_, h1⟩
    · exact H1.blk j b h1 hl
    · exact H.blk j b h1 hl
  · rcases key j b hj with h1 | ⟨_, h1⟩
    · exact H1.own j b h1 hl
    · exact H.own j b h1 hl
  · have toH : ∀ j b, lookB (hr ++ h) j = some b → b.k.on β → ∃ b', lookB h j = some b' ∧ b'.k.on β := fun j b hj hl => by
      rcases key j b hj with h1 | ⟨_, h1⟩
      · obtain ⟨b', h2, h3⟩ := hk j b h1; exact ⟨b', h2, h3 hl⟩
      · exact ⟨b, h1, hl⟩
    obtain ⟨c, c1, c2⟩ := toH i b hi l1
    obtain ⟨c', c1', c2'⟩ := toH j b' hj l2
    exact H.inj i j c c' c1 c1' c2 c2' e
  · rw [has_append]
    rcases key j b hj with h1 | ⟨_, h1⟩
    · exact .inl (H1.wf j b h1 i hi)
    · exact .inr (H.wf j b h1 i hi)

theorem matL_split {β : Nat → Nat} {m : M} : ∀ (ps qs : List Pt) (vs us : List V), vs.length = ps.length → MatL rom β m (ps ++ qs) (vs ++ us) → MatL rom β m ps vs ∧ MatL rom β m qs us
  | [], qs, [], us, _, h => ⟨trivial, h⟩
  | p :: ps, qs, v :: vs, us, hl, h => by
    obtain ⟨h1, h2⟩ := matL_split ps qs vs us (by simpa using hl) h.2
    exact ⟨⟨h.1, h1⟩, h2⟩
  | [], _, _ :: _, _, hl, _ => by simp at hl
  | _ :: _, _, [], _, hl, _ => by simp at hl
end
end Go.Proofs.YtfjldllegmfooaaDoor.X
end

section
/- What comes out of a contract, in the memory at hand: the theorem. No condition. -/
namespace Go.Proofs.YtfjldllegmfooaaDoor.X
open Go.RowKit

theorem bound4_ok (top : Nat) : ∀ (l : List (Nat × TypeId × List PK × List (List Value))), top ≤ bound4 top l ∧ ∀ r ∈ l, r.1 + 4 ≤ bound4 top l := by
  have : ∀ (l : List (Nat × TypeId × List PK × List (List Value))) (n : Nat), n ≤ l.foldl (fun n r => Nat.max n (r.1 + 4)) n ∧ ∀ r ∈ l, r.1 + 4 ≤ l.foldl (fun n r => Nat.max n (r.1 + 4)) n := by
    intro l
    induction l with
    | nil => intro n; exact ⟨Nat.le_refl _, by simp⟩
    | cons x l ih =>
      intro n
      obtain ⟨h1, h2⟩ := ih (Nat.max n (x.1 + 4))
      simp only [List.foldl_cons]
      refine ⟨Nat.le_trans (Nat.le_max_left _ _) h1, fun r hr => ?_⟩
      rcases List.mem_cons.1 hr with rfl | hr
      · exact Nat.le_trans (Nat.le_max_right _ _) h1
      · exact h2 r hr
  exact fun l => this l top

theorem find_self : ∀ {l : List Nat} {j : Nat}, j ∈ l → find (l.map fun j => (j, j)) j = some j
  | [], j, h => by cases h
  | i :: l, j, h => by
    simp only [List.map_cons]
    rw [find_cons]
    by_cases e : j = i
    · rw [if_pos e, e]
    · rw [if_neg e]; exact find_self ((List.mem_cons.1 h).resolve_left e)

theorem goneH_mem {l : List (Nat × TypeId × List PK × List (List Value))} {x : Nat × Blk} (h : x ∈ goneH l) : x.2.k.live = false ∧ x.2.cs = [] ∧ x.2.k.refs = [] ∧ ∃ r ∈ l, x.1 = r.1 ∨ x.1 = r.1 + 1 ∨ x.1 = r.1 + 2 ∨ x.1 = r.1 + 3 := by
  unfold goneH at h
  obtain ⟨r, hr, h⟩ := List.mem_flatMap.1 h
  simp only [List.mem_cons, List.not_mem_nil, or_false] at h
  rcases h with rfl | rfl | rfl | rfl
  · exact ⟨rfl, rfl, rfl, r, hr, .inl rfl⟩
  · exact ⟨rfl, rfl, rfl, r, hr, .inr (.inl rfl)⟩
  · exact ⟨rfl, rfl, rfl, r, hr, .inr (.inr (.inl rfl))⟩
  · exact ⟨rfl, rfl, rfl, r, hr, .inr (.inr (.inr rfl))⟩
theorem goneH_has {l : List (Nat × TypeId × List PK × List (List Value))} {r : Nat × TypeId × List PK × List (List Value)} (hr : r ∈ l) {j : Nat} (hj : j = r.1 ∨ j = r.1 + 1 ∨ j = r.1 + 2 ∨ j = r.1 + 3) : has (goneH l) j := by
  rw [has_iff]
  unfold goneH keysOf
  rw [List.map_flatMap]
  refine List.mem_flatMap.2 ⟨r, hr, ?_⟩
  simp
  exact hj

section
variable {P : Program} {F : Nat → Prop} {w0 : World} {rom rom' : RomP}

theorem Fit.bound {ps : List Pt} {bl : Bls} {vs : List V} {w : World} {β : Nat → Nat} {m : M} (h : Fit rom F w0 ps bl vs w β m) {α : At'} {j : Nat} (hj : has (viewH m.dt α ps bl) j) : ∃ j', find m.ρ j = some j' ∧ has m.h j' := by
  obtain ⟨b, hb⟩ := hj
  rcases view_mem (lookB_mem hb) with ⟨x, hx, rfl, _⟩ | ⟨r, hr, h1⟩
  · obtain ⟨j', b', c1, c2, _⟩ := h.bl x hx
    exact ⟨j', c1, ⟨b', c2⟩⟩
  · obtain ⟨j', a', o', c', b', g1, g2, g3, g4, g5, _, g7⟩ := h.rows r hr
    obtain ⟨k1, k2, k3, k4⟩ := hasRow h.mi.hr g5 g7
    rcases h1 with ⟨rfl, _⟩ | ⟨rfl | rfl | rfl, _⟩
    · exact ⟨j', g1, k1⟩
    · exact ⟨a', g2, k2⟩
    · exact ⟨o', g3, k3⟩
    · exact ⟨c', g4, k4⟩

theorem ground_out {c : Con} {σ : Dt} {α : At'} {slots : List (Nat × Pt)} {bl : Ups} {dead : List Nat} (h1 : plainL (slots.map (·.2)) = true) (h2 : plainL (upsP bl) = true) :
    ∀ p ∈ allP (c.psOut σ slots dead) (c.blOut σ α bl), ground p = true := by
  intro p hp
  unfold allP at hp
  rw [List.mem_append] at hp
  rcases hp with hp | hp
  · unfold Con.psOut at hp
    rw [List.mem_append] at hp
    rcases hp with hp | hp
    · exact ground_of_plain p (plainL_iff.1 h1 p hp)
    · obtain ⟨r, _, rfl⟩ := List.mem_map.1 hp
      rfl
  · obtain ⟨x, hx, hp⟩ := List.mem_flatMap.1 hp
    unfold Con.blOut at hx
    obtain ⟨y, _, rfl⟩ := List.mem_map.1 hx
    rcases mem_upd hp with hp | ⟨u, hu, rfl⟩
    · exact groundL_iff.1 (instL_ground σ α y.2.2).1 p hp
    · exact ground_of_plain _ (plainL_iff.1 h2 _ (mem_upsP hu))

theorem allP_congr {β : Type} (f g : Pt → β) {l : List Pt} (h : ∀ p ∈ l, f p = g p) : l.map f = l.map g := List.map_congr_left h

theorem view_ground {σ σ' : Dt} {α α' : At'} {ps : List Pt} {bl : Bls} (h : ∀ p ∈ allP ps bl, ground p = true) : viewH σ α ps bl = viewH σ' α' ps bl ∧ fillL σ α (allP ps bl) = fillL σ' α' (allP ps bl) ∧ rwsL σ (allP ps bl) = rwsL σ' (allP ps bl) := by
  have hg : groundL (allP ps bl) = true := groundL_iff.2 h
  have e3 : rwsL σ (allP ps bl) = rwsL σ' (allP ps bl) := groundL_rws _ hg
  refine ⟨?_, groundL_fill _ hg, e3⟩
  unfold viewH
  rw [e3]
  congr 1
  refine List.map_congr_left fun x hx => ?_
  have : fillL σ α x.2.2 = fillL σ' α' x.2.2 := groundL_fill _ (groundL_iff.2 fun p hp => h p (List.mem_append_right _ (List.mem_flatMap.2 ⟨x, hx, hp⟩)))
  rw [this]

theorem rowsOut {c : Con} {σ : Dt} {α : At'} {slots : List (Nat × Pt)} {bl : Ups} {dead : List Nat} {r : Nat × TypeId × List PK × List (List Value)} :
    r ∈ rwsL σ (allP (c.psOut σ slots dead) (c.blOut σ α bl)) ↔ r ∈ c.fresh σ α slots bl ∨ r ∈ c.kept σ dead := by
  unfold Con.fresh Con.psOut
  rw [mem_rwsL, mem_rwsL]
  unfold allP
  constructor
  · rintro ⟨p, hp, hr⟩
    rw [List.mem_append, List.mem_append] at hp
    rcases hp with (hp | hp) | hp
    · exact .inl ⟨p, List.mem_append_left _ hp, hr⟩
    · obtain ⟨y, hy, rfl⟩ := List.mem_map.1 hp
      simp only [rws, List.mem_singleton] at hr
      subst hr
      exact .inr hy
    · exact .inl ⟨p, List.mem_append_right _ hp, hr⟩
  · rintro (⟨p, hp, hr⟩ | hr)
    · rw [List.mem_append] at hp
      refine ⟨p, ?_, hr⟩
      rw [List.mem_append, List.mem_append]
      rcases hp with hp | hp
      · exact .inl (.inl hp)
      · exact .inr hp
    · refine ⟨.gr r.1 r.2.1 r.2.2.1 r.2.2.2, ?_, by simp [rws]⟩
      rw [List.mem_append, List.mem_append]
      exact .inl (.inr (List.mem_map.2 ⟨r, hr, rfl⟩))

theorem upd_den {β β' : Nat → Nat} {cs : List V} {l : List Pt} {f g : Pt → V} {us : List (Nat × Pt)} (h : cs.map (den β) = l.map (fun p => den β' (g p))) (hu : ∀ u ∈ us, den β (f u.2) = den β' (g u.2)) :
    denL β (upd cs (us.map fun u => (u.1, f u.2))) = denL β' ((upd l us).map g) := by
  rw [denL_map, denL_map, upd_map, upd_map, upd_map]
  rw [h, List.map_map, List.map_map, List.map_map]
  congr 1
  refine List.map_congr_left fun u hu' => ?_
  simp only [Function.comp_apply]
  rw [hu u hu']

theorem stay_has {c : Con} {σ : Dt} {α : At'} {dead : List Nat} : ∀ j ∈ c.stay σ dead, has (viewH σ α c.ps c.bl) j := fun j hj => by
  unfold Con.stay at hj
  rw [List.mem_append] at hj
  rcases hj with hj | hj
  · obtain ⟨x, hx, rfl⟩ := List.mem_map.1 hj
    rw [has_iff]; unfold viewH keysOf
    rw [List.map_append, List.mem_append, List.map_map]
    exact .inl (List.mem_map.2 ⟨x, hx, rfl⟩)
  · obtain ⟨r, hr, hj⟩ := List.mem_flatMap.1 hj
    simp only [four, List.mem_cons, List.not_mem_nil, or_false] at hj
    exact view_has (List.mem_filter.1 hr).1 hj

set_option maxHeartbeats 1000000 in
theorem post_ok (c : Con) {vs : List V} {w : World} {β : Nat → Nat} {m : M} (fit : Fit rom F w0 c.ps c.bl vs w β m) (hwf : viewWf m.dt (adt β m) c.ps c.bl = true) (htop : ∀ j, has (viewH m.dt (adt β m) c.ps c.bl) j → j < c.top)
    {βc : Nat → Nat} {h' : Hp} {nx' : Nat} {w' : World} (HC : HR (Handed (β ∘ m.ρf) (viewH m.dt (adt β m) c.ps c.bl)) w βc h' w') {dead : List Nat} (hext : ∀ j ∈ c.stay m.dt dead, βc j = β (m.ρf j))
    (hmono : ∀ j ∈ c.stay m.dt dead, has h' j) (hfr : ∀ j, has h' j → j < nx') {vals : List V} {slots : List (Nat × Pt)} (hvals : ∀ j, j ∈ refsL vals → has h' j) (hlen : vals.length = slots.length)
    {bl : Ups} (hok : c.leafOk m.dt (adt β m) slots bl dead = true) {m2 : M}
    (hm2 : view rom' (c.psOut m.dt slots dead) (c.blOut m.dt (adt β m) bl) (c.vsOut m.dt dead vals) h' nx' ((c.stay m.dt dead).map fun j => (j, j)) = some m2) (hp2 : m2.p) :
    ∃ β5, HR F w0 β5 ((c.out m slots bl dead).2.1 ++ m.h) w' ∧ (∀ j, has m.h j → β5 j = β j) ∧ (∀ j, has ((c.out m slots bl dead).2.1 ++ m.h) j → j < (c.out m slots bl dead).2.2) ∧
      (∀ j, j ∈ refsL ((c.out m slots bl dead).1.map (·.2)) → has ((c.out m slots bl dead).2.1 ++ m.h) j) ∧ denL β5 ((c.out m slots bl dead).1.map (·.2)) = denL βc vals := by
  have H := fit.mi.hr
  generalize hσ : m.dt = σ at *
  generalize hα : adt β m = α at *
  generalize hhc : viewH σ α c.ps c.bl = hc at *
  simp only [Con.leafOk, Bool.and_eq_true] at hok
  obtain ⟨⟨⟨⟨⟨k1, k2⟩, k3⟩, k4⟩, k5⟩, _⟩ := hok
  have hground := ground_out (c := c) (σ := σ) (α := α) (dead := dead) k2 k3
  -- keys of the view
  have hbnd : ∀ j, has hc j → ∃ j', find m.ρ j = some j' ∧ has m.h j' := fun j hj => fit.bound (α := α) (by rw [hσ, hhc]; exact hj)
  have hρh : ∀ j, has hc j → has m.h (m.ρf j) := fun j hj => by obtain ⟨j', e1, e2⟩ := hbnd j hj; rw [ρf_of e1]; exact e2
  have hρlt : ∀ j, has hc j → m.ρf j < m.nx := fun j hj => fit.mi.fr _ (hρh j hj)
  have hρinj : ∀ i j, has hc i → has hc j → m.ρf i = m.ρf j → i = j := fun i j hi hj e => by
    obtain ⟨i', e1, _⟩ := hbnd i hi
    obtain ⟨j', e2, _⟩ := hbnd j hj
    rw [ρf_of e1, ρf_of e2] at e
    subst e
    exact fit.inj e1 e2
  have hblk : ∀ x ∈ c.bl, has hc x.1 := fun x hx => by
    rw [← hhc, has_iff]; unfold viewH keysOf
    rw [List.map_append, List.mem_append, List.map_map]
    exact .inl (List.mem_map.2 ⟨x, hx, rfl⟩)
  have hrow : ∀ r ∈ c.rows σ, ∀ j, j = r.1 ∨ j = r.1 + 1 ∨ j = r.1 + 2 ∨ j = r.1 + 3 → has hc j := fun r hr j hj => by rw [← hhc]; exact view_has hr hj
  have hkept : ∀ r ∈ c.kept σ dead, r ∈ c.rows σ := fun r hr => (List.mem_filter.1 hr).1
  have hgone : ∀ r ∈ c.gone σ dead, r ∈ c.rows σ := fun r hr => (List.mem_filter.1 hr).1
  have hsplit : ∀ r ∈ c.rows σ, r ∈ c.kept σ dead ∨ r ∈ c.gone σ dead := fun r hr => by
    cases hd : dead.any (Nat.beq r.1) with
    | true => exact .inr (List.mem_filter.2 ⟨hr, hd⟩)
    | false => exact .inl (List.mem_filter.2 ⟨hr, by rw [hd]; rfl⟩)
  have hstay : ∀ j ∈ c.stay σ dead, has hc j := fun j hj => by
    unfold Con.stay at hj
    rw [List.mem_append] at hj
    rcases hj with hj | hj
    · obtain ⟨x, hx, rfl⟩ := List.mem_map.1 hj; exact hblk x hx
    · obtain ⟨r, hr, hj⟩ := List.mem_flatMap.1 hj
      simp only [four, List.mem_cons, List.not_mem_nil, or_false] at hj
      exact hrow r (hkept r hr) j hj
  have hkstay : ∀ r ∈ c.kept σ dead, ∀ j, j = r.1 ∨ j = r.1 + 1 ∨ j = r.1 + 2 ∨ j = r.1 + 3 → j ∈ c.stay σ dead := fun r hr j hj => by
    unfold Con.stay
    rw [List.mem_append]
    refine .inr (List.mem_flatMap.2 ⟨r, hr, ?_⟩)
    simp only [four, List.mem_cons, List.not_mem_nil, or_false]
    exact hj
  have hbstay : ∀ x ∈ c.bl, x.1 ∈ c.stay σ dead := fun x hx => by
    unfold Con.stay
    rw [List.mem_append]
    exact .inl (List.mem_map.2 ⟨x, hx, rfl⟩)
  -- what came fits
  have hvs : ∀ j, j ∈ refsL (c.vsOut σ dead vals) → has h' j := fun j hj => by
    unfold Con.vsOut at hj
    rw [refsL_append, List.mem_append] at hj
    rcases hj with hj | hj
    · exact hvals j hj
    · obtain ⟨v, hv, hj⟩ := mem_refsL.1 hj
      obtain ⟨r, hr, rfl⟩ := List.mem_map.1 hv
      simp only [refs, List.mem_cons, List.not_mem_nil, or_false] at hj
      exact hmono j (hkstay r hr j hj)
  obtain ⟨β2, fit2, ext2⟩ := view_ok hm2 hp2 HC hfr hvs
  have e2 : ∀ j ∈ c.stay σ dead, m2.ρf j = j ∧ β2 j = βc j := fun j hj => ⟨ρf_of (ext2.ρ _ _ (find_self hj)), ext2.β j (hmono j hj)⟩
  obtain ⟨g1, g2, g3⟩ := view_ground (σ := m2.dt) (σ' := σ) (α := adt β2 m2) (α' := α) hground
  have hwf2 : viewWf m2.dt (adt β2 m2) (c.psOut σ slots dead) (c.blOut σ α bl) = true := by unfold viewWf at k1 ⊢; rw [g1, g2]; simpa only [Bool.and_eq_true] using k1
  have HV := fit2.hr hwf2
  rw [g1] at HV
  obtain ⟨nd, hcl⟩ := viewWf_ok k1
  generalize hhv : viewH σ α (c.psOut σ slots dead) (c.blOut σ α bl) = hv at *
  have hvkey : ∀ j, has hv j → (has hc j ∧ j ∈ c.stay σ dead) ∨ ∃ r ∈ c.fresh σ α slots bl, j = r.1 ∨ j = r.1 + 1 ∨ j = r.1 + 2 ∨ j = r.1 + 3 := by
    rintro j ⟨b, hb⟩
    rw [← hhv] at hb
    rcases view_mem (lookB_mem hb) with ⟨x, hx, rfl, _⟩ | ⟨r, hr, h1⟩
    · unfold Con.blOut at hx
      obtain ⟨y, hy, rfl⟩ := List.mem_map.1 hx
      exact .inl ⟨hblk y hy, hbstay y hy⟩
    · have hj : j = r.1 ∨ j = r.1 + 1 ∨ j = r.1 + 2 ∨ j = r.1 + 3 := by
        rcases h1 with ⟨h1, _⟩ | ⟨h1, _⟩
        · exact .inl h1
        · exact .inr h1
      rcases rowsOut.1 hr with hr | hr
      · exact .inr ⟨r, hr, hj⟩
      · exact .inl ⟨hrow r (hkept r hr) j hj, hkstay r hr j hj⟩
  have hftop : ∀ r ∈ c.fresh σ α slots bl, c.top ≤ r.1 := fun r hr => Nat.le_of_ble_eq_true (List.all_eq_true.1 k5 r hr)
  -- under keys that name what they named
  have HO : HR (Handed (β ∘ m.ρf) hc) w (fun j => bif Nat.blt j c.top then β (m.ρf j) else β2 (m2.ρf j)) hv w' := HV.congrβ fun j hj => by
    rcases hvkey j hj with ⟨h1, h2⟩ | ⟨r, hr, h1⟩
    · have hlt := htop j h1
      rw [show Nat.blt j c.top = true from Nat.ble_eq_true_of_le hlt]
      simp only [cond_true, Function.comp_apply]
      rw [(e2 j h2).1, (e2 j h2).2, hext j h2]
    · have := hftop r hr
      rw [show Nat.blt j c.top = false from by cases hb : Nat.blt j c.top with | false => rfl | true => exfalso; have := Nat.le_of_ble_eq_true hb; omega]
      rfl
  generalize hβo : (fun j => bif Nat.blt j c.top then β (m.ρf j) else β2 (m2.ρf j)) = βo at HO
  have hβo1 : ∀ j, has hc j → βo j = β (m.ρf j) := fun j hj => by rw [← hβo]; dsimp only; rw [show Nat.blt j c.top = true from Nat.ble_eq_true_of_le (htop j hj)]; rfl
  have hβo2 : ∀ j, has hv j → βo j = β2 (m2.ρf j) := fun j hj => by
    rcases hvkey j hj with ⟨h1, h2⟩ | ⟨r, hr, h1⟩
    · rw [hβo1 j h1, (e2 j h2).1, (e2 j h2).2, hext j h2]
    · have := hftop r hr
      rw [← hβo]; dsimp only
      rw [show Nat.blt j c.top = false from by cases hb : Nat.blt j c.top with | false => rfl | true => exfalso; have := Nat.le_of_ble_eq_true hb; omega]
      rfl
  have HF := HO.more (d := goneH (c.gone σ dead)) fun x hx => by obtain ⟨a1, a2, a3, _⟩ := goneH_mem hx; exact ⟨a1, a2, a3⟩
  have hfkey : ∀ j, has (hv ++ goneH (c.gone σ dead)) j → has hc j ∨ ∃ r ∈ c.fresh σ α slots bl, j = r.1 ∨ j = r.1 + 1 ∨ j = r.1 + 2 ∨ j = r.1 + 3 := fun j hj => by
    rcases (has_append _ _ _).1 hj with h1 | ⟨b, hb⟩
    · exact (hvkey j h1).imp And.left id
    · obtain ⟨_, _, _, r, hr, h1⟩ := goneH_mem (lookB_mem hb)
      exact .inl (hrow r (hgone r hr) j h1)
  have hbl2 : ∀ x ∈ c.bl, (x.1, (⟨x.2.1, fillL σ α (upd (instL σ α x.2.2) (upsOf bl x.1)), .exact⟩ : Blk)) ∈ hv := fun x hx => by
    rw [← hhv]; unfold viewH
    rw [List.mem_append]
    refine .inl (List.mem_map.2 ⟨(x.1, x.2.1, upd (instL σ α x.2.2) (upsOf bl x.1)), ?_, rfl⟩)
    unfold Con.blOut
    exact List.mem_map.2 ⟨x, hx, rfl⟩
  have hrow2 : ∀ r, r ∈ c.fresh σ α slots bl ∨ r ∈ c.kept σ dead → (r.1, (⟨r.2.1, [], .open_ (r.1 + 1) (r.1 + 2) (r.1 + 3) r.2.2.1 r.2.2.2⟩ : Blk)) ∈ hv := fun r hr => by
    rw [← hhv]; unfold viewH
    rw [List.mem_append]
    exact .inr (List.mem_flatMap.2 ⟨r, rowsOut.2 hr, by simp [laidO]⟩)
  have hhcf : ∀ j, has hc j → has (hv ++ goneH (c.gone σ dead)) j := fun j hj => by
    rw [has_append]
    obtain ⟨b, hb⟩ := hj
    rw [← hhc] at hb
    rcases view_mem (lookB_mem hb) with ⟨x, hx, rfl, _⟩ | ⟨r, hr, h1⟩
    · exact .inl ((has_iff _ _).2 (List.mem_map.2 ⟨_, hbl2 x hx, rfl⟩))
    · have hj : j = r.1 ∨ j = r.1 + 1 ∨ j = r.1 + 2 ∨ j = r.1 + 3 := by
        rcases h1 with ⟨h1, _⟩ | ⟨h1, _⟩
        · exact .inl h1
        · exact .inr h1
      rcases hsplit r hr with h2 | h2
      · rw [← hhv]; exact .inl (view_has (rowsOut.2 (.inr h2)) hj)
      · exact .inr (goneH_has h2 hj)
  generalize hhf : hv ++ goneH (c.gone σ dead) = hf at *
  -- under the keys at hand
  have hren1 : ∀ j, has hc j → c.ren m j = m.ρf j := fun j hj => by unfold Con.ren; rw [show Nat.blt j c.top = true from Nat.ble_eq_true_of_le (htop j hj)]; rfl
  have hren2 : ∀ j, c.top ≤ j → c.ren m j = m.nx + (j - c.top) := fun j hj => by
    unfold Con.ren
    rw [show Nat.blt j c.top = false from by cases hb : Nat.blt j c.top with | false => rfl | true => exfalso; have := Nat.le_of_ble_eq_true hb; omega]; rfl
  have hfk : ∀ j, has hf j → (has hc j ∧ c.ren m j = m.ρf j ∧ c.ren m j < m.nx) ∨ (c.top ≤ j ∧ c.ren m j = m.nx + (j - c.top)) := fun j hj => by
    rcases hfkey j hj with h1 | ⟨r, hr, h1⟩
    · exact .inl ⟨h1, hren1 j h1, by rw [hren1 j h1]; exact hρlt j h1⟩
    · have := hftop r hr
      have hle : c.top ≤ j := by omega
      exact .inr ⟨hle, hren2 j hle⟩
  have HR4 : HR (Handed (β ∘ m.ρf) hc) w (fun k => bif Nat.blt k m.nx then β k else βo (k - m.nx + c.top)) (renH (c.ren m) hf) w' := by
    refine HF.ren (fun i k hi hk e => ?_) fun i hi => ?_
    · rcases hfk i hi with ⟨a1, a2, a3⟩ | ⟨a1, a2⟩ <;> rcases hfk k hk with ⟨b1, b2, b3⟩ | ⟨b1, b2⟩
      · exact hρinj i k a1 b1 (by rw [← a2, ← b2]; exact e)
      · omega
      · omega
      · omega
    · rcases hfk i hi with ⟨a1, a2, a3⟩ | ⟨a1, a2⟩
      · rw [show Nat.blt (c.ren m i) m.nx = true from Nat.ble_eq_true_of_le a3]
        simp only [cond_true]
        rw [a2, hβo1 i a1]
      · rw [show Nat.blt (c.ren m i) m.nx = false from by cases hb : Nat.blt (c.ren m i) m.nx with | false => rfl | true => exfalso; have := Nat.le_of_ble_eq_true hb; omega]
        simp only [cond_false]
        congr 1
        omega
  generalize hβ4 : (fun k => bif Nat.blt k m.nx then β k else βo (k - m.nx + c.top)) = β4 at HR4
  have hβ4a : ∀ i, has hf i → β4 (c.ren m i) = βo i := fun i hi => by
    rw [← hβ4]; dsimp only
    rcases hfk i hi with ⟨a1, a2, a3⟩ | ⟨a1, a2⟩
    · rw [show Nat.blt (c.ren m i) m.nx = true from Nat.ble_eq_true_of_le a3]
      simp only [cond_true]
      rw [a2, hβo1 i a1]
    · rw [show Nat.blt (c.ren m i) m.nx = false from by cases hb : Nat.blt (c.ren m i) m.nx with | false => rfl | true => exfalso; have := Nat.le_of_ble_eq_true hb; omega]
      simp only [cond_false]
      congr 1
      omega
  -- the memory at hand, ahead
  have HC0 : HR F w0 (β ∘ m.ρf) hc w := by rw [← hhc, ← hσ, ← hα]; exact fit.hr (by rw [hσ, hα]; exact hwf)
  have HCR : HR F w0 β (renH m.ρf hc) w := HC0.ren hρinj fun _ _ => rfl
  have hcrlook : ∀ j b, lookB (renH m.ρf hc) j = some b → ∃ i b0, has hc i ∧ j = m.ρf i ∧ b = renB m.ρf b0 ∧ lookB hc i = some b0 := fun j b hj => by
    obtain ⟨i, b0, h1, h2, h3⟩ := look_ren hj
    have hi : has hc i := (has_iff _ _).2 (List.mem_map.2 ⟨_, h3, rfl⟩)
    obtain ⟨b1, hb1⟩ := hi
    have := look_ren_of (ρ := m.ρf) hb1 fun k hk e => hρinj k i hk ⟨b1, hb1⟩ e
    rw [← h1, hj] at this
    simp only [Option.some.injEq] at this
    exact ⟨i, b1, ⟨b1, hb1⟩, h1, this, hb1⟩
  have honc : ∀ i b0, lookB hc i = some b0 → ((renB m.ρf b0).k.on β ↔ b0.k.on (β ∘ m.ρf)) := fun i b0 _ => renK_on m.ρf β b0.k
  have HOV := H.over HCR fun j b hj => by
    obtain ⟨i, b0, hi, rfl, rfl, hb0⟩ := hcrlook j b hj
    have hb0' := hb0
    rw [← hhc] at hb0'
    rcases view_mem (lookB_mem hb0') with ⟨x, hx, rfl, rfl⟩ | ⟨r, hr, ⟨rfl, rfl⟩ | ⟨_, rfl⟩⟩
    · obtain ⟨j', b', c1, c2, c3, _⟩ := fit.bl x hx
      exact ⟨b', by rw [ρf_of c1]; exact c2, fun _ => by rw [c3]; trivial⟩
    · obtain ⟨j', a', o', c', b', q1, q2, q3, q4, q5, _, q7⟩ := fit.rows r (by rw [hσ]; exact hr)
      refine ⟨b', by rw [ρf_of q1]; exact q5, fun hon => ?_⟩
      rw [q7]
      have := (honc _ _ hb0).1 hon
      simp only [Kd.on, Function.comp_apply, ρf_of q2] at this
      exact this
    · obtain ⟨b', hb'⟩ := hρh i hi
      exact ⟨b', hb', fun hon => hon.elim⟩
  have hhand : ∀ g, Handed (β ∘ m.ρf) hc g ↔ Handed β (renH m.ρf hc) g := fun g => by
    constructor
    · rintro ⟨j, b, hj, hon, rfl⟩
      exact ⟨m.ρf j, renB m.ρf b, look_ren_of hj fun k hk e => hρinj k j hk ⟨b, hj⟩ e, (honc j b hj).2 hon, rfl⟩
    · rintro ⟨j, b, hj, hon, rfl⟩
      obtain ⟨i, b0, _, rfl, rfl, hb0⟩ := hcrlook j b hj
      exact ⟨i, b0, hb0, (honc i b0 hb0).1 hon, rfl⟩
  obtain ⟨U1, U2, U3⟩ := HOV.unframe (h0 := renH m.ρf hc) (fun j b hj => by rw [lookB_append, if_pos ((has_iff _ _).1 ⟨b, hj⟩)]; exact hj) (HR4.congrF hhand) (fun j hj => by
      obtain ⟨i, hi, rfl⟩ := (has_ren _ _).1 hj
      rw [← hβ4]; dsimp only
      rw [show Nat.blt (m.ρf i) m.nx = true from Nat.ble_eq_true_of_le (hρlt i hi)]; rfl) (fun j hj => by
      obtain ⟨i, hi, rfl⟩ := (has_ren _ _).1 hj
      exact (has_ren _ _).2 ⟨i, hhcf i hi, (hren1 i hi).symm⟩) (fun j hj => by
      obtain ⟨i, hi, rfl⟩ := (has_ren _ _).1 hj
      rcases hfk i hi with ⟨a1, a2, a3⟩ | ⟨a1, a2⟩
      · exact .inl ((has_ren _ _).2 ⟨i, a1, a2⟩)
      · refine .inr fun hh => ?_
        rcases (has_append _ _ _).1 hh with h1 | h1
        · obtain ⟨k, hk, e⟩ := (has_ren _ _).1 h1
          have := hρlt k hk
          omega
        · have := fit.mi.fr _ h1; omega)
  generalize (fun j => bif (keysOf (renH (c.ren m) hf)).any (Nat.beq j) then β4 j else β j) = β5 at U1 U2 U3
  have U2' : ∀ j, has m.h j → β5 j = β j := fun j hj => U2 j ((has_append _ _ _).2 (.inr hj))
  have hβ5 : ∀ i, has hf i → β5 (c.ren m i) = βo i := fun i hi => (U3 _ ((has_ren _ _).2 ⟨i, hi, rfl⟩)).trans (hβ4a i hi)
  -- values of patterns
  have hfresh : c.fresh σ noα slots bl = c.fresh σ α slots bl := by
    unfold Con.fresh
    have e1 : c.blOut σ noα bl = c.bl.map fun x => (x.1, x.2.1, upd (instL σ noα x.2.2) (upsOf bl x.1)) := rfl
    have e2 : c.blOut σ α bl = c.bl.map fun x => (x.1, x.2.1, upd (instL σ α x.2.2) (upsOf bl x.1)) := rfl
    rw [e1, e2]
    unfold allP
    have app : ∀ (a b : List Pt), rwsL σ (a ++ b) = rwsL σ a ++ rwsL σ b := by
      intro a b
      induction a with
      | nil => rfl
      | cons x a ih => simp only [List.cons_append, rwsL, ih, List.append_assoc]
    rw [app, app]
    congr 1
    have upe : ∀ (us : List (Nat × Pt)) (l l' : List Pt), l.map (rws σ) = l'.map (rws σ) → (upd l us).map (rws σ) = (upd l' us).map (rws σ) := fun us l l' e => by rw [upd_map, upd_map, e]
    have rwm : ∀ l : List Pt, rwsL σ l = (l.map (rws σ)).flatten := fun l => by
      induction l with
      | nil => rfl
      | cons x l ih => simp only [rwsL, ih, List.map_cons, List.flatten_cons]
    have nil : ∀ (α : At') (l : List Pt), (instL σ α l).map (rws σ) = l.map fun _ => [] := fun α l => by
      induction l with
      | nil => rfl
      | cons x l ih => simp only [instL, List.map_cons, ih, (inst_ground σ α x).2.1 σ]
    generalize c.bl = L
    induction L with
    | nil => rfl
    | cons x L ih =>
      simp only [List.map_cons, List.flatMap_cons, app]
      rw [ih, rwm (upd (instL σ noα x.2.2) _), rwm (upd (instL σ α x.2.2) _), upe _ _ _ ((nil noα x.2.2).trans (nil α x.2.2).symm)]
  have hplain : ∀ p, plain p = true → fill σ noα p = fill σ α p := fun p hp => ground_fill p (ground_of_plain p hp)
  have hdenp : ∀ p, plain p = true → den β5 (renV (c.ren m) (fill σ noα p)) = den (β5 ∘ c.ren m) (fill σ α p) := fun p hp => by rw [den_ren, hplain p hp]
  have hcell : ∀ x ∈ c.bl, ∀ b, lookB m.h (m.ρf x.1) = some b → b.cs.map (den β5) = (instL σ α x.2.2).map fun p => den (β5 ∘ c.ren m) (fill σ α p) := fun x hx b hb => by
    obtain ⟨j', b', c1, c2, c3, c4, c5, c6⟩ := fit.bl x hx
    rw [ρf_of c1, c2] at hb
    simp only [Option.some.injEq] at hb
    subst hb
    have e1 : denL β5 b'.cs = denL β b'.cs := denL_congr β β5 _ fun i hi => U2' i (c6 i hi)
    have e2 := matL_den _ _ c5
    rw [hσ, hα] at e2
    have e3 : denL (β5 ∘ c.ren m) (fillL σ α x.2.2) = denL (β ∘ m.ρf) (fillL σ α x.2.2) := denL_congr _ _ _ fun i hi => by
      have hi' : has hc i := by
        obtain ⟨_, hcl0⟩ := viewWf_ok hwf
        rw [hhc] at hcl0
        exact hcl0 i (refs_fill_all.2 x hx i hi)
      simp only [Function.comp_apply]
      rw [hren1 i hi', U2' _ (hρh i hi')]
    have e4 : (instL σ α x.2.2).map (fun p => den (β5 ∘ c.ren m) (fill σ α p)) = denL (β5 ∘ c.ren m) (fillL σ α (instL σ α x.2.2)) := by rw [denL_map, fillL_map, List.map_map]; rfl
    rw [e4, (instL_ground σ α x.2.2).2.2, e3, ← e2, ← e1, denL_map]
  have hupsden : ∀ x ∈ c.bl, ∀ b, lookB m.h (m.ρf x.1) = some b → denL β5 (upd b.cs ((upsOf bl x.1).map fun y => (y.1, renV (c.ren m) (fill σ noα y.2)))) = denL (β5 ∘ c.ren m) (fillL σ α (upd (instL σ α x.2.2) (upsOf bl x.1))) := fun x hx b hb => by
    rw [fillL_map]
    exact upd_den (f := fun p => renV (c.ren m) (fill σ noα p)) (hcell x hx b hb) fun u hu => hdenp _ (plainL_iff.1 k3 _ (mem_upsP hu))
  have hvlook : ∀ j b, (j, b) ∈ hv → lookB (renH (c.ren m) hf ++ (renH m.ρf hc ++ m.h)) (c.ren m j) = some (renB (c.ren m) b) := fun j b hm => by
    have h1 := nodupB_look nd hm
    have h2 : lookB hf j = some b := by rw [← hhf, lookB_append, if_pos ((has_iff _ _).1 ⟨b, h1⟩)]; exact h1
    have h3 := look_ren_of (ρ := c.ren m) h2 fun k hk e => by
      rcases hfk k hk with ⟨a1, a2, a3⟩ | ⟨a1, a2⟩ <;> rcases hfk j ⟨b, h2⟩ with ⟨b1, b2, b3⟩ | ⟨b1, b2⟩
      · exact hρinj k j a1 b1 (by rw [← a2, ← b2]; exact e)
      · omega
      · omega
      · omega
    rw [lookB_append, if_pos ((has_iff _ _).1 ⟨_, h3⟩)]
    exact h3
  have hout : (c.out m slots bl dead).2.1 = ((c.bl.filter fun x => bl.any fun y => Nat.beq y.1 x.1).filterMap fun x => (lookB m.h (m.ρf x.1)).map fun b => (m.ρf x.1, (⟨x.2.1, upd b.cs ((upsOf bl x.1).map fun y => (y.1, renV (c.ren m) (fill σ noα y.2))), .exact⟩ : Blk))) ++
      renH (c.ren m) (((c.fresh σ α slots bl).flatMap fun x => laidO x.1 x.2.1 x.2.2.1 x.2.2.2) ++ goneH (c.gone σ dead)) := by
    unfold Con.out
    dsimp only
    rw [hσ, hfresh]
  generalize hchg : ((c.bl.filter fun x => bl.any fun y => Nat.beq y.1 x.1).filterMap fun x => (lookB m.h (m.ρf x.1)).map fun b => (m.ρf x.1, (⟨x.2.1, upd b.cs ((upsOf bl x.1).map fun y => (y.1, renV (c.ren m) (fill σ noα y.2))), .exact⟩ : Blk))) = chg at hout
  have hchgm : ∀ j b, (j, b) ∈ chg → ∃ x ∈ c.bl, (bl.any fun y => Nat.beq y.1 x.1) = true ∧ ∃ b0, lookB m.h (m.ρf x.1) = some b0 ∧ j = m.ρf x.1 ∧ b = ⟨x.2.1, upd b0.cs ((upsOf bl x.1).map fun y => (y.1, renV (c.ren m) (fill σ noα y.2))), .exact⟩ := fun j b hm => by
    rw [← hchg] at hm
    obtain ⟨x, hx, h1⟩ := List.mem_filterMap.1 hm
    obtain ⟨h2, h3⟩ := List.mem_filter.1 hx
    obtain ⟨b0, h4, h5⟩ := Option.map_eq_some_iff.1 h1
    injection h5 with h5 h6
    exact ⟨x, h2, h3, b0, h4, h5.symm, h6.symm⟩
  generalize hnew : renH (c.ren m) (((c.fresh σ α slots bl).flatMap fun x => laidO x.1 x.2.1 x.2.2.1 x.2.2.2) ++ goneH (c.gone σ dead)) = new at hout
  have hnewhas : ∀ j, has new j ↔ (∃ r ∈ c.fresh σ α slots bl, ∃ i, (i = r.1 ∨ i = r.1 + 1 ∨ i = r.1 + 2 ∨ i = r.1 + 3) ∧ j = c.ren m i) ∨ ∃ r ∈ c.gone σ dead, ∃ i, (i = r.1 ∨ i = r.1 + 1 ∨ i = r.1 + 2 ∨ i = r.1 + 3) ∧ j = c.ren m i := fun j => by
    rw [← hnew, has_ren]
    constructor
    · rintro ⟨i, hi, rfl⟩
      rcases (has_append _ _ _).1 hi with h1 | ⟨b, hb⟩
      · obtain ⟨x, hx, e⟩ := List.mem_map.1 ((has_iff _ _).1 h1)
        obtain ⟨r, hr, hx⟩ := List.mem_flatMap.1 hx
        refine .inl ⟨r, hr, i, ?_, rfl⟩
        simp only [laidO, List.mem_cons, List.not_mem_nil, or_false] at hx
        rcases hx with rfl | rfl | rfl | rfl <;> subst e <;> simp
      · obtain ⟨_, _, _, r, hr, h1⟩ := goneH_mem (lookB_mem hb)
        exact .inr ⟨r, hr, i, h1, rfl⟩
    · rintro (⟨r, hr, i, hi, rfl⟩ | ⟨r, hr, i, hi, rfl⟩)
      · refine ⟨i, (has_append _ _ _).2 (.inl ((has_iff _ _).2 ?_)), rfl⟩
        unfold keysOf
        rw [List.map_flatMap]
        refine List.mem_flatMap.2 ⟨r, hr, ?_⟩
        simp [laidO]
        exact hi
      · exact ⟨i, (has_append _ _ _).2 (.inr (goneH_has hr hi)), rfl⟩
  have hvhas : ∀ i, has hv i → has (chg ++ new ++ m.h) (c.ren m i) := fun i hi => by
    rw [has_append, has_append]
    rcases hvkey i hi with ⟨h1, _⟩ | ⟨r, hr, h1⟩
    · rw [hren1 i h1]; exact .inr (hρh i h1)
    · exact .inl (.inr ((hnewhas _).2 (.inl ⟨r, hr, i, h1, rfl⟩)))
  rw [hout]
  refine ⟨β5, U1.congrB ?_ ?_, U2', ?_, ?_, ?_⟩
  · intro j b' hj hl
    rw [lookB_append] at hj
    by_cases e1 : j ∈ keysOf (chg ++ new)
    · rw [if_pos e1, lookB_append] at hj
      by_cases e2 : j ∈ keysOf chg
      · rw [if_pos e2] at hj
        obtain ⟨x, hx, _, b0, hb0, rfl, rfl⟩ := hchgm j b' (lookB_mem hj)
        refine ⟨renB (c.ren m) ⟨x.2.1, fillL σ α (upd (instL σ α x.2.2) (upsOf bl x.1)), .exact⟩, by rw [← hren1 x.1 (hblk x hx)]; exact hvlook _ _ (hbl2 x hx), rfl, rfl, .inr ?_⟩
        show denL β5 (renVL (c.ren m) _) = _
        rw [denL_ren]
        exact (hupsden x hx b0 hb0).symm
      · rw [if_neg e2] at hj
        rw [← hnew] at hj
        obtain ⟨i, b0, rfl, rfl, hm⟩ := look_ren hj
        rw [List.mem_append] at hm
        rcases hm with hm | hm
        · obtain ⟨r, hr, hm⟩ := List.mem_flatMap.1 hm
          simp only [laidO, List.mem_cons, Prod.mk.injEq, List.not_mem_nil, or_false] at hm
          rcases hm with ⟨rfl, rfl⟩ | ⟨_, rfl⟩ | ⟨_, rfl⟩ | ⟨_, rfl⟩
          · exact ⟨_, hvlook _ _ (hrow2 r (.inl hr)), rfl, rfl, .inl trivial⟩
          · cases hl
          · cases hl
          · cases hl
        · have := (goneH_mem hm).1
          rw [show (renB (c.ren m) b0).k = renK (c.ren m) b0.k from rfl, renK_live] at hl
          rw [hl] at this; cases this
    · rw [if_neg e1] at hj
      have hnochg : ¬ has chg j := fun hh => e1 ((has_iff _ _).1 ((has_append _ _ _).2 (.inl hh)))
      have hnonew : ¬ has new j := fun hh => e1 ((has_iff _ _).1 ((has_append _ _ _).2 (.inr hh)))
      by_cases e3 : has (renH (c.ren m) hf) j
      · obtain ⟨i, hi, rfl⟩ := (has_ren _ _).1 e3
        have hjlt := fit.mi.fr _ ⟨b', hj⟩
        rcases hfk i hi with ⟨a1, a2, a3⟩ | ⟨a1, a2⟩
        · rw [a2] at hj
          obtain ⟨b0, hb0⟩ := a1
          have a1 : has hc i := ⟨b0, hb0⟩
          rw [← hhc] at hb0
          rcases view_mem (lookB_mem hb0) with ⟨x, hx, rfl, _⟩ | ⟨r, hr, h1⟩
          · have hun : upsOf bl x.1 = [] := by
              unfold upsOf
              split
              · rename_i us hus
                exfalso
                refine hnochg ((has_iff _ _).2 ?_)
                rw [← hchg, a2]
                refine List.mem_map.2 ⟨_, List.mem_filterMap.2 ⟨x, List.mem_filter.2 ⟨hx, List.any_eq_true.2 ⟨_, find_mem hus, by simp⟩⟩, by rw [hj]; rfl⟩, rfl⟩
              · rfl
            obtain ⟨j', b2, c1, c2, c3, c4, _⟩ := fit.bl x hx
            have hb2 : b' = b2 := by rw [ρf_of c1, c2] at hj; simp only [Option.some.injEq] at hj; exact hj.symm
            refine ⟨_, hvlook _ _ (hbl2 x hx), ?_, ?_, .inr ?_⟩
            · rw [hb2, c4]; rfl
            · rw [hb2, c3]; rfl
            · show denL β5 (renVL (c.ren m) _) = _
              have := hupsden x hx b' hj
              rw [hun] at this ⊢
              rw [denL_ren]
              exact this.symm
          · have hj4 : i = r.1 ∨ i = r.1 + 1 ∨ i = r.1 + 2 ∨ i = r.1 + 3 := by
              rcases h1 with ⟨h1, _⟩ | ⟨h1, _⟩
              · exact .inl h1
              · exact .inr h1
            have hk : r ∈ c.kept σ dead := by
              rcases hsplit r hr with h2 | h2
              · exact h2
              · exact (hnonew ((hnewhas _).2 (.inr ⟨r, h2, i, hj4, rfl⟩))).elim
            obtain ⟨j', a', o', c', b2, q1, q2, q3, q4, q5, q6, q7⟩ := fit.rows r (by rw [hσ]; exact hr)
            rcases h1 with ⟨rfl, _⟩ | ⟨h1, _⟩
            · have hb2 : b' = b2 := by rw [ρf_of q1, q5] at hj; simp only [Option.some.injEq] at hj; exact hj.symm
              have h1r := hrow r hr
              refine ⟨_, hvlook _ _ (hrow2 r (.inr hk)), ?_, ?_, .inl trivial⟩
              · rw [hb2, q6]; rfl
              · rw [hb2, q7]
                show Kd.open_ _ _ _ _ _ = _
                rw [hren1 _ (h1r _ (.inr (.inl rfl))), hren1 _ (h1r _ (.inr (.inr (.inl rfl)))), hren1 _ (h1r _ (.inr (.inr (.inr rfl)))), ρf_of q2, ρf_of q3, ρf_of q4]
            · exfalso
              obtain ⟨j2, e5, _⟩ := hbnd i a1
              have := fit.num r (by rw [hσ]; exact hr) i h1 j2 b' e5 (by rw [ρf_of e5] at hj; exact hj)
              rw [this] at hl; cases hl
        · omega
      · refine ⟨b', ?_, rfl, rfl, .inr rfl⟩
        rw [lookB_append, if_neg (fun e => e3 ((has_iff _ _).2 e)), lookB_append, if_neg (fun e => e3 ?_)]
        · exact hj
        · obtain ⟨i, hi, rfl⟩ := (has_ren _ _).1 ((has_iff _ _).2 e)
          exact (has_ren _ _).2 ⟨i, hhcf i hi, (hren1 i hi).symm⟩
  · intro j b hj i hi
    rw [lookB_append] at hj
    by_cases e1 : j ∈ keysOf (chg ++ new)
    · rw [if_pos e1, lookB_append] at hj
      by_cases e2 : j ∈ keysOf chg
      · rw [if_pos e2] at hj
        obtain ⟨x, hx, _, b0, hb0, rfl, rfl⟩ := hchgm j b (lookB_mem hj)
        rcases hi with hi | hi
        · obtain ⟨v, hv', hi⟩ := mem_refsL.1 hi
          rcases mem_upd hv' with h1 | ⟨u, hu, rfl⟩
          · rw [has_append]; exact .inr (H.wf _ b0 hb0 i (.inl (mem_refsL.2 ⟨v, h1, hi⟩)))
          · obtain ⟨y, hy, rfl⟩ := List.mem_map.1 hu
            dsimp only at hi
            rw [refs_ren] at hi
            obtain ⟨i', hi', rfl⟩ := List.mem_map.1 hi
            have hpy := mem_upsP hy
            rw [hplain _ (plainL_iff.1 k3 _ hpy)] at hi'
            refine hvhas i' ((has_any _ _).1 (List.all_eq_true.1 k4 i' ?_))
            rw [fillL_append, refsL_append, List.mem_append, fillL_map, fillL_map]
            exact .inr (mem_refsL.2 ⟨_, List.mem_map.2 ⟨_, hpy, rfl⟩, hi'⟩)
        · simp [Kd.refs] at hi
      · rw [if_neg e2] at hj
        rw [← hnew] at hj
        obtain ⟨i0, b0, rfl, rfl, hm⟩ := look_ren hj
        rw [List.mem_append] at hm
        rcases hm with hm | hm
        · obtain ⟨r, hr, hm⟩ := List.mem_flatMap.1 hm
          simp only [laidO, List.mem_cons, Prod.mk.injEq, List.not_mem_nil, or_false] at hm
          rcases hm with ⟨rfl, rfl⟩ | ⟨_, rfl⟩ | ⟨_, rfl⟩ | ⟨_, rfl⟩
          · rcases hi with hi | hi
            · simp [renB, renVL, refsL] at hi
            · rw [show (renB (c.ren m) (⟨r.2.1, [], .open_ (r.1 + 1) (r.1 + 2) (r.1 + 3) r.2.2.1 r.2.2.2⟩ : Blk)).k = renK (c.ren m) (.open_ (r.1 + 1) (r.1 + 2) (r.1 + 3) r.2.2.1 r.2.2.2) from rfl, refsK_ren] at hi
              obtain ⟨i', hi', rfl⟩ := List.mem_map.1 hi
              simp only [Kd.refs, List.mem_cons, List.not_mem_nil, or_false] at hi'
              rw [has_append, has_append]
              exact .inl (.inr ((hnewhas _).2 (.inl ⟨r, hr, i', .inr hi', rfl⟩)))
          · rcases hi with hi | hi <;> simp [renB, renVL, refsL, renK, Kd.refs] at hi
          · rcases hi with hi | hi <;> simp [renB, renVL, refsL, renK, Kd.refs] at hi
          · rcases hi with hi | hi <;> simp [renB, renVL, refsL, renK, Kd.refs] at hi
        · obtain ⟨_, h2, h3, _⟩ := goneH_mem hm
          dsimp only at h2 h3
          rcases hi with hi | hi
          · rw [show (renB (c.ren m) b0).cs = renVL (c.ren m) b0.cs from rfl, h2] at hi; simp [renVL, refsL] at hi
          · rw [show (renB (c.ren m) b0).k = renK (c.ren m) b0.k from rfl, refsK_ren, h3] at hi; simp at hi
    · rw [if_neg e1] at hj
      rw [has_append]
      exact .inr (H.wf j b hj i hi)
  · intro j hj
    have e : (c.out m slots bl dead).2.2 = m.nx + (bound4 c.top (c.fresh σ α slots bl) - c.top) := by
      unfold Con.out
      dsimp only
      rw [hσ, hfresh]
    rw [e]
    obtain ⟨b1, b2⟩ := bound4_ok c.top (c.fresh σ α slots bl)
    rw [has_append, has_append] at hj
    rcases hj with (⟨b, hj⟩ | hj) | hj
    · obtain ⟨x, hx, _, _, _, rfl, _⟩ := hchgm j b (lookB_mem hj)
      have := hρlt x.1 (hblk x hx); omega
    · rcases (hnewhas j).1 hj with ⟨r, hr, i, hi, rfl⟩ | ⟨r, hr, i, hi, rfl⟩
      · have h1 := hftop r hr
        have h2 := b2 r hr
        rw [hren2 i (by omega)]
        omega
      · have h1 := hrow r (hgone r hr) i hi
        rw [hren1 i h1]
        have := hρlt i h1; omega
    · have := fit.mi.fr j hj; omega
  · intro j hj
    have e : (c.out m slots bl dead).1.map (·.2) = (slots.map (·.2)).map fun p => renV (c.ren m) (fill σ noα p) := by
      unfold Con.out
      dsimp only
      rw [hσ, List.map_map, List.map_map]
      rfl
    rw [e] at hj
    obtain ⟨v, hv', hj⟩ := mem_refsL.1 hj
    obtain ⟨q, hq, rfl⟩ := List.mem_map.1 hv'
    rw [refs_ren] at hj
    obtain ⟨i, hi, rfl⟩ := List.mem_map.1 hj
    rw [hplain _ (plainL_iff.1 k2 _ hq)] at hi
    refine hvhas i ((has_any _ _).1 (List.all_eq_true.1 k4 i ?_))
    rw [fillL_append, refsL_append, List.mem_append, fillL_map, fillL_map]
    exact .inl (mem_refsL.2 ⟨_, List.mem_map.2 ⟨_, hq, rfl⟩, hi⟩)
  · have e : (c.out m slots bl dead).1.map (·.2) = (slots.map (·.2)).map fun p => renV (c.ren m) (fill σ noα p) := by
      unfold Con.out
      dsimp only
      rw [hσ, List.map_map, List.map_map]
      rfl
    have hl2 : vals.length = (slots.map (·.2)).length := by rw [List.length_map]; exact hlen
    obtain ⟨s1, _⟩ := matL_split _ _ _ _ hl2 fit2.ps
    have s2 := matL_den _ _ s1
    rw [show denL βc vals = denL β2 vals from (denL_congr βc β2 _ fun i hi => ext2.β i (hvals i hi)).symm, s2, e]
    clear e s2 s1 hl2
    rw [fillL_append] at k4
    generalize slots.map (·.2) = sl at *
    rw [fillL_map, denL_map, denL_map, List.map_map, List.map_map]
    refine List.map_congr_left fun q hq => ?_
    simp only [Function.comp_apply]
    rw [hdenp _ (plainL_iff.1 k2 _ hq), ground_fill (σ := m2.dt) (σ' := σ) (α := adt β2 m2) (α' := α) q (ground_of_plain _ (plainL_iff.1 k2 _ hq))]
    refine den_congr _ _ _ fun i hi => ?_
    have hvi : has hv i := (has_any _ _).1 (List.all_eq_true.1 k4 i (by
      rw [refsL_append, List.mem_append, fillL_map, fillL_map]
      exact .inl (mem_refsL.2 ⟨_, List.mem_map.2 ⟨_, hq, rfl⟩, hi⟩)))
    have hfi : has hf i := by rw [← hhf, has_append]; exact .inl hvi
    simp only [Function.comp_apply]
    rw [hβ5 i hfi, hβo2 i hvi]
end
end Go.Proofs.YtfjldllegmfooaaDoor.X
end

section
/- Contracts of functions that see memory: shown once, used at every call. No condition. -/
namespace Go.Proofs.YtfjldllegmfooaaDoor.X
open Go.RowKit

section
variable {P : Program} {F : Nat → Prop} {w0 : World} {rom rom' : RomP}

theorem bind_h {m m' : M} {j j' : Nat} (h : m.bindρ j j' = some m') : m'.h = m.h ∧ m'.nx = m.nx := (bindρ_ok h (fun _ => 0)).2.2

theorem asRow_nx {h : Hp} {nx : Nat} {ty : TypeId} {ks : List PK} {v : V} {r : RowAt} (hr : asRow h nx ty ks v = some r) : nx ≤ r.nx := by
  unfold asRow at hr
  split at hr
  · simp only [Option.bind_eq_some_iff] at hr
    obtain ⟨_, _, hr⟩ := hr
    split at hr
    · have := (bif_some' hr).2; simp only [Option.some.injEq] at this; subst this; exact Nat.le_refl _
    · cases hr
  · have := (bif_some' hr).2; simp only [Option.some.injEq] at this; subst this; show nx ≤ nx + 4; omega
  · simp only [Option.bind_eq_some_iff] at hr
    obtain ⟨_, _, hr⟩ := hr
    split at hr
    · have := (bif_some' hr).2
      simp only [Option.bind_eq_some_iff, Option.some.injEq] at this
      obtain ⟨_, _, rfl⟩ := this; show nx ≤ nx + 4; omega
    · cases hr
  · simp only [Option.bind_eq_some_iff] at hr
    obtain ⟨_, _, hr⟩ := hr
    split at hr
    · have := (bif_some' hr).2
      simp only [Option.bind_eq_some_iff, Option.some.injEq] at this
      obtain ⟨_, _, rfl⟩ := this; show nx ≤ nx + 4; omega
    · cases hr
  · cases hr

def Grows (m m' : M) : Prop := (∃ d, m'.h = d ++ m.h) ∧ m.nx ≤ m'.nx
theorem Grows.refl {m m' : M} (h : m'.h = m.h) (n : m'.nx = m.nx) : Grows m m' := ⟨⟨[], h⟩, by rw [n]; exact Nat.le_refl _⟩
theorem Grows.trans {m m' m'' : M} (h : Grows m m') (k : Grows m' m'') : Grows m m'' := by
  obtain ⟨⟨d, h1⟩, h2⟩ := h
  obtain ⟨⟨d', k1⟩, k2⟩ := k
  exact ⟨⟨d' ++ d, by rw [k1, h1, List.append_assoc]⟩, Nat.le_trans h2 k2⟩

mutual
theorem mt_grows : ∀ (pt : Pt) (v : V) (m m' : M), mt rom pt v m = some m' → Grows m m'
  | .i k n, v, m, m', h => by
    simp only [mt] at h
    split at h
    · split at h
      · exact .refl (bindD_ok h (fun _ => 0)).2.2.1 (bindD_ok h (fun _ => 0)).2.2.2
      · cases h
    · cases h
  | .b n, v, m, m', h => by
    simp only [mt] at h
    split at h
    · exact .refl (bindD_ok h (fun _ => 0)).2.2.1 (bindD_ok h (fun _ => 0)).2.2.2
    · cases h
  | .s n, v, m, m', h => by
    simp only [mt] at h
    split at h
    · exact .refl (bindD_ok h (fun _ => 0)).2.2.1 (bindD_ok h (fun _ => 0)).2.2.2
    · cases h
  | .c x, v, m, m', h => by
    simp only [mt, Option.bind_eq_some_iff] at h
    obtain ⟨y, _, h⟩ := h
    cases hc : isC v with
    | true =>
      rw [hc] at h
      simp only [cond_true] at h
      have := (bif_some' h).2
      simp only [Option.some.injEq] at this
      subst this
      exact .refl rfl rfl
    | false =>
      rw [hc] at h
      simp only [cond_false, Option.some.injEq] at h
      subst h
      exact .refl rfl rfl
  | .gi k x, v, m, m', h => by
    simp only [mt] at h
    split at h
    · split at h
      · simp only [Option.some.injEq] at h; subst h; exact .refl rfl rfl
      · cases h
    · cases h
  | .gb x, v, m, m', h => by
    simp only [mt] at h
    split at h
    · simp only [Option.some.injEq] at h; subst h; exact .refl rfl rfl
    · cases h
  | .gs x, v, m, m', h => by
    simp only [mt] at h
    split at h
    · simp only [Option.some.injEq] at h; subst h; exact .refl rfl rfl
    · cases h
  | .p j o, v, m, m', h => by
    simp only [mt] at h
    split at h
    · have := bind_h (bif_some' h).2; exact .refl this.1 this.2
    · cases h
  | .r j ty ks, v, m, m', h => by
    simp only [mt, Option.bind_eq_some_iff, Option.some.injEq] at h
    obtain ⟨r, hr, m1, h1, m2, h2, rfl⟩ := h
    obtain ⟨a1, a2, _⟩ := row_ok h1
    obtain ⟨_, _, b3, b4⟩ := bindR_ok h2 (fun _ => 0)
    exact ⟨⟨r.d, by show m2.h = _; rw [b3, a1]⟩, by show m.nx ≤ m2.nx; rw [b4, a2]; exact asRow_nx hr⟩
  | .gr j ty ks xs, v, m, m', h => by
    simp only [mt, Option.bind_eq_some_iff, Option.some.injEq] at h
    obtain ⟨r, hr, m1, h1, rfl⟩ := h
    obtain ⟨a1, a2, _⟩ := row_ok h1
    exact ⟨⟨r.d, a1⟩, by show m.nx ≤ m1.nx; rw [a2]; exact asRow_nx hr⟩
  | .k j n, v, m, m', h => by
    simp only [mt] at h
    split at h
    · simp only [Option.bind_eq_some_iff, Option.some.injEq] at h
      obtain ⟨m1, h1, m2, h2, m3, h3, m4, h4, rfl⟩ := h
      obtain ⟨a1, a2⟩ := bind_h h1
      obtain ⟨b1, b2⟩ := bind_h h2
      obtain ⟨c1, c2⟩ := bind_h h3
      obtain ⟨d1, d2⟩ := bind_h h4
      exact .refl (by show m4.h = _; rw [d1, c1, b1, a1]) (by show m4.nx = _; rw [d2, c2, b2, a2])
    · cases h
  | .x j ty ks, v, m, m', h => by
    simp only [mt] at h
    split at h
    · obtain ⟨_, h'⟩ := bif_some' h
      simp only [Option.bind_eq_some_iff, Option.some.injEq] at h'
      obtain ⟨m1, h1, m2, h2, rfl⟩ := h'
      obtain ⟨_, _, a3, a4⟩ := bindR_ok h1 (fun _ => 0)
      obtain ⟨_, _, b3, b4⟩ := bindL_ok h2 (fun _ => 0)
      exact .refl (by show m2.h = _; rw [b3, a3]) (by show m2.nx = _; rw [b4, a4])
    · simp only [Option.bind_eq_some_iff, Option.some.injEq] at h
      obtain ⟨r, hr, m1, h1, m2, h2, rfl⟩ := h
      obtain ⟨_, _, a3, a4⟩ := bindR_ok h1 (fun _ => 0)
      obtain ⟨_, _, b3, b4⟩ := bindL_ok h2 (fun _ => 0)
      exact ⟨⟨r.d, by show r.d ++ m2.h = _; rw [b3, a3]⟩, asRow_nx hr⟩
  | .gx nn ad n cap ks xs, v, m, m', h => by
    simp only [mt] at h
    split at h
    · have h' := (bif_some' h).2
      simp only [Option.some.injEq] at h'
      subst h'
      exact .refl rfl rfl
    · cases h
  | .f g xs ys, v, m, m', h => by
    simp only [mt] at h
    split at h
    · have h' := (bif_some' h).2
      simp only [Option.bind_eq_some_iff] at h'
      obtain ⟨m1, h1, h2⟩ := h'
      exact (mtL_grows xs _ m m1 h1).trans (mtL_grows ys _ m1 m' h2)
    · cases h
  | .a xs, v, m, m', h => by
    simp only [mt] at h
    have h' := (bif_some' h).2
    simp only [Option.bind_eq_some_iff] at h'
    obtain ⟨cs, _, h'⟩ := h'
    exact mtL_grows xs cs m m' h'
  | .t xs, v, m, m', h => by
    simp only [mt, Option.bind_eq_some_iff] at h
    obtain ⟨cs, _, h⟩ := h
    exact mtL_grows xs cs m m' h
theorem mtL_grows : ∀ (ps : List Pt) (vs : List V) (m m' : M), mtL rom ps vs m = some m' → Grows m m'
  | [], [], m, m', h => by simp only [mtL, Option.some.injEq] at h; subst h; exact .refl rfl rfl
  | [], _ :: _, m, m', h => by simp [mtL] at h
  | _ :: _, [], m, m', h => by simp [mtL] at h
  | p :: ps, v :: vs, m, m', h => by
    simp only [mtL, Option.bind_eq_some_iff] at h
    obtain ⟨m1, h1, h2⟩ := h
    exact (mt_grows p v m m1 h1).trans (mtL_grows ps vs m1 m' h2)
end
theorem mtH_grows : ∀ (bl : Bls) (m m' : M), mtH rom bl m = some m' → Grows m m'
  | [], m, m', h => by simp only [mtH, Option.some.injEq] at h; subst h; exact .refl rfl rfl
  | (j, ty, ps) :: l, m, m', h => by
    simp only [mtH, Option.bind_eq_some_iff] at h
    obtain ⟨j', h1, b, h2, h⟩ := h
    split at h
    · have h' := (bif_some' h).2
      simp only [Option.bind_eq_some_iff] at h'
      obtain ⟨m2, h3, h4⟩ := h'
      exact (mtL_grows _ _ _ _ h3).trans (mtH_grows l m2 m' h4)
    · cases h
theorem view_grows {ps : List Pt} {bl : Bls} {vs : List V} {h : Hp} {nx : Nat} {ρ : List (Nat × Nat)} {m : M} (hv : view rom ps bl vs h nx ρ = some m) : (∃ d, m.h = d ++ h) ∧ nx ≤ m.nx := by
  unfold view at hv
  simp only [Option.bind_eq_some_iff] at hv
  obtain ⟨m1, h1, m2, h2, hv⟩ := hv
  have := (bif_some' hv).2
  simp only [Option.some.injEq] at this
  subst this
  exact (mtL_grows _ _ _ _ h1).trans (mtH_grows _ _ _ h2)

mutual
theorem refs_fillα (σ : Dt) (α α' : At') : ∀ p : Pt, refs (fill σ α p) = refs (fill σ α' p)
  | .c _ => rfl
  | .gi _ _ => rfl
  | .gb _ => rfl
  | .gs _ => rfl
  | .p _ _ => rfl
  | .gr _ _ _ _ => rfl
  | .k _ _ => rfl
  | .gx _ _ _ _ _ _ => rfl
  | .i _ _ => rfl
  | .b _ => rfl
  | .s _ => rfl
  | .r _ _ _ => rfl
  | .x _ _ _ => rfl
  | .f _ xs ys => by simp only [fill, refs, refsL_fillα σ α α' xs, refsL_fillα σ α α' ys]
  | .a xs => by simp only [fill, refs, refsL_fillα σ α α' xs]
  | .t xs => by simp only [fill, refs, refsL_fillα σ α α' xs]
theorem refsL_fillα (σ : Dt) (α α' : At') : ∀ ps : List Pt, refsL (fillL σ α ps) = refsL (fillL σ α' ps)
  | [] => rfl
  | p :: ps => by simp only [fillL, refsL, refs_fillα σ α α' p, refsL_fillα σ α α' ps]
end
theorem keys_α (σ : Dt) (α α' : At') (ps : List Pt) (bl : Bls) : keysOf (viewH σ α ps bl) = keysOf (viewH σ α' ps bl) := by
  unfold viewH keysOf
  rw [List.map_append, List.map_append, List.map_map, List.map_map]
  rfl
theorem wf_α {c : Con} {σ : Dt} (h : c.wf σ = true) (α : At') : viewWf σ α c.ps c.bl = true ∧ ∀ j, has (viewH σ α c.ps c.bl) j → j < c.top := by
  unfold Con.wf at h
  rw [Bool.and_eq_true] at h
  refine ⟨?_, fun j hj => ?_⟩
  · unfold viewWf at h ⊢
    rw [keys_α σ α noα, refsL_fillα σ α noα]
    exact h.1
  · rw [has_iff, keys_α σ α noα] at hj
    exact Nat.le_of_ble_eq_true (List.all_eq_true.1 h.2 j hj)

/-- The leaf of a tree of ways out that is taken. -/
theorem exEq_self (e : Ex) : exEq e e = true := by cases e <;> simp [exEq]
theorem Con.pick {c : Con} {m : M} {σ : Dt} {α : At'} {vs : List (Nat × Pt) → List V} {e : Ex} {s : St} {K : Ex → St → Prop} : ∀ (po : Po), c.fits rom σ α vs e s po → (c.instT m po).sat K →
    ∃ slots bl dead, c.fits rom σ α vs e s (.leaf e slots bl dead) ∧ K e ⟨one0 (c.out m slots bl dead).1, 1, (c.out m slots bl dead).2.1 ++ m.h, (c.out m slots bl dead).2.2⟩
  | .leaf e' slots bl dead, hf, hk => by
    obtain ⟨rfl, h2, h3⟩ := hf
    exact ⟨slots, bl, dead, ⟨rfl, h2, h3⟩, hk⟩
  | .ite b x y, hf, hk => by
    cases b with
    | true => exact Con.pick x (hf.1 rfl) (hk.1 rfl)
    | false => exact Con.pick y (hf.2 rfl) (hk.2 rfl)

theorem HR.rebase {β : Nat → Nat} {h : Hp} {w : World} (H : HR F w0 β h w) : HR (Handed β h) w β h w := H.frame (fun _ _ h => h) H.wf

theorem instT_all {c : Con} {m : M} {A : Ex → St → Prop} (h : ∀ e slots bl dead, A e ⟨one0 (c.out m slots bl dead).1, 1, (c.out m slots bl dead).2.1 ++ m.h, (c.out m slots bl dead).2.2⟩) : ∀ po : Po, (c.instT m po).all A
  | .leaf e slots bl dead => h e slots bl dead
  | .ite _ x y => ⟨instT_all h x, instT_all h y⟩

/-- A contract that was shown holds at every call. -/
theorem con_call (c : Con) {φ : RomP → Specs} (hφ : ∀ rom, Good P (φ rom)) (hrm : ∀ rom, (φ rom).rom = rom) {g : FuncId} {fn : Func} (hf : P.funcs[g]? = some fn) (n : Nat) (hgoal : ∀ σ α, c.pre σ → c.goal P φ n fn σ α)
    (rom : RomP) (as : List V) (h : Hp) (nx : Nat) (t : T) (ht : c.call rom as h nx = some t) : CallOk P rom g as h nx t := by
  unfold Con.call at ht
  simp only [Option.bind_eq_some_iff] at ht
  obtain ⟨m, hm, ht⟩ := ht
  obtain ⟨hwf, ht⟩ := bif_some' ht
  simp only [Option.some.injEq] at ht
  subst ht
  obtain ⟨⟨d0, hd0⟩, hnx⟩ := view_grows hm
  refine ⟨instT_all (fun e slots bl dead => ⟨⟨(c.out m slots bl dead).2.1 ++ d0, by show _ ++ m.h = _; rw [hd0, List.append_assoc]⟩, by show nx ≤ m.nx + (_ - _); omega⟩) _, ?_⟩
  · intro F w0 β w K hrom H hrefs hfr hsat
    obtain ⟨⟨hp, hpre⟩, hsat⟩ := hsat
    obtain ⟨β1, fit, ext⟩ := view_ok hm hp H hfr hrefs
    obtain ⟨hwf1, htop⟩ := wf_α hwf (adt β1 m)
    have hg := hgoal m.dt (adt β1 m) hpre
    unfold Con.goal run1 at hg
    cases hb : fn.body with
    | none => rw [hb] at hg; exact hg.elim
    | some cd =>
    rw [hb] at hg
    dsimp only at hg
    have HC := (fit.hr hwf1).rebase
    have hromc := fit.romOk hrom
    have hcl := (viewWf_ok hwf1).2
    have hre := enter_ok (β := β1 ∘ m.ρf) (h := viewH m.dt (adt β1 m) c.ps c.bl) (fillL m.dt (adt β1 m) c.ps) (fun j hj => hcl j (refs_fill_all.1 j hj)) fn.ntmps c.top htop
    have hden : denL (β1 ∘ m.ρf) (fillL m.dt (adt β1 m) c.ps) = denL β as := by
      rw [← matL_den _ _ fit.ps]
      exact denL_congr β β1 _ fun j hj => ext.β j (hrefs j hj)
    rw [hden] at hre
    refine calls_of_wp hf hb ?_
    refine X_ok (hφ _) (by rw [hrm]; exact hromc) n (.fold cd (needOf fn)) _ _ (inP_body hf hb _) hg (β1 ∘ m.ρf) _ w _ HC hre ?_
    intro e s' βc a' w' hK hat
    obtain ⟨he, hK⟩ := hK
    split at hK
    · rename_i z hz
      obtain ⟨hrun, hrz⟩ := res_ok hat.hr hat.re hz
      obtain ⟨slots, bl, dead, hfit, hkk⟩ := Con.pick _ hK hsat
      obtain ⟨_, hok, hfit⟩ := hfit
      rw [exEq_self, cond_true] at hfit
      rw [Bool.and_eq_true] at hok
      obtain ⟨hlen, hok⟩ := hok
      have hlen := Nat.eq_of_beq_eq_true hlen
      split at hfit
      · rename_i m2 hm2
        obtain ⟨β5, p1, p2, p3, p4, p5⟩ := post_ok c fit hwf1 htop hat.hr (fun j hj => hat.ext j (stay_has j hj)) (fun j hj => hat.mono j (stay_has j hj)) hat.re.fresh (vals := [z]) (by simpa [refsL] using hrz) hlen hok hm2 hfit
        have hlook : ∃ v, look (one0 (c.out m slots bl dead).1) 0 = v ∧ (c.out m slots bl dead).1.map (·.2) = [v] := by
          have hl1 : (c.out m slots bl dead).1.length = 1 := by unfold Con.out; simp only [List.length_map]; exact hlen.symm
          obtain ⟨x, hx⟩ := List.length_eq_one_iff.1 hl1
          rw [hx]
          obtain ⟨k, v⟩ := x
          exact ⟨v, by simp [one0, look], rfl⟩
        obtain ⟨v, hv1, hv2⟩ := hlook
        rw [hv2] at p4 p5
        have fin : bodyPost P fn (fun e w' => ∃ ex s' β', K ex s' ∧ Ret F w0 β h s' β' e w') .normal a' w' := by
          refine ⟨hat.re.defers, _, hrun, .ret, _, β5, hkk, ⟨_, rfl, fun _ => ?_⟩, p1, fun j hj => ?_, fun j hj => ?_, fun j hj => ?_, p3⟩
          · dsimp only; rw [hv1]
            simp only [denL, List.cons.injEq, and_true] at p5
            exact p5.symm
          · rw [p2 j (ext.h j hj), ext.β j hj]
          · rw [has_append]; exact .inr (ext.h j hj)
          · dsimp only at hj
            rw [hv1] at hj
            exact p4 j (by simpa [refsL] using hj)
        cases e with
        | normal => exact fin
        | ret => exact fin
        | exit i => exact he.elim
      · exact hfit.elim
    · exact hK.elim
end
end Go.Proofs.YtfjldllegmfooaaDoor.X
end

section
/- Contracts of loops: one round shown, the loop follows. No condition. -/
namespace Go.Proofs.YtfjldllegmfooaaDoor.X
open Go.RowKit

section
variable {P : Program} {F : Nat → Prop} {w0 : World} {rom rom' : RomP}

theorem mt_ne {pt : Pt} {v : V} {m m' : M} (h : mt rom pt v m = some m') : v ≠ .u := by
  rintro rfl
  cases pt <;> simp [mt, val, asRow, target, isAg, tupleC] at h
theorem mtL_ne : ∀ {ps : List Pt} {vs : List V} {m m' : M}, mtL rom ps vs m = some m' → ∀ v ∈ vs, v ≠ .u
  | [], [], _, _, _, v, hv => by cases hv
  | [], _ :: _, _, _, h, _, _ => by simp [mtL] at h
  | _ :: _, [], _, _, h, _, _ => by simp [mtL] at h
  | p :: ps, x :: vs, m, m', h, v, hv => by
    simp only [mtL, Option.bind_eq_some_iff] at h
    obtain ⟨m1, h1, h2⟩ := h
    rcases List.mem_cons.1 hv with rfl | hv
    · exact mt_ne h1
    · exact mtL_ne h2 v hv
theorem view_ne {ps : List Pt} {bl : Bls} {vs : List V} {h : Hp} {nx : Nat} {ρ : List (Nat × Nat)} {m : M} (hv : view rom ps bl vs h nx ρ = some m) : ∀ v ∈ vs, v ≠ .u := by
  unfold view at hv
  simp only [Option.bind_eq_some_iff] at hv
  obtain ⟨m1, h1, _⟩ := hv
  exact mtL_ne h1

theorem look_append (a b : List (Nat × V)) (t : Nat) : look (a ++ b) t = if t ∈ a.map (·.1) then look a t else look b t := by
  induction a with
  | nil => simp
  | cons x a ih =>
    obtain ⟨k, v⟩ := x
    show (bif Nat.beq k t then v else look (a ++ b) t) = if t ∈ k :: a.map (·.1) then (bif Nat.beq k t then v else look a t) else look b t
    by_cases e : k = t
    · subst e; rw [if_pos List.mem_cons_self, show Nat.beq k k = true by simp]; rfl
    · rw [beq_ne e]
      show look (a ++ b) t = if t ∈ k :: a.map (·.1) then look a t else look b t
      rw [ih]
      by_cases h : t ∈ a.map (·.1)
      · rw [if_pos h, if_pos (List.mem_cons_of_mem _ h)]
      · rw [if_neg h, if_neg (fun hh => by rcases List.mem_cons.1 hh with h2 | h2; exact e h2.symm; exact h h2)]
theorem look_rest (rest : Nat → Value) (hv : List Nat) : ∀ (n t : Nat), look (restS rest hv n) t = if t < n then (bif hv.any (Nat.beq t) then .u else .v (rest t)) else .u
  | 0, t => by simp [restS, look]
  | n + 1, t => by
    simp only [restS, look]
    by_cases e : n = t
    · subst e; simp
    · rw [beq_ne e]
      simp only [cond_false]
      rw [look_rest rest hv n t]
      by_cases h : t < n
      · rw [if_pos h, if_pos (by omega)]
      · rw [if_neg h, if_neg (by omega)]
theorem zipS_mem : ∀ {ts : List Nat} {vs : List V} {t : Nat}, t ∈ (zipS ts vs).map (·.1) → t ∈ ts
  | [], _, t, h => by simp [zipS] at h
  | _ :: _, [], t, h => by simp [zipS] at h
  | x :: ts, v :: vs, t, h => by
    simp only [zipS, List.map_cons, List.mem_cons] at h
    rcases h with rfl | h
    · exact List.mem_cons_self
    · exact List.mem_cons_of_mem _ (zipS_mem h)
theorem zipS_of_mem : ∀ {ts : List Nat} {vs : List V} {t : Nat}, vs.length = ts.length → t ∈ ts → t ∈ (zipS ts vs).map (·.1)
  | [], _, t, _, h => by cases h
  | _ :: _, [], t, hl, h => by simp at hl
  | x :: ts, v :: vs, t, hl, h => by
    simp only [zipS, List.map_cons, List.mem_cons]
    rcases List.mem_cons.1 h with rfl | h
    · exact .inl rfl
    · exact .inr (zipS_of_mem (by simpa using hl) h)
theorem zip_look {β β' : Nat → Nat} (env : List (Nat × V)) : ∀ (ts : List Nat) (vs : List V) (t : Nat), vs.length = ts.length → denL β (ts.map (look env)) = denL β' vs → t ∈ ts → den β (look env t) = den β' (look (zipS ts vs) t)
  | [], _, t, _, _, h => by cases h
  | _ :: _, [], t, hl, _, _ => by simp at hl
  | x :: ts, v :: vs, t, hl, hd, h => by
    simp only [List.map_cons, denL, List.cons.injEq] at hd
    simp only [zipS, look]
    by_cases e : x = t
    · subst e
      rw [show Nat.beq x x = true by simp]
      exact hd.1
    · rw [beq_ne e]
      simp only [cond_false]
      exact zip_look env ts vs t (by simpa using hl) hd.2 ((List.mem_cons.1 h).resolve_left fun e2 => e e2.symm)
theorem zip_refs : ∀ (ts : List Nat) (vs : List V) (t j : Nat), j ∈ refs (look (zipS ts vs) t) → j ∈ refsL vs
  | [], _, t, j, h => by simp [zipS, look, refs] at h
  | _ :: _, [], t, j, h => by simp [zipS, look, refs] at h
  | x :: ts, v :: vs, t, j, h => by
    simp only [zipS, look] at h
    simp only [refsL, List.mem_append]
    cases hb : Nat.beq x t with
    | true => rw [hb] at h; exact .inl h
    | false => rw [hb] at h; exact .inr (zip_refs ts vs t j h)

theorem fillL_len (σ : Dt) (α : At') (ps : List Pt) : (fillL σ α ps).length = ps.length := by rw [fillL_map, List.length_map]

/-- The head's state, in the view's terms. -/
theorem st_ok (l : LCon) {vs : List V} {w : World} {β : Nat → Nat} {m : M} {env : List (Nat × V)} (hvs : vs = l.sl.map (look env)) (fit : Fit rom F w0 l.c.ps l.c.bl vs w β m) (hwf : l.c.wf m.dt = true) (hlen : l.sl.length = l.c.ps.length) (hlt : ∀ t ∈ l.sl, t < l.nt)
    {a : Act} (hd : a.defers = []) (hsz : a.tmps.size = l.nt) (hval : ∀ t ∈ l.sl, a.tmps.getD t undef = den β (look env t)) :
    RE (β ∘ m.ρf) (l.st m.dt (adt β m) (fun t => a.tmps.getD t undef)) a := by
  obtain ⟨hwf1, htop⟩ := wf_α hwf (adt β m)
  have hcl := (viewWf_ok hwf1).2
  have hl2 : (fillL m.dt (adt β m) l.c.ps).length = l.sl.length := by rw [fillL_len, hlen]
  have hlook : ∀ t, look (l.st m.dt (adt β m) (fun t => a.tmps.getD t undef)).env t = if t ∈ l.sl then look (zipS l.sl (fillL m.dt (adt β m) l.c.ps)) t else if t < l.nt then (bif l.hv.any (Nat.beq t) then .u else .v (a.tmps.getD t undef)) else .u := fun t => by
    unfold LCon.st
    dsimp only
    rw [look_append, look_rest]
    by_cases h : t ∈ l.sl
    · rw [if_pos (zipS_of_mem hl2 h), if_pos h]
    · rw [if_neg (fun hh => h (zipS_mem hh)), if_neg h]
  have hden := matL_den _ _ fit.ps
  rw [hvs] at hden
  refine ⟨hd, hsz, fun t ht => ?_, fun t j hj => ?_, fun j hj => htop j hj⟩
  · rw [hlook] at ht ⊢
    by_cases h : t ∈ l.sl
    · rw [if_pos h] at ht ⊢
      exact ⟨hlt t h, by rw [hval t h]; exact zip_look env _ _ t hl2 hden h⟩
    · rw [if_neg h] at ht ⊢
      by_cases h2 : t < l.nt
      · rw [if_pos h2] at ht ⊢
        cases hv : l.hv.any (Nat.beq t) with
        | true => rw [hv] at ht; exact absurd rfl ht
        | false => exact ⟨h2, rfl⟩
      · rw [if_neg h2] at ht; exact absurd rfl ht
  · rw [hlook] at hj
    by_cases h : t ∈ l.sl
    · rw [if_pos h] at hj
      exact hcl j (refs_fill_all.1 j (zip_refs _ _ t j hj))
    · rw [if_neg h] at hj
      by_cases h2 : t < l.nt
      · rw [if_pos h2] at hj; cases hv : l.hv.any (Nat.beq t) <;> rw [hv] at hj <;> simp [refs] at hj
      · rw [if_neg h2] at hj; simp [refs] at hj

theorem adt_w {β : Nat → Nat} {m : M} (h : m.L.all (fun x => isW x.2) = true) : adt β m = adw m := by
  have key : ∀ j v, find m.L j = some v → isW v = true := fun j v hv => List.all_eq_true.1 h _ (find_mem hv)
  unfold adt adw
  congr 1 <;> funext j <;> cases hf : find m.L j with
  | none => rfl
  | some v => have := key j v hf; cases v <;> first | rfl | cases this

theorem rom_w {ps : List Pt} {bl : Bls} {vs : List V} {w : World} {β : Nat → Nat} {m : M} (fit : Fit rom F w0 ps bl vs w β m) (hw : m.L.all (fun x => isW x.2) = true) (hrom : RomOk rom F w0) : RomOk (romOf m.dt (adw m) ps bl) F w0 := by
  refine ⟨?_, hrom.gls, hrom.glF⟩
  rintro nn ad ks xs ⟨x, hx, rfl, rfl, rfl, rfl⟩
  obtain ⟨v', y, h1, _, _, h4⟩ := fit.lents x hx
  rcases h4 with ⟨nn, ad, cap, rfl, h4⟩ | ⟨j', a', o', c', b, rfl, _, _⟩
  · have e1 : (adw m).nn x.1 = nn := by simp only [adw, h1]
    have e2 : (adw m).ad x.1 = ad := by simp only [adw, h1]
    rw [e1, e2]
    exact hrom.rows nn ad _ _ h4
  · have := List.all_eq_true.1 hw _ (find_mem h1)
    cases this

theorem take_new {e0 e1 ne : List (Nat × V)} (h : e1 = ne ++ e0) : e1.take (e1.length - e0.length) = ne := by
  rw [h, List.length_append, Nat.add_sub_cancel, List.take_left]

theorem T.sat_and {t : T} {A K : Ex → St → Prop} (h : t.all A) (k : t.sat K) : t.sat fun e s => A e s ∧ K e s := by
  induction t with
  | leaf e s => exact ⟨h, k⟩
  | ite b x y ih1 ih2 => exact ⟨fun hb => ih1 h.1 (k.1 hb), fun hb => ih2 h.2 (k.2 hb)⟩
  | req p x ih => exact ⟨k.1, ih h k.2⟩
  | fail => exact k

/-- What stands at the end of a loop. -/
structure Fin (l : LCon) (F : Nat → Prop) (w0 : World) (σ : Dt) (α : At') (rest : Nat → Value) (β : Nat → Nat) (e : Ex) (s' : St) (β' : Nat → Nat) (a' : Act) (w' : World) : Prop where
  fits : ∃ σ' α' rom', l.c.fits rom' σ' α' (fun slots => slots.map fun x => look s'.env x.1) e s' (l.c.post σ) ∧ l.still σ' α' = l.still σ α
  hr : HR F w0 β' s'.h w'
  re : RE β' s' a'
  stay : ∀ j ∈ l.fix σ, β' j = β j ∧ has s'.h j
  slots : ∀ t, t < l.nt → ¬ t ∈ l.sl → ¬ t ∈ l.hv → a'.tmps.getD t undef = rest t
  n : s'.n = l.nt

theorem loop_ind (l : LCon) {φ : RomP → Specs} (hφ : ∀ rom, Good P (φ rom)) (hrm : ∀ rom, (φ rom).rom = rom) {b : Code} (hb : ∀ b' ∈ loops b, b' ∈ allLoops P) (n : Nat) (hgoal : ∀ σ α rest, l.c.pre σ → l.goal P φ n b σ α rest) :
    ∀ (N : Nat) (σ : Dt) (α : At') (F : Nat → Prop) (w0 : World) (β : Nat → Nat) (a : Act) (w : World) (Q : Exit → Act → World → Prop), l.meas σ < N → l.c.pre σ → RomOk (romOf σ α l.c.ps l.c.bl) F w0 → l.c.wf σ = true → HR F w0 β (viewH σ α l.c.ps l.c.bl) w →
      RE β (l.st σ α (fun t => a.tmps.getD t undef)) a → (∀ e s' β' a' w', e ≠ .normal → Fin l F w0 σ α (fun t => a.tmps.getD t undef) β e s' β' a' w' → Q (ex e) a' w') → Code.rounds P b Q N a w := by
  intro N
  induction N with
  | zero => intro σ α F w0 β a w Q h; omega
  | succ N ih =>
    intro σ α F w0 β a w Q hN hpre hrom hwf H hr hQ
    rw [rounds_succ]
    obtain ⟨hchk, hg⟩ := hgoal σ α (fun t => a.tmps.getD t undef) hpre
    simp only [Bool.and_eq_true] at hchk
    obtain ⟨⟨hcov, hsl⟩, hln⟩ := hchk
    have hln := Nat.eq_of_beq_eq_true hln
    have hsl : ∀ t ∈ l.sl, t < l.nt := fun t ht => Nat.le_of_ble_eq_true (List.all_eq_true.1 hsl t ht)
    obtain ⟨hwf1, htop⟩ := wf_α hwf α
    have hkeep := X_keeps (hφ (romOf σ α l.c.ps l.c.bl)) n (.code b) (l.st σ α (fun t => a.tmps.getD t undef)) hb (Nat.le_refl _)
    have hfixh : ∀ j ∈ l.fix σ, has (viewH σ α l.c.ps l.c.bl) j := fun j hj => by
      unfold LCon.fix at hj
      rw [List.mem_append] at hj
      rcases hj with hj | hj
      · obtain ⟨x, hx, rfl⟩ := List.mem_map.1 hj
        rw [has_iff]; unfold viewH keysOf
        rw [List.map_append, List.mem_append, List.map_map]
        exact .inl (List.mem_map.2 ⟨x, hx, rfl⟩)
      · obtain ⟨r, hr', hj⟩ := List.mem_flatMap.1 hj
        simp only [four, List.mem_cons, List.not_mem_nil, or_false] at hj
        exact view_has (List.mem_filter.1 hr').1 hj
    refine X_ok (hφ _) (by rw [hrm]; exact hrom) n (.code b) _ _ hb (T.sat_and hkeep hg) β a w _ H hr ?_
    rintro e s1 β1 a1 w1 ⟨hk, hwr, hK⟩ hat
    -- slots that a round leaves alone
    have hslots : ∀ t, t < l.nt → ¬ t ∈ l.sl → ¬ t ∈ l.hv → a1.tmps.getD t undef = a.tmps.getD t undef := fun t h1 h2 h3 => by
      obtain ⟨ne, he⟩ := hk.env
      have he' : s1.env = ne ++ (l.st σ α (fun t => a.tmps.getD t undef)).env := by
        rw [he]
        congr 1
        show List.drop ((l.st σ α (fun t => a.tmps.getD t undef)).env.length - (l.st σ α (fun t => a.tmps.getD t undef)).env.length) _ = _
        rw [Nat.sub_self, List.drop_zero]
      unfold LCon.wrote at hwr
      rw [take_new he'] at hwr
      have hnm : ¬ t ∈ ne.map (·.1) := fun hh => by
        obtain ⟨x, hx, rfl⟩ := List.mem_map.1 hh
        have := List.all_eq_true.1 hwr x hx
        rw [Bool.or_eq_true] at this
        rcases this with h4 | h4
        · obtain ⟨y, hy, e⟩ := List.any_eq_true.1 h4; rw [Nat.eq_of_beq_eq_true e] at h3; exact h3 hy
        · obtain ⟨y, hy, e⟩ := List.any_eq_true.1 h4; rw [Nat.eq_of_beq_eq_true e] at h2; exact h2 hy
      have hl : look s1.env t = .v (a.tmps.getD t undef) := by
        rw [he', look_append, if_neg hnm]
        unfold LCon.st
        dsimp only
        rw [look_append, if_neg (fun hh => h2 (zipS_mem hh)), look_rest, if_pos h1, show l.hv.any (Nat.beq t) = false from by
          rw [List.any_eq_false]
          intro y hy e
          rw [Nat.eq_of_beq_eq_true e] at h3
          exact h3 hy]
        rfl
      exact (hat.re.val t (by rw [hl]; simp)).2.trans (by rw [hl]; rfl)
    have fin : e ≠ .normal → l.c.fits (romOf σ α l.c.ps l.c.bl) σ α (fun slots => slots.map fun x => look s1.env x.1) e s1 (l.c.post σ) → Q (ex e) a1 w1 := fun hne hfit =>
      hQ e s1 β1 a1 w1 hne ⟨⟨σ, α, _, hfit, rfl⟩, hat.hr, hat.re, fun j hj => ⟨hat.ext j (hfixh j hj), hat.mono j (hfixh j hj)⟩, hslots, hat.n⟩
    cases e with
    | ret => exact fin (by simp) hK
    | exit i => exact fin (by simp) hK
    | normal =>
      dsimp only at hK
      split at hK
      · rename_i m hm
        obtain ⟨hb3, hp, hpre', hme, hpost, hstill⟩ := hK
        simp only [Bool.and_eq_true] at hb3
        obtain ⟨⟨hst, hw⟩, hwf'⟩ := hb3
        obtain ⟨β2, fit, ext⟩ := view_ok hm hp hat.hr hat.re.fresh (fun j hj => by
          obtain ⟨v, hv, hj⟩ := mem_refsL.1 hj
          obtain ⟨t, _, rfl⟩ := List.mem_map.1 hv
          exact hat.re.wf t j hj)
        have hα := adt_w (β := β2) hw
        obtain ⟨hwf2, htop2⟩ := wf_α hwf' (adt β2 m)
        have hne := view_ne hm
        have hst' : ∀ j ∈ l.fix σ, m.ρf j = j := fun j hj => by
          have := List.all_eq_true.1 hst j hj
          split at this
          · rename_i i hi; rw [ρf_of hi]; exact Nat.eq_of_beq_eq_true this
          · cases this
        have hfix : l.fix m.dt = l.fix σ := by
          unfold LCon.fix
          have := congrArg Prod.snd hstill
          unfold LCon.still at this
          dsimp only at this
          rw [this]
        have hre := st_ok l rfl fit hwf' hln hsl hat.re.defers (by rw [hat.re.size]; exact hat.n) (fun t ht => by
          have hv := hne (look s1.env t) (List.mem_map.2 ⟨t, ht, rfl⟩)
          rw [(hat.re.val t hv).2]
          exact (den_congr β1 β2 _ fun j hj => ext.β j (hat.re.wf t j hj)).symm)
        have HH := fit.hr hwf2
        rw [hα] at hre HH
        refine ih m.dt (adw m) F w0 (β2 ∘ m.ρf) a1 w1 Q (by omega) hpre' (rom_w fit hw hrom) hwf' HH hre ?_
        intro e2 s2 β3 a3 w3 hne3 hfin
        refine hQ e2 s2 β3 a3 w3 hne3 ⟨?_, hfin.hr, hfin.re, fun j hj => ?_, fun t h1 h2 h3 => ?_, hfin.n⟩
        · obtain ⟨σ', α', r', f1, f2⟩ := hfin.fits
          rw [hpost] at f1
          exact ⟨σ', α', r', f1, f2.trans hstill⟩
        · obtain ⟨g1, g2⟩ := hfin.stay j (by rw [hfix]; exact hj)
          refine ⟨?_, g2⟩
          rw [g1]
          simp only [Function.comp_apply]
          rw [hst' j hj, ext.β j (hat.mono j (hfixh j hj)), hat.ext j (hfixh j hj)]
        · exact (hfin.slots t h1 h2 h3).trans (hslots t h1 h2 h3)
      · exact hK.elim

/-! ### what does not turn -/
theorem keepP_get : ∀ (l l' : List Pt) (i : Nat) (is : List Nat), l.length = l'.length → keepP i l is = keepP i l' is → ∀ j, l[j]? = l'[j]? ∨ (i + j) ∈ is
  | [], [], _, _, _, _, j => .inl rfl
  | [], _ :: _, _, _, h, _, _ => by simp at h
  | _ :: _, [], _, _, h, _, _ => by simp at h
  | p :: l, p' :: l', i, is, hl, he, j => by
    simp only [keepP] at he
    have hl' : l.length = l'.length := by simpa using hl
    cases hb : is.any (Nat.beq i) with
    | true =>
      rw [hb] at he
      simp only [cond_true] at he
      cases j with
      | zero =>
        obtain ⟨x, hx, e⟩ := List.any_eq_true.1 hb
        rw [Nat.add_zero, Nat.eq_of_beq_eq_true e]; exact .inr hx
      | succ j =>
        rcases keepP_get l l' (i + 1) is hl' he j with h | h
        · exact .inl h
        · exact .inr (by rw [show i + (j + 1) = i + 1 + j by omega]; exact h)
    | false =>
      rw [hb] at he
      simp only [cond_false, List.cons.injEq] at he
      cases j with
      | zero => exact .inl (by simp [he.1])
      | succ j =>
        rcases keepP_get l l' (i + 1) is hl' he.2 j with h | h
        · exact .inl h
        · exact .inr (by rw [show i + (j + 1) = i + 1 + j by omega]; exact h)

theorem upd_cover {α : Type} : ∀ (us : List (Nat × α)) (l l' : List α), l.length = l'.length → (∀ j, l[j]? = l'[j]? ∨ j ∈ us.map (·.1)) → upd l us = upd l' us
  | [], l, l', _, h => by
    simp only [upd]
    apply List.ext_getElem?
    intro j
    exact (h j).resolve_right (by simp)
  | (i, x) :: us, l, l', hl, h => by
    simp only [upd]
    refine upd_cover us _ _ (by simp [hl]) fun j => ?_
    by_cases e : i = j
    · subst e
      rw [List.getElem?_set, List.getElem?_set]
      simp [hl]
    · rw [List.getElem?_set_ne e, List.getElem?_set_ne e]
      rcases h j with h | h
      · exact .inl h
      · simp only [List.map_cons, List.mem_cons] at h
        exact .inr (h.resolve_left fun h => e h.symm)

theorem instL_len (σ : Dt) (α : At') (ps : List Pt) : (instL σ α ps).length = ps.length := by
  induction ps with
  | nil => rfl
  | cons p ps ih => simp only [instL, List.length_cons, ih]

theorem still_out {l : LCon} {σ σ' : Dt} {α α' : At'} (h : l.still σ' α' = l.still σ α) {e : Ex} {slots : List (Nat × Pt)} {bl : Ups} {dead : List Nat} (hc : l.covers (.leaf e slots bl dead) = true) :
    l.c.kept σ' dead = l.c.kept σ dead ∧ l.c.blOut σ' α' bl = l.c.blOut σ α bl := by
  simp only [LCon.covers, Bool.and_eq_true] at hc
  obtain ⟨⟨⟨h1, h2⟩, _⟩, _⟩ := hc
  unfold LCon.still at h
  injection h with e1 e2
  constructor
  · have key : ∀ σ, l.c.kept σ dead = (l.rows σ).filter fun r => !(dead.any (Nat.beq r.1)) := fun σ => by
      unfold Con.kept LCon.rows
      rw [List.filter_filter]
      refine List.filter_congr fun r _ => ?_
      cases hm : l.mvr.any (Nat.beq r.1) with
      | false => simp
      | true =>
        obtain ⟨x, hx, e⟩ := List.any_eq_true.1 hm
        have := List.all_eq_true.1 h1 x hx
        rw [Nat.eq_of_beq_eq_true e, this]
        rfl
    rw [key, key, e2]
  · unfold Con.blOut
    have : ∀ L : Bls, (∀ x ∈ L, ((movesOf l.mvc x.1).all fun i => (upsOf bl x.1).any fun u => Nat.beq i u.1) = true) → (L.map fun x => keepP 0 (instL σ' α' x.2.2) (movesOf l.mvc x.1)) = (L.map fun x => keepP 0 (instL σ α x.2.2) (movesOf l.mvc x.1)) →
        (L.map fun x => (x.1, x.2.1, upd (instL σ' α' x.2.2) (upsOf bl x.1))) = L.map fun x => (x.1, x.2.1, upd (instL σ α x.2.2) (upsOf bl x.1)) := by
      intro L
      induction L with
      | nil => intro _ _; rfl
      | cons x L ih =>
        intro hL he
        simp only [List.map_cons, List.cons.injEq] at he ⊢
        refine ⟨?_, ih (fun y hy => hL y (by simp [hy])) he.2⟩
        have hlen : (instL σ' α' x.2.2).length = (instL σ α x.2.2).length := by rw [instL_len, instL_len]
        rw [upd_cover (upsOf bl x.1) _ _ hlen fun j => by
          rcases keepP_get _ _ 0 _ hlen he.1 j with h | h
          · exact .inl h
          · rw [Nat.zero_add] at h
            obtain ⟨u, hu, e⟩ := List.any_eq_true.1 (List.all_eq_true.1 (hL x (by simp)) j h)
            exact .inr (List.mem_map.2 ⟨u, hu, (Nat.eq_of_beq_eq_true e).symm⟩)]
    exact this l.c.bl (fun x hx => List.all_eq_true.1 h2 x hx) e1

/-- The leaf of a loop's tree that is taken. -/
theorem LCon.pick {l : LCon} {m : M} {s : St} {σ : Dt} {α : At'} {vs : List (Nat × Pt) → List V} {e : Ex} {s1 : St} {K : Ex → St → Prop} : ∀ (po : Po), l.covers po = true → l.c.fits rom σ α vs e s1 po → (l.instT m s po).sat K →
    ∃ slots bl dead, l.covers (.leaf e slots bl dead) = true ∧ l.c.fits rom σ α vs e s1 (.leaf e slots bl dead) ∧ K e ⟨(l.c.out m slots bl dead).1 ++ (l.hv.map fun t => (t, .u)) ++ s.env, s.n, (l.c.out m slots bl dead).2.1 ++ m.h, (l.c.out m slots bl dead).2.2⟩
  | .leaf e' slots bl dead, hc, hf, hk => by
    obtain ⟨rfl, h2, h3⟩ := hf
    exact ⟨slots, bl, dead, hc, ⟨rfl, h2, h3⟩, hk⟩
  | .ite b x y, hc, hf, hk => by
    simp only [LCon.covers, Bool.and_eq_true] at hc
    cases b with
    | true => exact LCon.pick x hc.1 (hf.1 rfl) (hk.1 rfl)
    | false => exact LCon.pick y hc.2 (hf.2 rfl) (hk.2 rfl)

theorem instTL_all {l : LCon} {m : M} {s : St} {A : Ex → St → Prop} (h : ∀ e slots bl dead, A e ⟨(l.c.out m slots bl dead).1 ++ (l.hv.map fun t => (t, .u)) ++ s.env, s.n, (l.c.out m slots bl dead).2.1 ++ m.h, (l.c.out m slots bl dead).2.2⟩) : ∀ po : Po, (l.instT m s po).all A
  | .leaf e slots bl dead => h e slots bl dead
  | .ite _ x y => ⟨instTL_all h x, instTL_all h y⟩

theorem look_hv : ∀ (hv : List Nat) (t : Nat), look (hv.map fun t => (t, V.u)) t = .u
  | [], _ => rfl
  | x :: hv, t => by
    simp only [List.map_cons, look]
    cases Nat.beq x t with
    | true => rfl
    | false => exact look_hv hv t

theorem leafOk_same {c : Con} {σ σ' : Dt} {α α' : At'} {slots : List (Nat × Pt)} {bl : Ups} {dead : List Nat} (h : c.leafOk σ' α' slots bl dead = true) (hk : c.kept σ' dead = c.kept σ dead) (hb : c.blOut σ' α' bl = c.blOut σ α bl) (htop : ∀ j, has (viewH σ α c.ps c.bl) j → j < c.top) :
    c.leafOk σ α slots bl dead = true ∧ c.psOut σ' slots dead = c.psOut σ slots dead := by
  have e1 : c.psOut σ' slots dead = c.psOut σ slots dead := by unfold Con.psOut; rw [hk]
  refine ⟨?_, e1⟩
  simp only [Con.leafOk, Bool.and_eq_true] at h ⊢
  obtain ⟨⟨⟨⟨⟨h1, h2⟩, h3⟩, h4⟩, h5⟩, _⟩ := h
  rw [e1, hb] at h1 h4
  have hg := ground_out (c := c) (σ := σ) (α := α) (dead := dead) h2 h3
  obtain ⟨g1, g2, _⟩ := view_ground (σ := σ') (σ' := σ) (α := α') (α' := α) hg
  refine ⟨⟨⟨⟨⟨?_, h2⟩, h3⟩, ?_⟩, ?_⟩, ?_⟩
  · unfold viewWf at h1 ⊢; rw [← g1, ← g2]; simpa only [Bool.and_eq_true] using h1
  · rw [g1] at h4
    have hpl : groundL (slots.map (·.2) ++ upsP bl) = true := groundL_iff.2 fun p hp => by
      rcases List.mem_append.1 hp with hp | hp
      · exact ground_of_plain p (plainL_iff.1 h2 p hp)
      · exact ground_of_plain p (plainL_iff.1 h3 p hp)
    rw [groundL_fill (σ := σ) (σ' := σ') (α := α) (α' := α') _ hpl]
    exact h4
  · unfold Con.fresh at h5 ⊢
    rw [hb] at h5
    have hpl : groundL (allP (slots.map (·.2)) (c.blOut σ α bl)) = true := groundL_iff.2 fun p hp => by
      refine hg p ?_
      unfold allP at hp ⊢
      rw [List.mem_append] at hp ⊢
      exact hp.imp (fun h => by unfold Con.psOut; exact List.mem_append_left _ h) id
    rw [groundL_rws (σ := σ) (σ' := σ') _ hpl]
    exact h5
  · refine List.all_eq_true.2 fun j hj => Nat.ble_eq_true_of_le (htop j ((has_iff _ _).2 hj))

theorem slot_den {β β' : Nat → Nat} : ∀ (o : List (Nat × V)) (vals : List V) (t : Nat) (f : Nat → V), vals = o.map (fun x => f x.1) → denL β (o.map (·.2)) = denL β' vals → t ∈ o.map (·.1) → den β (look o t) = den β' (f t)
  | [], _, t, _, _, _, h => by simp at h
  | (k, v) :: o, vals, t, f, hv, hd, h => by
    subst hv
    simp only [List.map_cons, denL, List.cons.injEq] at hd
    simp only [look]
    by_cases e : k = t
    · subst e
      rw [show Nat.beq k k = true by simp]
      exact hd.1
    · rw [beq_ne e]
      simp only [List.map_cons, List.mem_cons] at h
      exact slot_den o _ t f rfl hd.2 (h.resolve_left fun h => e h.symm)
theorem slot_refs : ∀ (o : List (Nat × V)) (t j : Nat), j ∈ refs (look o t) → j ∈ refsL (o.map (·.2))
  | [], t, j, h => by simp [look, refs] at h
  | (k, v) :: o, t, j, h => by
    simp only [look] at h
    simp only [List.map_cons, refsL, List.mem_append]
    cases hb : Nat.beq k t with
    | true => rw [hb] at h; exact .inl h
    | false => rw [hb] at h; exact .inr (slot_refs o t j h)

/-- A loop's contract that was shown holds wherever the loop is reached. -/
theorem con_loop (l : LCon) {φ : RomP → Specs} (hφ : ∀ rom, Good P (φ rom)) (hrm : ∀ rom, (φ rom).rom = rom) {b : Code} (_hb : b ∈ allLoops P) (hb' : ∀ b' ∈ loops b, b' ∈ allLoops P) (n : Nat) (hgoal : ∀ σ α rest, l.c.pre σ → l.goal P φ n b σ α rest)
    (rom : RomP) (s : St) (t : T) (ht : l.loop rom s = some t) : LoopOk P rom b s t := by
  unfold LCon.loop at ht
  obtain ⟨hn, ht⟩ := bif_some' ht
  have hn := Nat.eq_of_beq_eq_true hn
  simp only [Option.bind_eq_some_iff] at ht
  obtain ⟨m, hm, ht⟩ := ht
  obtain ⟨hwf, ht⟩ := bif_some' ht
  simp only [Option.some.injEq] at ht
  subst ht
  obtain ⟨⟨d0, hd0⟩, hnx⟩ := view_grows hm
  refine ⟨instTL_all (fun e slots bl dead => ⟨⟨_, by rw [Nat.sub_self, List.drop_zero]⟩, ⟨(l.c.out m slots bl dead).2.1 ++ d0, by show _ ++ m.h = _; rw [hd0, List.append_assoc]⟩, by show s.nx ≤ m.nx + (_ - _); omega, rfl⟩) _, ?_⟩
  intro F w0 β a w K Q hrom H hr hsat hQ
  obtain ⟨⟨hp, hpre⟩, hsat⟩ := hsat
  obtain ⟨β1, fit, ext⟩ := view_ok hm hp H hr.fresh (fun j hj => by
    obtain ⟨v, hv, hj⟩ := mem_refsL.1 hj
    obtain ⟨t, _, rfl⟩ := List.mem_map.1 hv
    exact hr.wf t j hj)
  obtain ⟨hwf1, htop⟩ := wf_α hwf (adt β1 m)
  obtain ⟨hchk, _⟩ := hgoal m.dt (adt β1 m) (fun t => a.tmps.getD t undef) hpre
  simp only [Bool.and_eq_true] at hchk
  obtain ⟨⟨hcov, hsl⟩, hln⟩ := hchk
  have hln := Nat.eq_of_beq_eq_true hln
  have hsl : ∀ t ∈ l.sl, t < l.nt := fun t ht => Nat.le_of_ble_eq_true (List.all_eq_true.1 hsl t ht)
  have hne := view_ne hm
  have HC := (fit.hr hwf1).rebase
  have hre := st_ok l rfl fit hwf hln hsl hr.defers (by rw [hr.size, hn]) (fun t ht => by
    have hv := hne (look s.env t) (List.mem_map.2 ⟨t, ht, rfl⟩)
    rw [(hr.val t hv).2]
    exact (den_congr β β1 _ fun j hj => ext.β j (hr.wf t j hj)).symm)
  refine wp_loop_rounds (l.meas m.dt + 1) (loop_ind l hφ hrm hb' n hgoal _ m.dt (adt β1 m) _ w (β1 ∘ m.ρf) a w Q (Nat.lt_succ_self _) hpre (fit.romOk hrom) hwf HC hre ?_)
  intro e s1 βc a1 w1 _ hfin
  obtain ⟨σ', α', rom', hfit, hstill⟩ := hfin.fits
  obtain ⟨slots, bl, dead, hcl, hfl, hkk⟩ := LCon.pick _ hcov hfit hsat
  obtain ⟨_, hok, hfl⟩ := hfl
  rw [exEq_self, cond_true] at hfl
  rw [Bool.and_eq_true] at hok
  obtain ⟨hlen, hok⟩ := hok
  have hlen := Nat.eq_of_beq_eq_true hlen
  obtain ⟨o1, o2⟩ := still_out hstill hcl
  obtain ⟨hok, o3⟩ := leafOk_same hok o1 o2 htop
  have o4 : ∀ vs, l.c.vsOut σ' dead vs = l.c.vsOut m.dt dead vs := fun vs => by unfold Con.vsOut; rw [o1]
  have o5 : l.c.stay σ' dead = l.c.stay m.dt dead := by unfold Con.stay; rw [o1]
  rw [o2, o3, o4, o5] at hfl
  split at hfl
  · rename_i m2 hm2
    -- what the loop leaves of the keys
    have hcl2 := hcl
    simp only [LCon.covers, Bool.and_eq_true] at hcl2
    obtain ⟨⟨⟨v1, v2⟩, v3⟩, v4⟩ := hcl2
    have hstay : ∀ j ∈ l.c.stay m.dt dead, j ∈ l.fix m.dt := fun j hj => by
      unfold Con.stay at hj
      unfold LCon.fix
      rw [List.mem_append] at hj ⊢
      refine hj.imp id fun hj => ?_
      obtain ⟨r, hr', hj⟩ := List.mem_flatMap.1 hj
      obtain ⟨h1, h2⟩ := List.mem_filter.1 hr'
      refine List.mem_flatMap.2 ⟨r, List.mem_filter.2 ⟨h1, ?_⟩, hj⟩
      cases hm' : l.mvr.any (Nat.beq r.1) with
      | false => rfl
      | true =>
        obtain ⟨x, hx, e⟩ := List.any_eq_true.1 hm'
        have := List.all_eq_true.1 v1 x hx
        rw [Nat.eq_of_beq_eq_true e, this] at h2
        cases h2
    have hval : ∀ x ∈ slots, look s1.env x.1 ≠ .u := fun x hx => view_ne hm2 _ (by
      unfold Con.vsOut
      exact List.mem_append_left _ (List.mem_map.2 ⟨x, hx, rfl⟩))
    obtain ⟨β5, p1, p2, p3, p4, p5⟩ := post_ok l.c fit hwf1 htop hfin.hr (fun j hj => (hfin.stay j (hstay j hj)).1) (fun j hj => (hfin.stay j (hstay j hj)).2) hfin.re.fresh (vals := slots.map fun x => look s1.env x.1) (fun j hj => by
      obtain ⟨v, hv, hj⟩ := mem_refsL.1 hj
      obtain ⟨x, _, rfl⟩ := List.mem_map.1 hv
      exact hfin.re.wf x.1 j hj) hlen hok hm2 hfl
    have hkeys : (l.c.out m slots bl dead).1.map (·.1) = slots.map (·.1) := by unfold Con.out; dsimp only; rw [List.map_map]; rfl
    have hvals : (slots.map fun x => look s1.env x.1) = (l.c.out m slots bl dead).1.map (fun x => look s1.env x.1) := by
      unfold Con.out; dsimp only; rw [List.map_map]; rfl
    have hlook : ∀ t, look ((l.c.out m slots bl dead).1 ++ (l.hv.map fun t => (t, V.u)) ++ s.env) t = if t ∈ slots.map (·.1) then look (l.c.out m slots bl dead).1 t else if t ∈ l.hv then .u else look s.env t := fun t => by
      rw [List.append_assoc, look_append, look_append, hkeys, look_hv]
      have : (l.hv.map fun t => (t, V.u)).map (·.1) = l.hv := by rw [List.map_map]; exact List.map_id _
      rw [this]
    refine hQ e _ β5 a1 w1 hkk ⟨p1, ⟨hfin.re.defers, by show _ = s.n; rw [hfin.re.size, hfin.n, hn], fun t ht => ?_, fun t j hj => ?_, p3⟩, fun j hj => ?_, fun j hj => ?_, rfl⟩
    · dsimp only at ht ⊢
      rw [hlook] at ht ⊢
      by_cases h1 : t ∈ slots.map (·.1)
      · rw [if_pos h1] at ht ⊢
        obtain ⟨x, hx, rfl⟩ := List.mem_map.1 h1
        have hlt : x.1 < l.nt := Nat.le_of_ble_eq_true (List.all_eq_true.1 v4 x hx)
        refine ⟨by rw [hn]; exact hlt, ?_⟩
        rw [(hfin.re.val x.1 (hval x hx)).2]
        exact (slot_den _ _ x.1 (look s1.env) hvals p5 (by rw [hkeys]; exact h1)).symm
      · rw [if_neg h1] at ht ⊢
        by_cases h2 : t ∈ l.hv
        · rw [if_pos h2] at ht; exact absurd rfl ht
        · rw [if_neg h2] at ht ⊢
          obtain ⟨g1, g2⟩ := hr.val t ht
          refine ⟨g1, ?_⟩
          have h3 : ¬ t ∈ l.sl := fun h3 => by
            have := List.all_eq_true.1 v3 t h3
            rw [Bool.or_eq_true] at this
            rcases this with h4 | h4
            · obtain ⟨y, hy, e⟩ := List.any_eq_true.1 h4; rw [Nat.eq_of_beq_eq_true e] at h2; exact h2 hy
            · obtain ⟨y, hy, e⟩ := List.any_eq_true.1 h4; exact h1 (List.mem_map.2 ⟨y, hy, (Nat.eq_of_beq_eq_true e).symm⟩)
          rw [hfin.slots t (by rw [← hn]; exact g1) h3 h2, g2]
          refine (den_congr β β5 _ fun j hj => ?_).symm
          have := hr.wf t j hj
          rw [p2 j (ext.h j this), ext.β j this]
    · dsimp only at hj
      rw [hlook] at hj
      by_cases h1 : t ∈ slots.map (·.1)
      · rw [if_pos h1] at hj; exact p4 j (slot_refs _ t j hj)
      · rw [if_neg h1] at hj
        by_cases h2 : t ∈ l.hv
        · rw [if_pos h2] at hj; simp [refs] at hj
        · rw [if_neg h2] at hj
          rw [has_append]; exact .inr (ext.h j (hr.wf t j hj))
    · rw [p2 j (ext.h j hj), ext.β j hj]
    · rw [has_append]; exact .inr (ext.h j hj)
  · exact hfl.elim
end
end Go.Proofs.YtfjldllegmfooaaDoor.X
end

section
/- A shelf of contracts. No condition. -/
namespace Go.Proofs.YtfjldllegmfooaaDoor.X
open Go.RowKit

/-- Contracts, laid by: of functions that only compute, of functions that see memory, of loops. -/
structure Lib where
  fs : List (FuncId × (List Value → Option Value)) := []
  cs : List (FuncId × Con) := []
  ls : List (Nat × String × LCon) := []
  xs : List (FuncId × (RomP → List V → Hp → Nat → Option T)) := []

def mapC (rom : RomP) : List (FuncId × Con) → List (FuncId × (List V → Hp → Nat → Option T))
  | [] => []
  | (g, c) :: l => (g, c.call rom) :: mapC rom l
def mapL (rom : RomP) : List (Nat × String × LCon) → List (Nat × String × (St → Option T))
  | [] => []
  | (i, p, c) :: l => (i, p, c.loop rom) :: mapL rom l
def mapX (rom : RomP) : List (FuncId × (RomP → List V → Hp → Nat → Option T)) → List (FuncId × (List V → Hp → Nat → Option T))
  | [] => []
  | (g, r) :: l => (g, r rom) :: mapX rom l
def Lib.mk' (L : Lib) (rom : RomP) : Specs := ⟨L.fs, mapC rom L.cs ++ mapX rom L.xs, mapL rom L.ls, rom⟩

def Lib.Good (P : Program) (L : Lib) : Prop := ∀ rom, X.Good P (L.mk' rom)

section
variable {P : Program} {L : Lib}

theorem lib_nil : Lib.Good P {} := fun rom => ⟨fun g r h => by simp [Lib.mk', spec, find] at h, fun g r h => by simp [Lib.mk', cspec, mapC, mapX, find] at h, fun b r _ h => by simp [Lib.mk', lspec, mapL] at h⟩

theorem lib_fsg (hL : Lib.Good P L) {g : FuncId} {r : List Value → Option Value} (h : ∀ vs z, r vs = some z → ∀ w, GlW w → Calls P g vs.toArray w fun e w' => e = .returned z ∧ Below w.heap.size w w') : Lib.Good P { L with fs := (g, r) :: L.fs } := fun rom => by
  refine ⟨fun g' r' h' vs z hz w => ?_, (hL rom).cs, (hL rom).ls⟩
  simp only [Lib.mk', spec, find] at h'
  cases hb : Nat.beq g g' with
  | true =>
    rw [hb] at h'
    simp only [cond_true, Option.some.injEq] at h'
    subst h'
    rw [← Nat.eq_of_beq_eq_true hb]
    exact h vs z hz w
  | false => rw [hb] at h'; exact (hL rom).fs g' r' h' vs z hz w

theorem lib_fs (hL : Lib.Good P L) {g : FuncId} {r : List Value → Option Value} (h : ∀ vs z, r vs = some z → ∀ w, Calls P g vs.toArray w fun e w' => e = .returned z ∧ Below w.heap.size w w') : Lib.Good P { L with fs := (g, r) :: L.fs } :=
  lib_fsg hL fun vs z hz w _ => h vs z hz w
/-- A body hands back this value. -/
def hands (P : Program) (fn : Func) (z : Value) : Ex → St → Prop := fun e s => (match e with | .exit _ => False | _ => True) ∧ match (X.res P fn s).bind val with
  | some v => v = z
  | none => False
/-- A function that only computes: its contract, shown. -/
theorem lib_pure (hL : Lib.Good P L) {g : FuncId} {fn : Func} (hf : P.funcs[g]? = some fn) (n : Nat) (r : List Value → Option Value) (h : ∀ vs z, r vs = some z → (run P (L.mk' fun _ _ _ _ => False) n fn (vs.map .v)).sat (hands P fn z)) : Lib.Good P { L with fs := (g, r) :: L.fs } :=
  lib_fsg hL fun vs z hz w hgl => by
    refine calls_of_sat (hL _) (fun _ _ _ _ h => h) hf n _ vs (valL_mapv vs) (refsL_mapv vs) w hgl _ (T.sat_mono (h vs z hz) ?_)
    rintro e s ⟨he, hz⟩
    split at hz
    · rename_i v hv
      subst hz
      obtain ⟨x, hx, hxv⟩ := Option.bind_eq_some_iff.1 hv
      exact ⟨he, x, hx, fun β w' H _ => ⟨by rw [val_den β _ _ hxv], H.below_⟩⟩
    · exact hz.elim

/-- A function that only computes is its own contract. -/
def Lib.self (P : Program) (n : Nat) (L : Lib) (g : FuncId) : Lib :=
  match P.funcs[g]? with
  | some fn => { L with fs := (g, fun vs => (run P (L.mk' fun _ _ _ _ => False) n fn (vs.map .v)).resM P fn) :: L.fs }
  | none => L
def Lib.selfs (P : Program) (n : Nat) (L : Lib) : List FuncId → Lib
  | [] => L
  | g :: gs => Lib.selfs P n (Lib.self P n L g) gs
theorem lib_self (hL : Lib.Good P L) (n : Nat) (g : FuncId) : Lib.Good P (Lib.self P n L g) := by
  unfold Lib.self
  split
  · rename_i fn hf
    exact lib_fsg hL fun vs z hz w => calls_of_run (hL _) (fun _ _ _ _ h => h) hf n _ vs (valL_mapv vs) (refsL_mapv vs) z hz w
  · exact hL
theorem lib_selfs (hL : Lib.Good P L) (n : Nat) (gs : List FuncId) : Lib.Good P (Lib.selfs P n L gs) := by
  induction gs generalizing L with
  | nil => exact hL
  | cons g gs ih => exact ih (lib_self hL n g)

theorem find_append {α : Type} (a b : List (FuncId × α)) (f : FuncId) : find (a ++ b) f = match find a f with
    | some r => some r
    | none => find b f := by
  induction a with
  | nil => rfl
  | cons x a ih =>
    obtain ⟨g, r⟩ := x
    simp only [List.cons_append, find]
    cases Nat.beq g f with
    | true => rfl
    | false => simp only [cond_false]; exact ih
/-- A contract of any form. -/
theorem lib_x (hL : Lib.Good P L) {g : FuncId} {r : RomP → List V → Hp → Nat → Option T} (h : ∀ rom ags h nx t, r rom ags h nx = some t → CallOk P rom g ags h nx t) : Lib.Good P { L with xs := (g, r) :: L.xs } := fun rom => by
  refine ⟨(hL rom).fs, fun g' r' h' ags hp nx t ht => ?_, (hL rom).ls⟩
  have hold := (hL rom).cs g'
  simp only [Lib.mk', cspec, find_append, mapX, find] at h' hold
  cases hc : find (mapC rom L.cs) g' with
  | some q =>
    rw [hc] at h' hold
    exact hold r' h' ags hp nx t ht
  | none =>
    rw [hc] at h' hold
    simp only at h' hold
    cases hb : Nat.beq g g' with
    | true =>
      rw [hb] at h'
      simp only [cond_true, Option.some.injEq] at h'
      subst h'
      rw [← Nat.eq_of_beq_eq_true hb]
      exact h rom ags hp nx t ht
    | false => rw [hb] at h'; exact hold r' h' ags hp nx t ht
theorem lib_cs (hL : Lib.Good P L) {g : FuncId} {c : Con} (h : ∀ rom as h nx t, c.call rom as h nx = some t → CallOk P rom g as h nx t) : Lib.Good P { L with cs := (g, c) :: L.cs } := fun rom => by
  refine ⟨(hL rom).fs, fun g' r' h' as hp nx t ht => ?_, (hL rom).ls⟩
  simp only [Lib.mk', cspec, mapC, List.cons_append, find] at h'
  cases hb : Nat.beq g g' with
  | true =>
    rw [hb] at h'
    simp only [cond_true, Option.some.injEq] at h'
    subst h'
    rw [← Nat.eq_of_beq_eq_true hb]
    exact h rom as hp nx t ht
  | false => rw [hb] at h'; exact (hL rom).cs g' r' h' as hp nx t ht

/-- A contract of a function, shown with the contracts that are there. -/
theorem lib_con (hL : Lib.Good P L) {g : FuncId} {fn : Func} (hf : P.funcs[g]? = some fn) (c : Con) (n : Nat) (hgoal : ∀ σ α, c.pre σ → c.goal P L.mk' n fn σ α) : Lib.Good P { L with cs := (g, c) :: L.cs } :=
  lib_cs hL fun rom as h nx t ht => con_call c (φ := L.mk') hL (fun _ => rfl) hf n hgoal rom as h nx t ht

/-- The slots that code writes. -/
def writesO : List Oper → List Nat
  | [] => []
  | o :: l => match o.dst with
    | some t => t :: writesO l
    | none => writesO l
def writes : Code → List Nat
  | .seq a b => writes a ++ writes b
  | .cond _ a b => writes a ++ writes b
  | .block _ b => writes b
  | .loop b => writes b
  | .scope b => writes b
  | .region _ ops _ => writesO ops.toList
  | _ => []
def nubN : List Nat → List Nat → List Nat
  | [], l => l
  | x :: xs, l => bif l.any (Nat.beq x) then nubN xs l else nubN xs (x :: l)

def keyIs (i : Nat) (p : String) (b : Code) : Bool :=
  match lkey b with
  | some k => Nat.beq i k.1 && p == k.2
  | none => false
/-- The loops of a key. -/
def loopsAt (P : Program) (i : Nat) (p : String) : List Code := (allLoops P).filter (keyIs i p)
def loopAt (P : Program) (i : Nat) (p : String) : Code :=
  match loopsAt P i p with
  | b :: _ => b
  | [] => .skip

theorem loops_sub : ∀ (c b b' : Code), b ∈ loops c → b' ∈ loops b → b' ∈ loops c
  | .seq x y, b, b', h, h' => by
    simp only [loops, List.mem_append] at h ⊢
    exact h.imp (fun h => loops_sub x b b' h h') (fun h => loops_sub y b b' h h')
  | .cond _ x y, b, b', h, h' => by
    simp only [loops, List.mem_append] at h ⊢
    exact h.imp (fun h => loops_sub x b b' h h') (fun h => loops_sub y b b' h h')
  | .block _ x, b, b', h, h' => by simp only [loops] at h ⊢; exact loops_sub x b b' h h'
  | .scope x, b, b', h, h' => by simp only [loops] at h ⊢; exact loops_sub x b b' h h'
  | .loop x, b, b', h, h' => by
    simp only [loops, List.mem_cons] at h ⊢
    rcases h with rfl | h
    · exact .inr h'
    · exact .inr (loops_sub x b b' h h')
  | .skip, _, _, h, _ => by simp [loops] at h
  | .region _ _ _, _, _, h, _ => by simp [loops] at h
  | .rangeFunc _ _ _ _, _, _, h, _ => by simp [loops] at h
  | .exit _, _, _, h, _ => by simp [loops] at h
  | .label _, _, _, h, _ => by simp [loops] at h
  | .goto _, _, _, h, _ => by simp [loops] at h
  | .ret, _, _, h, _ => by simp [loops] at h
  | .refuse _, _, _, h, _ => by simp [loops] at h
theorem allLoops_sub {b b' : Code} (h : b ∈ allLoops P) (h' : b' ∈ loops b) : b' ∈ allLoops P := by
  unfold allLoops at h ⊢
  obtain ⟨fn, hf, hb⟩ := List.mem_flatMap.1 h
  refine List.mem_flatMap.2 ⟨fn, hf, ?_⟩
  cases hbd : fn.body with
  | none => rw [hbd] at hb; cases hb
  | some c => rw [hbd] at hb; exact loops_sub c b b' hb h'

/-- A contract of a loop, shown with the contracts that are there. -/
theorem lib_loop (hL : Lib.Good P L) (i : Nat) (p : String) (hone : (loopsAt P i p).length = 1) (l : LCon) (n : Nat) (hgoal : ∀ σ α rest, l.c.pre σ → l.goal P L.mk' n (loopAt P i p) σ α rest) : Lib.Good P { L with ls := (i, p, l) :: L.ls } := fun rom => by
  refine ⟨(hL rom).fs, (hL rom).cs, fun b r hb hr s t ht => ?_⟩
  have hex : ∀ b ∈ allLoops P, keyIs i p b = true → b = loopAt P i p := fun b hb hk => by
    have hm : b ∈ loopsAt P i p := List.mem_filter.2 ⟨hb, hk⟩
    obtain ⟨x, hx⟩ := List.length_eq_one_iff.1 hone
    unfold loopAt
    rw [hx] at hm ⊢
    simpa using hm
  unfold lspec at hr
  simp only [Lib.mk', mapL] at hr
  obtain ⟨k, hk, hr⟩ := Option.bind_eq_some_iff.1 hr
  simp only [findL] at hr
  cases hc : (Nat.beq i k.1 && p == k.2) with
  | true =>
    rw [hc] at hr
    simp only [cond_true, Option.some.injEq] at hr
    subst hr
    have hkey : keyIs i p b = true := by unfold keyIs; rw [hk]; exact hc
    have := hex b hb hkey
    rw [this] at hb ⊢
    exact con_loop l (φ := L.mk') hL (fun _ => rfl) hb (fun b' hb' => allLoops_sub hb hb') n hgoal rom s t ht
  | false =>
    rw [hc] at hr
    simp only [cond_false] at hr
    refine (hL rom).ls b r hb ?_ s t ht
    unfold lspec
    simp only [Lib.mk']
    cases hl : mapL rom L.ls with
    | nil => rw [hl] at hr; simp [findL] at hr
    | cons x xs => simp only [hk, Option.bind_some]; rw [← hl]; exact hr
end
end Go.Proofs.YtfjldllegmfooaaDoor.X
end
