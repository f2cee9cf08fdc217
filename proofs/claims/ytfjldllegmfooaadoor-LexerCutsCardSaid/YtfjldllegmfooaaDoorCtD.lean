/- Parts of the proof, laid together: Open, LxRowK, LxS, LxPu, LxShelf, LxP, LxR, LxLib, LxAD, LxAV, LxKin, LxA, LxBD, LxBV, LxC, LxC2, LxDD, LxDV, LxE, LxE2, LxFD, LxFV, LxG, LxG2, LxB, LxK, LxHD, LxHV, LxH, LxID, LxIV, LxI, Way, LxJD, LxJV. No condition. -/
import Derived.Test.YtfjldllegmfooaaDoorCtC
import Derived.ProofKit
import Derived.OpenShut
import Derived.Carry
import Derived.Test.YtfjldllegmfooaaDoorRows
import Derived.Test.YtfjldllegmfooaaDoorTie
import Derived.WalkKit
import Derived.ShutString
import Derived.Below
import Derived.LaidMore
import Derived.Lay
import Derived.SevenTiedAt
import Derived.Stop.Joined
import Derived.Stop.LaidErr
import Derived.HandedShaped
import Derived.Shelf.Vars
import Derived.IntWalk
import Derived.Test.YtfjldllegmfooaaDoorProg
import Derived.Lib.Strings
import Derived.Lib.Walk
import Derived.Lib.ConvBytes
import Derived.Lib.AtoiErrMem
import Derived.Lib.Hide
import Derived.Laws.Strings3
import Derived.Laws.Closers25
import Derived.Laws.Closers25b
import Derived.BigCall
import Derived.BigGuard
import Derived.Shelf.Small.Strs
import Derived.Shelf.LaysM
import Derived.Shelf.Pu.ParseUintPublic10
import Derived.Shelf.Strings.Split
import Derived.Lib.SplitLaws
import Derived.Lib.IndexBytes

section
/- What an argument of plain parts (numbers, truths, texts, structs of these) is: its cells by their kinds. No condition. -/
namespace Go.Proofs.YtfjldllegmfooaaDoor.X
open Go.RowKit Go.ChangeShapes Go.WideShapes

/-- A cell of a kind, within its bounds. -/
def okC : PK → Value → Prop
  | .int k, v => ∃ n, v = .int k n ∧ (Lit.int k n).wf = true
  | .str, v => ∃ s : ByteArray, v = .string s ∧ s.size ≤ maxLen
  | .bool, v => ∃ b, v = .bool b
def okCells : List PK → List Value → Prop
  | [], [] => True
  | k :: ks, c :: cs => okC k c ∧ okCells ks cs
  | _, _ => False
theorem okCells_len : ∀ {ks : List PK} {cs : List Value}, okCells ks cs → cs.length = ks.length
  | [], [], _ => rfl
  | [], _ :: _, h => h.elim
  | _ :: _, [], h => h.elim
  | _ :: _, _ :: _, h => congrArg (· + 1) (okCells_len h.2)
theorem okCells_app : ∀ {ks ks' : List PK} {cs cs' : List Value}, okCells ks cs → okCells ks' cs' → okCells (ks ++ ks') (cs ++ cs')
  | [], _, [], _, _, h => h
  | [], _, _ :: _, _, h, _ => h.elim
  | _ :: _, _, [], _, h, _ => h.elim
  | _ :: _, _, _ :: _, _, h, h' => ⟨h.1, okCells_app h.2 h'⟩
def flatFs (rec : TypeId → Option (List PK)) (P : Program) : List Field → Nat → Option (List PK)
  | [], _ => some []
  | f :: fs, off => bif Nat.beq f.offset off then (rec f.type).bind fun ks => bif Nat.beq ks.length (P.cellsOf f.type) then (flatFs rec P fs (off + ks.length)).bind fun r => some (ks ++ r) else none else none
/-- The kinds of a plain type's cells. -/
def flat (P : Program) : Nat → TypeId → Option (List PK)
  | 0, _ => none
  | n + 1, t => match P.underlying t with
    | some (.int k) => some [.int k]
    | some .bool => some [.bool]
    | some .string => some [.str]
    | some (.struct fs) => (flatFs (flat P n) P fs.toList 0).bind fun ks => bif Nat.beq ks.length (P.cellsOf t) then some ks else none
    | _ => none

section
variable {H : Type} {enc : TypeId × Value → H} {P : Program} {w : World} {base : Nat} {sp : Nat → Bool} {hd : Bool}
theorem trod_flatFs {rec : TypeId → Option (List PK)} {m : Nat} (ih : ∀ t ks cs x, rec t = some ks → DataW.trod enc P w base sp hd m t cs = some x → okCells ks cs ∧ x.2 = []) {cs : List Value} :
    ∀ (fs : List Field) (off : Nat) (xs : List (DataW H × List MemPlace)) (ks : List PK), flatFs rec P fs off = some ks → xs.length = fs.length →
      (∀ (i : Nat) (f : Field), fs[i]? = some f → DataW.trod enc P w base sp hd m f.type ((cs.drop f.offset).take (P.cellsOf f.type)) = xs[i]?) → okCells ks ((cs.drop off).take ks.length) ∧ xs.flatMap (·.2) = []
  | [], off, [], ks, h, _, _ => by
    simp only [flatFs, Option.some.injEq] at h
    subst h
    exact ⟨by simp [okCells], rfl⟩
  | [], _, _ :: _, _, _, hl, _ => by simp at hl
  | _ :: _, _, [], _, _, hl, _ => by simp at hl
  | f :: fs, off, x :: xs, ks, h, hl, hg => by
    simp only [flatFs] at h
    cases ho : Nat.beq f.offset off with
    | false => rw [ho] at h; cases h
    | true =>
    rw [ho] at h
    simp only [cond_true] at h
    obtain ⟨k1, hk1, h⟩ := Option.bind_eq_some_iff.1 h
    cases hc : Nat.beq k1.length (P.cellsOf f.type) with
    | false => rw [hc] at h; cases h
    | true =>
    rw [hc] at h
    simp only [cond_true] at h
    obtain ⟨k2, hk2, h⟩ := Option.bind_eq_some_iff.1 h
    simp only [Option.some.injEq] at h
    subst h
    have e1 := Nat.eq_of_beq_eq_true ho
    have e2 := Nat.eq_of_beq_eq_true hc
    have g0 := hg 0 f rfl
    rw [e1, ← e2] at g0
    obtain ⟨a1, a2⟩ := ih _ _ _ _ hk1 g0
    obtain ⟨b1, b2⟩ := trod_flatFs ih fs (off + k1.length) xs k2 hk2 (by simpa using hl) fun i f' hf => by
      have := hg (i + 1) f' (by simpa using hf)
      simpa using this
    refine ⟨?_, by simp only [List.flatMap_cons, a2, b2, List.nil_append]⟩
    rw [List.length_append, List.take_add, List.drop_drop]
    exact okCells_app a1 b1
theorem trod_flat : ∀ (n : Nat) (t : TypeId) (ks : List PK) (cs : List Value) (m : Nat) (x : DataW H × List MemPlace), flat P n t = some ks → DataW.trod enc P w base sp hd m t cs = some x → okCells ks cs ∧ x.2 = []
  | 0, _, _, _, _, _, h, _ => by simp [flat] at h
  | n + 1, t, ks, cs, m, x, h, ht => by
    simp only [flat] at h
    split at h
    · rename_i k hu
      simp only [Option.some.injEq] at h
      subst h
      obtain ⟨z, rfl, rfl, hw⟩ := DataW.trod_int hu ht
      exact ⟨⟨⟨z, rfl, hw⟩, trivial⟩, rfl⟩
    · rename_i hu
      simp only [Option.some.injEq] at h
      subst h
      obtain ⟨z, rfl, rfl⟩ := DataW.trod_bool hu ht
      exact ⟨⟨⟨z, rfl⟩, trivial⟩, rfl⟩
    · rename_i hu
      simp only [Option.some.injEq] at h
      subst h
      obtain ⟨z, rfl, rfl, hw⟩ := DataW.trod_string hu ht
      exact ⟨⟨⟨z, rfl, hw⟩, trivial⟩, rfl⟩
    · rename_i fs hu
      obtain ⟨k1, hk1, h⟩ := Option.bind_eq_some_iff.1 h
      cases hc : Nat.beq k1.length (P.cellsOf t) with
      | false => rw [hc] at h; cases h
      | true =>
      rw [hc] at h
      simp only [cond_true, Option.some.injEq] at h
      subst h
      obtain ⟨xs, m', rfl, rfl, hlen, hl, hg⟩ := DataW.trod_struct hu ht
      obtain ⟨a1, a2⟩ := trod_flatFs (fun t ks cs x h1 h2 => trod_flat n t ks cs m' x h1 h2) fs.toList 0 xs k1 hk1 (by simpa using hl) fun i f hf => hg i f (by simpa using hf)
      rw [List.drop_zero, Nat.eq_of_beq_eq_true hc, ← hlen, List.take_length] at a1
      exact ⟨a1, a2⟩
    · cases h
/-- An argument that is a struct of plain parts. -/
theorem open_flat {r : Reach} {b0 : Nat} {t : TypeId} {ks : List PK} {n : Nat} {fs : Array Field} {v : Value} {d : DataW H} {p : List MemPlace} (hu : P.underlying t = some (.struct fs)) (hf : flat P n t = some ks)
    (hv : Value.okWide P w r b0 t v) (h : DataW.Trod enc P w base sp hd t v d p) : ∃ cs : List Value, v = .agg cs.toArray ∧ okCells ks cs ∧ p = [] := by
  obtain ⟨cs, rfl, _⟩ := okWide_struct hu hv
  obtain ⟨fuel, hfu⟩ := h
  obtain ⟨a1, a2⟩ := trod_flat n t ks _ fuel _ hf hfu
  exact ⟨cs.toList, rfl, a1, a2⟩
end

/-- Patterns of cells by their kinds. -/
def patK : List PK → Nat → List Pt
  | [], _ => []
  | .int k :: ks, i => .i k i :: patK ks (i + 1)
  | .str :: ks, i => .s i :: patK ks (i + 1)
  | .bool :: ks, i => .b i :: patK ks (i + 1)
theorem fill_patK (σ : Dt) (α : At') : ∀ (ks : List PK) (i : Nat) (cs : List Value), okCells ks cs → (∀ j, j < cs.length → σ.D (i + j) = cs.getD j undef) → valL (fillL σ α (patK ks i)) = some cs
  | [], _, [], _, _ => rfl
  | [], _, _ :: _, h, _ => h.elim
  | _ :: _, _, [], h, _ => h.elim
  | k :: ks, i, c :: cs, h, hd => by
    have h0 := hd 0 (by simp)
    have ih := fill_patK σ α ks (i + 1) cs h.2 fun j hj => by
      have := hd (j + 1) (by simpa using hj)
      rw [show i + 1 + j = i + (j + 1) by omega]
      simpa using this
    rw [Nat.add_zero, List.getD_cons_zero] at h0
    cases k with
    | int k =>
      obtain ⟨n, rfl, _⟩ := h.1
      show (valL (fillL σ α (patK ks (i + 1)))).bind (fun ags => some (Value.int k (σ.I i) :: ags)) = _
      rw [ih]; unfold Dt.I; rw [h0]; rfl
    | str =>
      obtain ⟨n, rfl, _⟩ := h.1
      show (valL (fillL σ α (patK ks (i + 1)))).bind (fun ags => some (Value.string (σ.S i) :: ags)) = _
      rw [ih]; unfold Dt.S; rw [h0]; rfl
    | bool =>
      obtain ⟨n, rfl⟩ := h.1
      show (valL (fillL σ α (patK ks (i + 1)))).bind (fun ags => some (Value.bool (σ.B i) :: ags)) = _
      rw [ih]; unfold Dt.B; rw [h0]; rfl
theorem refs_patK (σ : Dt) (α : At') : ∀ (ks : List PK) (i : Nat), refsL (fillL σ α (patK ks i)) = []
  | [], _ => rfl
  | .int _ :: ks, i => refs_patK σ α ks (i + 1)
  | .str :: ks, i => refs_patK σ α ks (i + 1)
  | .bool :: ks, i => refs_patK σ α ks (i + 1)
/-- A law that hands back true, from what is read of it. -/
theorem calls_true {P : Program} {φ : Specs} (hφ : Good P φ) (hrom : ∀ nn ad ks xs, ¬ φ.rom nn ad ks xs) {g : FuncId} {fn : Func} (hf : P.funcs[g]? = some fn) (n : Nat) (args : List V) (vs : List Value) (hv : valL args = some vs) (hb : refsL args = []) (w : World) (hgl : GlW w) {z : Value}
    (h : (run P φ n fn args).sat (hands P fn z)) : Calls P g vs.toArray w fun e w' => e = .returned z ∧ Below w.heap.size w w' := by
  refine calls_of_sat hφ hrom hf n args vs hv hb w hgl _ (T.sat_mono h ?_)
  rintro e s ⟨he, hz⟩
  split at hz
  · rename_i v hv
    subst hz
    obtain ⟨x, hx, hxv⟩ := Option.bind_eq_some_iff.1 hv
    exact ⟨he, x, hx, fun β w' H _ => ⟨by rw [val_den β _ _ hxv], H.below_⟩⟩
  · exact hz.elim

/-- A law's arguments: structs of plain parts (true), single ones (false). -/
abbrev ArgK := Bool × List PK
def argsV (σ : Dt) (α : At') : List ArgK → Nat → List V
  | [], _ => []
  | (b, ks) :: r, i => (bif b then .a (fillL σ α (patK ks i)) else (fillL σ α (patK ks i)).headD .u) :: argsV σ α r (i + ks.length)
def okArgs : List ArgK → List Value → List Value → Prop
  | [], [], [] => True
  | (b, ks) :: r, v :: vs, cs => ∃ c1 c2, cs = c1 ++ c2 ∧ okCells ks c1 ∧ (bif b then v = .agg c1.toArray else c1 = [v]) ∧ okArgs r vs c2
  | _, _, _ => False
theorem okArgs_agg {ks : List PK} {r : List ArgK} {vs c1 c2 : List Value} (h : okCells ks c1) (h' : okArgs r vs c2) : okArgs ((true, ks) :: r) (.agg c1.toArray :: vs) (c1 ++ c2) := ⟨c1, c2, rfl, h, rfl, h'⟩
theorem okArgs_one {k : PK} {r : List ArgK} {v : Value} {vs c2 : List Value} (h : okC k v) (h' : okArgs r vs c2) : okArgs ((false, [k]) :: r) (v :: vs) ([v] ++ c2) := ⟨[v], c2, rfl, ⟨h, trivial⟩, rfl, h'⟩
theorem okArgs_nil : okArgs [] [] [] := trivial
def dtL (cs : List Value) : Dt := ⟨fun n => cs.getD n undef, fun _ => []⟩
def at0 : At' := ⟨fun _ => false, fun _ => ⟨0, 0, none⟩, fun _ => 0⟩
theorem okArgs_cells : ∀ {ags : List ArgK} {vs cs : List Value}, okArgs ags vs cs → okCells (ags.flatMap (·.2)) cs
  | [], [], [], _ => trivial
  | [], [], _ :: _, h => h.elim
  | [], _ :: _, _, h => h.elim
  | _ :: _, [], _, h => h.elim
  | (b, ks) :: r, v :: vs, cs, h => by
    obtain ⟨c1, c2, rfl, h1, _, h3⟩ := h
    exact okCells_app h1 (okArgs_cells h3)
theorem argsV_ok (α : At') (all : List Value) : ∀ (ags : List ArgK) (i : Nat) (vs cs : List Value), okArgs ags vs cs → (∀ j, j < cs.length → (dtL all).D (i + j) = cs.getD j undef) →
    valL (argsV (dtL all) α ags i) = some vs ∧ refsL (argsV (dtL all) α ags i) = []
  | [], _, [], [], _, _ => ⟨rfl, rfl⟩
  | [], _, [], _ :: _, h, _ => h.elim
  | [], _, _ :: _, _, h, _ => h.elim
  | _ :: _, _, [], _, h, _ => h.elim
  | (b, ks) :: r, i, v :: vs, cs, h, hd => by
    obtain ⟨c1, c2, rfl, h1, h2, h3⟩ := h
    have hl := okCells_len h1
    have v1 := fill_patK (dtL all) α ks i c1 h1 fun j hj => by
      rw [hd j (by rw [List.length_append]; omega), List.getD_eq_getElem?_getD, List.getD_eq_getElem?_getD, List.getElem?_append_left hj]
    have r1 := refs_patK (dtL all) α ks i
    obtain ⟨i1, i2⟩ := argsV_ok α all r (i + ks.length) vs c2 h3 fun j hj => by
      have := hd (ks.length + j) (by rw [List.length_append, hl]; omega)
      rw [Nat.add_assoc, this, List.getD_eq_getElem?_getD, List.getD_eq_getElem?_getD, List.getElem?_append_right (by omega), hl, Nat.add_sub_cancel_left]
    cases b with
    | true =>
      simp only [cond_true] at h2
      subst h2
      refine ⟨?_, ?_⟩
      · show (val (.a (fillL _ _ (patK ks i)))).bind (fun x => (valL (argsV _ _ r _)).bind fun y => some (x :: y)) = _
        simp only [val, v1, i1, Option.bind_some]
      · show refs (.a (fillL _ _ (patK ks i))) ++ refsL (argsV _ _ r _) = []
        simp only [refs, r1, i2, List.nil_append]
    | false =>
      simp only [cond_false] at h2
      subst h2
      match ks, hl with
      | [k], _ =>
        generalize hf : fillL (dtL all) α (patK [k] i) = fl at v1 r1
        match fl, v1 with
        | [], v1 => simp [valL] at v1
        | y :: ys, v1 =>
          simp only [valL, Option.bind_eq_some_iff, Option.some.injEq, List.cons.injEq] at v1
          obtain ⟨z, hz, _, _, rfl, rfl⟩ := v1
          have r2 : refs y = [] := by
            simp only [refsL, List.append_eq_nil_iff] at r1
            exact r1.1
          refine ⟨?_, ?_⟩
          · show (val ((fillL (dtL all) α (patK [k] i)).headD .u)).bind (fun x => (valL (argsV _ _ r _)).bind fun y => some (x :: y)) = _
            rw [hf]
            simp only [List.headD_cons, hz, i1, Option.bind_some]
          · show refs ((fillL (dtL all) α (patK [k] i)).headD .u) ++ refsL (argsV _ _ r _) = []
            rw [hf, List.headD_cons, r2, i2]; rfl
/-- What a reader finds of a law: boxed. -/
structure SatB (P : Program) (L : Lib) (n : Nat) (fn : Func) (ags : List V) : Prop where
  sat : (run P (L.mk' fun _ _ _ _ => False) n fn ags).sat (hands P fn (.bool true))
/-- A law that hands back true, for all arguments of plain parts. -/
theorem law_calls {P : Program} {L : Lib} (hL : Lib.Good P L) {g : FuncId} {fn : Func} (hf : P.funcs[g]? = some fn) (n : Nat) (ags : List ArgK)
    (h : ∀ cs, okCells (ags.flatMap (·.2)) cs → SatB P L n fn (argsV (dtL cs) at0 ags 0)) (vs cs : List Value) (hv : okArgs ags vs cs) (w : World) (hgl : GlW w := by intro q hq; cases hq) :
    Calls P g vs.toArray w fun e w' => e = .returned (.bool true) ∧ Below w.heap.size w w' := by
  obtain ⟨h1, h2⟩ := argsV_ok at0 cs ags 0 vs cs hv fun j _ => by rw [Nat.zero_add]; rfl
  exact calls_true (hL _) (fun _ _ _ _ h => h) hf n _ vs h1 h2 w hgl (h cs (okArgs_cells hv)).sat
end Go.Proofs.YtfjldllegmfooaaDoor.X
end

section
/- What the rows of chapters 10 and 11 share: what the listed variables hold in a world in which a call begins. No condition. -/
namespace Go.Proofs.YtfjldllegmfooaaDoor.Lx
open Go.ChangeShapes Go.WideShapes Go.ChangeAt Go.RowKit Go.Proofs.YtfjldllegmfooaaDoor.X

theorem change_and_shaped {H : Type} {enc : TypeId × Value → H} {a : Assume} {C : Checked} {os : Os} {f : FuncId} {fn : Func} {s : ChangeSpec} {conds : List PathCond} {apart fresh handsOn again : Bool} {Y : World → Array Value → Prop}
    (hY : ∀ (w w' : World) (args : Array Value), w.heap = w'.heap → Y w args → Y w' args)
    (own : ownKnob C.prog.godebug = none) (started : os.Started) (noInit : C.prog.inits.idxOf? f = none) (hfn : C.prog.funcs[f]? = some fn)
    (witness : ∃ (w : World) (tape : Tape) (i : Input), w.os = os ∧ (w.forCall tape i).Shaped C.prog ∧ i.vars = [] ∧ Input.okWide C.prog (w.forCall tape i) .any w.heap.size f i ∧
      ((s.pre enc C.prog fn conds apart (w.forCall tape i).memory i.args ∧ Y (w.forCall tape i).memory i.args) ∧ sizedMet enc C.prog fn (OpenSpec.ofChange s) apart (w.forCall tape i).memory i.args) ∧ a.holds C.prog (lone (Frame.enter C.prog f i.args .normal) [] (w.forCall tape i)))
    (contract : ∀ (W : World) (base : Nat) (args : Array Value) (ds gs : List (DataW H)) (before : List MemPlace),
      (∀ (j : Nat) t v, fn.params[j]? = some t → args[j]? = some v → Value.okWide C.prog W .any base t v) →
      DataW.Whole enc C.prog fn.params.toList s.vars apart W args.toList ds gs before →
      (DataW.weightsEach C.prog (fn.params.toList ++ s.plain.varTypes C.prog) (ds ++ gs)).all (· ≤ reachBytes) = true →
      W.ShapedOpen C.prog → Y W args →
      Calls C.prog f args W fun e W' => ∃ v, e = .returned v ∧ s.post enc C.prog fn apart fresh handsOn again W args v W') :
    ReturnsInHanded a C os f .any (fun w args => (s.pre enc C.prog fn conds apart w args ∧ Y w args) ∧ sizedMet enc C.prog fn (OpenSpec.ofChange s) apart w args) (s.post enc C.prog fn apart fresh handsOn again) := by
  refine returnsInHanded_of_calls own started noInit witness ?_
  intro w tape i _ hsh _ hok hpre _
  obtain ⟨_, _, _, fn', hfn', _, _, _, _, hval⟩ := hok
  have e : fn' = fn := Option.some.inj (hfn'.symm.trans hfn)
  subst e
  obtain ⟨⟨⟨ds, gs, before, hw, _⟩, hx⟩, hz⟩ := hpre
  have hw' := DataW.Whole.of_heap (w' := w.forCall tape i) (by rfl) hw
  refine (contract (w.forCall tape i) w.heap.size i.args ds gs before hval hw' (hz.weights hw) hsh (hY _ _ _ (by rfl) hx)).mono fun e W' ⟨v, he, hp⟩ => ?_
  subst he
  exact ChangeSpec.post_blind hp

theorem own : ownKnob Tryd.prog.godebug = none := by kernel_rfl
theorem laid : laidOutB Tryd.prog = true := by kernel_rfl
def laidL : List (String × DataW Unit) := Rows.lexerCutsRow.laid
theorem starE : "*" ++ "errors.errorString" = "*errors.errorString" := by decide
theorem rowE (u : TypeId) (h : Tryd.prog.typeName? 3 u = some "*errors.errorString") : u = 171 :=
  typeName_ptr_named (nm := "errors.errorString") (by rw [starE]; kernel_rfl) (by kernel_rfl) (by decide) u (by rw [starE]; exact h)
theorem cell_heap {w w' : World} {g i : Nat} (h : w'.heap[g]? = w.heap[g]?) : w'.cell? ⟨g, i, none⟩ = w.cell? ⟨g, i, none⟩ := by
  unfold World.cell?
  simp only [h]
theorem glw_of {W : World} (hs : W.ShapedOpen Tryd.prog) (hl : laidMetH Tryd.prog laidL W) : GlW W := by
  obtain ⟨m, hm⟩ := cell_of_shapedOpen_int (g := 0) (t := 3) (zero := #[.int .i64 0]) (k := .i64) hs (of_decide_eq_true (by kernel_rfl)) (by kernel_rfl) rfl (by kernel_rfl) (by kernel_rfl) Tryd.underlying3
  rw [MakeChecks.laidMetH_plain _ _ _ (by kernel_rfl)] at hl
  obtain ⟨a, s, hv, _⟩ := laid_sentinel (P := Tryd.prog) hl.tail.tail.tail.tail (g := 5) (ti := 77) (tp := 171) (te := 173) (ts := 9) (by kernel_rfl) (by kernel_rfl) Tryd.underlying77 rowE Tryd.underlying171 Tryd.underlying173 rfl rfl Tryd.underlying9 (by kernel_rfl) (by kernel_rfl)
  have hc : W.cell? ⟨5, 0, none⟩ = some (.iface 171 (.pointer (some a))) := by
    have := World.var?_cell (P := Tryd.prog) (n := "strconv.ErrRange") (g := 5) (by kernel_rfl) hv 0
    simpa using this
  intro q hq
  simp only [globals, List.mem_cons, List.not_mem_nil, or_false] at hq
  rcases hq with rfl | rfl
  · exact ⟨World.block_lt_of_cell? _ _ hm, fun w' hw => ⟨m, (cell_heap hw).trans hm⟩⟩
  · exact ⟨World.block_lt_of_cell? _ _ hc, fun w' hw => ⟨_, _, (cell_heap hw).trans hc⟩⟩
end Go.Proofs.YtfjldllegmfooaaDoor.Lx
end

section
/- How a text is cut into tokens: the spec, on lists of bytes. No condition. -/
namespace Go.Proofs.YtfjldllegmfooaaDoor.Lx
open Go.RowKit

abbrev Bs := List UInt8
def isLet (c : UInt8) : Bool := (decide (97 ≤ c.toNat) && decide (c.toNat ≤ 122)) || (decide (65 ≤ c.toNat) && decide (c.toNat ≤ 90))
def isDig (c : UInt8) : Bool := decide (48 ≤ c.toNat) && decide (c.toNat ≤ 57)
def isFst (c : UInt8) : Bool := isLet c || c.toNat == 95 || c.toNat == 46
def isIns (c : UInt8) : Bool := isFst c || isDig c
def isReg (c : UInt8) : Bool := isLet c || isDig c
/-- A hex digit's worth. -/
def hexV (c : UInt8) : Option Nat :=
  if 48 ≤ c.toNat ∧ c.toNat ≤ 57 then some (c.toNat - 48)
  else if 97 ≤ c.toNat ∧ c.toNat ≤ 102 then some (c.toNat - 97 + 10)
  else if 65 ≤ c.toNat ∧ c.toNat ≤ 70 then some (c.toNat - 65 + 10) else none
def isHex (c : UInt8) : Bool := (hexV c).isSome
def byt (l : Bs) (i : Nat) : UInt8 := l.getD i 0
def valB (base : Nat) (l : Bs) : Nat := l.foldl (fun a c => base * a + (hexV c).getD 0) 0

structure Tok where
  kind : Int
  n : Int
  text : Bs
def i64 (n : Nat) : Int := IntKind.i64.wrap n
/-- A number and its length. -/
def numT (l : Bs) : Option (Int × Nat) :=
  let n := (l.takeWhile isDig).length
  if byt l 0 = 48 ∧ byt l 1 = 120 then
    let m := 2 + ((l.drop 2).takeWhile isHex).length
    if m = 2 ∨ m > 18 ∨ isIns (byt l m) = true then none else some (i64 (valB 16 ((l.take m).drop 2)), m)
  else if (byt l 0 = 48 ∧ n > 1) ∨ valB 10 (l.take n) ≥ 18446744073709551616 ∨ isIns (byt l n) = true then none
  else some (i64 (valB 10 (l.take n)), n)
/-- What follows a quote: the text, and how many bytes it takes. -/
def quo : Bs → Option (Bs × Nat)
  | [] => none
  | c :: r =>
    if c = 34 then some ([], 1)
    else if c.toNat < 32 ∨ c.toNat > 126 then none
    else if c ≠ 92 then (quo r).map fun q => (c :: q.1, q.2 + 1)
    else match r with
      | [] => none
      | e :: r =>
        if e = 92 ∨ e = 34 then (quo r).map fun q => (e :: q.1, q.2 + 2)
        else if e = 110 then (quo r).map fun q => (10 :: q.1, q.2 + 2)
        else if e = 116 then (quo r).map fun q => (9 :: q.1, q.2 + 2)
        else if e = 48 then (quo r).map fun q => (0 :: q.1, q.2 + 2)
        else if e = 120 then match r with
          | h :: l :: r => match hexV h, hexV l with
            | some a, some b => (quo r).map fun q => (UInt8.ofNat (16 * a + b) :: q.1, q.2 + 4)
            | _, _ => none
          | _ => none
        else none
def signs : Bs := [44, 40, 41, 58, 36, 43, 45, 42, 47, 38, 126, 64, 61, 124, 94]
/-- The token that begins a text, and its length. -/
def nextT (l : Bs) : Option (Tok × Nat) :=
  let c := byt l 0
  if isFst c = true then
    let n := (l.takeWhile isIns).length
    if n ≤ 255 then some (⟨1, 0, l.take n⟩, n) else none
  else if isDig c = true then (numT l).map fun q => (⟨2, q.1, []⟩, q.2)
  else if c = 37 then
    if isLet (byt l 1) = true then let m := 1 + ((l.drop 1).takeWhile isReg).length; some (⟨5, 0, (l.take m).drop 1⟩, m) else none
  else if c = 39 then
    let x := byt l 1
    if x.toNat < 33 ∨ x.toNat > 126 ∨ byt l 2 ≠ 39 ∨ isIns (byt l 3) = true then none else some (⟨2, x.toNat, []⟩, 3)
  else if c = 34 then (quo (l.drop 1)).map fun q => (⟨3, 0, q.1⟩, q.2 + 1)
  else if c = 59 then some (⟨6, 0, []⟩, 1)
  else if (c = 60 ∨ c = 62) ∧ byt l 1 = c then some (⟨4, 0, l.take 2⟩, 2)
  else if signs.contains c = true then some (⟨4, 0, l.take 1⟩, 1)
  else none
/-- A line's tokens; each token takes a byte at least. -/
def lineF : Nat → Bs → Option (List Tok)
  | _, [] => some []
  | 0, _ :: _ => none
  | k + 1, c :: r =>
    if c = 32 ∨ c = 9 then lineF k r
    else if c = 35 then some []
    else match nextT (c :: r) with
      | none => none
      | some (t, n) => (lineF k ((c :: r).drop n)).map (t :: ·)
def endT : Tok := ⟨6, 0, []⟩
def lineT (l : Bs) : Option (List Tok) := (lineF l.length l).map fun ts => match ts with | [] => [] | _ => ts ++ [endT]
/-- Lines of a text: what stands between line feeds; nothing behind the last one. -/
def split : Bs → List Bs
  | [] => [[]]
  | c :: r => if c = 10 then [] :: split r else match split r with
    | [] => [[c]]
    | w :: ws => (c :: w) :: ws
def lines (l : Bs) : List Bs :=
  match (split l).getLast? with
  | some [] => (split l).dropLast
  | _ => split l
/-- Tokens of lines from number n on; or the first bad line. -/
def linesT : Nat → List Bs → Except Nat (List (Nat × Tok))
  | _, [] => .ok []
  | n, l :: ls => match lineT l with
    | none => .error n
    | some ts => match linesT (n + 1) ls with
      | .error m => .error m
      | .ok r => .ok (ts.map (fun t => (n, t)) ++ r)
/-- All tokens of a text; or (line, error). -/
def allT (l : Bs) : Except (Nat × Nat) (List (Nat × Tok)) :=
  if l.length > 65536 then .error (0, 6)
  else if (lines l).length > 4000 then .error (0, 6)
  else match linesT 1 (lines l) with
    | .error n => .error (n, 100)
    | .ok r => .ok r
end Go.Proofs.YtfjldllegmfooaaDoor.Lx
end

section
/- strconv.ParseUint at base 16, of hex digits, at most 16: walked. No condition. -/
namespace Go.Proofs.YtfjldllegmfooaaDoor.Lx
open Go.RowKit Go.IntWalk

/-- A hex digit's worth, as the library reckons it. -/
def lowV (c : Int) : Int := if 65 ≤ c ∧ c ≤ 70 then c + 32 else c
set_option maxRecDepth 100000 in
theorem lower_hex (c : Int) (h : (65 ≤ c ∧ c ≤ 70) ∨ (97 ≤ c ∧ c ≤ 102)) (w : World) :
    Calls Tryd.prog 122 #[.int .u8 c] w fun e w' => e = .returned (.int .u8 (lowV c)) ∧ w' = w := by
  go_enter Tryd.func122, Tryd.ntmps122
  go_wp2
  go_ret
  refine ⟨?_, rfl⟩
  have : c = 65 ∨ c = 66 ∨ c = 67 ∨ c = 68 ∨ c = 69 ∨ c = 70 ∨ c = 97 ∨ c = 98 ∨ c = 99 ∨ c = 100 ∨ c = 101 ∨ c = 102 := by omega
  rcases this with rfl | rfl | rfl | rfl | rfl | rfl | rfl | rfl | rfl | rfl | rfl | rfl <;> rfl
theorem valB_snoc (b : Nat) (l : Bs) (c : UInt8) : valB b (l ++ [c]) = b * valB b l + (hexV c).getD 0 := by
  unfold valB; rw [List.foldl_append]; rfl
theorem hexV_lt {c : UInt8} {d : Nat} (h : hexV c = some d) : d < 16 := by
  unfold hexV at h
  split at h
  · cases h; omega
  · split at h
    · cases h; omega
    · split at h
      · cases h; omega
      · cases h
theorem val16_lt (l : Bs) : valB 16 l < 16 ^ l.length := by
  rw [← List.reverse_reverse l]
  generalize l.reverse = r
  induction r with
  | nil => decide
  | cons c r ih =>
    rw [List.reverse_cons, valB_snoc, List.length_append, List.length_singleton, Nat.pow_succ]
    have : (hexV c).getD 0 < 16 := by
      cases h : hexV c with
      | none => decide
      | some d => exact hexV_lt h
    omega
set_option maxHeartbeats 32000000 in
set_option maxRecDepth 100000 in
theorem pu16 (t : ByteArray) (hne : 1 ≤ t.size) (h16 : t.size ≤ 16) (hx : ∀ c ∈ t.data.toList, isHex c = true) (w : World) :
    Calls Tryd.prog 113 #[.string t, .int .i64 16, .int .i64 64] w fun e w' => e = .returned (.tuple #[.int .u64 ((valB 16 t.data.toList : Nat) : Int), .nilIface]) ∧ w' = Lib.bytesWorld w 5 t := by
  have hemp : t.toList.isEmpty = false := by
    rw [← decide_eq_emptyBytes]
    exact decide_eq_false (fun h => by rw [h] at hne; exact absurd hne (by decide))
  have hcv := Lib.run_convert_string_bytes (P := Tryd.prog) w 9 69 5 t (u := .string) Tryd.underlying9 Tryd.underlying69 Tryd.underlying5
  have hB : ∀ j, j < t.size → (Lib.bytesWorld w 5 t).cell? ⟨w.heap.size, j, none⟩ = some (.int .u8 (t.data.toList.getD j 0).toNat) := fun j hj => Lib.bytesWorld_cell w 5 t j hj
  obtain ⟨W1, hW1⟩ : ∃ W1, W1 = Lib.bytesWorld w 5 t := ⟨_, rfl⟩
  rw [← hW1] at hcv hB ⊢
  clear hW1
  obtain ⟨bs, hL⟩ : ∃ bs, bs = t.data.toList := ⟨_, rfl⟩
  have hLn : bs.length = t.size := by rw [hL, Lib.size_eq]
  rw [← hL] at hB hx ⊢
  clear hL
  have hmv : IntKind.u64.wrap (IntKind.u64.wrap 18446744073709551616 - 1) = 18446744073709551615 := by
    rw [IntKind.wrap_u64, IntKind.wrap_u64]
    decide
  go_enter Tryd.func113, Tryd.ntmps113
  go_wp2
  go_loop [12, 13, 101] (fun vu vn vi => ∃ (k : Nat) (a : Int), vu = .bool false ∧ vn = .int .u64 a ∧ vi = .int .i64 k ∧ k ≤ t.size ∧ Hid (a = ((valB 16 (bs.take k) : Nat) : Int)))
    (fun _ _ vi => t.size - (intOf vi).toNat)
  case atStart => exact ⟨0, 0, rfl, rfl, rfl, by omega, rfl⟩
  case round =>
    obtain ⟨k, a, rfl, rfl, rfl, hk, hh⟩ := hrel
    have ha := hh.out
    clear hh
    have a0 : 0 ≤ a := by omega
    by_cases hkn : k < t.size
    · have hc := hB k hkn
      have hacc : valB 16 (bs.take k) < 16 ^ 15 := by
        refine Nat.lt_of_lt_of_le (val16_lt _) (Nat.pow_le_pow_right (by decide) ?_)
        rw [List.length_take]; omega
      have a1 : a < 1152921504606846976 := by
        have e : (16 : Nat) ^ 15 = 1152921504606846976 := by decide
        omega
      clear hacc
      have hkl : k < bs.length := by omega
      have hget : bs.getD k 0 = bs[k] := by simp [List.getD, List.getElem?_eq_getElem hkl]
      have hsn : valB 16 (bs.take (k + 1)) = 16 * valB 16 (bs.take k) + (hexV bs[k]).getD 0 := by
        rw [List.take_succ_eq_append_getElem hkl, valB_snoc]
      have hhex := hx bs[k] (List.getElem_mem hkl)
      rw [hget] at hc
      generalize bs[k] = c at hc hsn hhex
      have hc256 : c.toNat < 256 := c.toNat_lt
      obtain ⟨d, hd⟩ : ∃ d, hexV c = some d := Option.isSome_iff_exists.1 hhex
      rw [hd] at hsn
      have HN : Hid (a * 16 + (d : Int) = ((valB 16 (bs.take (k + 1)) : Nat) : Int)) := Lib.hid (by rw [hsn, ha]; simp only [Option.getD_some]; omega)
      clear hB hget hsn hhex ha hkl hx
      have hd16 := hexV_lt hd
      unfold hexV at hd
      by_cases h9 : 48 ≤ c.toNat ∧ c.toNat ≤ 57
      · rw [if_pos h9] at hd
        simp only [Option.some.injEq] at hd
        obtain ⟨hd0, hd1⟩ := h9
        go_wp2
        refine ⟨⟨k + 1, a * 16 + (d : Int), rfl, (by first | rfl | (congr 1; omega)), (by first | rfl | (congr 1; omega)), by omega, HN⟩, by simp [intOf]; omega⟩
      · rw [if_neg h9] at hd
        obtain ⟨lc, hlow, l0, l1, ld⟩ : ∃ lc : Int, (∀ w, Calls Tryd.prog 122 #[.int .u8 (c.toNat : Int)] w fun e w' => e = .returned (.int .u8 lc) ∧ w' = w) ∧ 97 ≤ lc ∧ lc ≤ 102 ∧ lc - 97 + 10 = (d : Int) := by
          refine ⟨lowV c.toNat, fun w => lower_hex _ ?_ w, ?_⟩
          · split at hd
            · omega
            · split at hd
              · omega
              · cases hd
          · unfold lowV
            split at hd
            · cases hd
              rw [if_neg (by omega)]; omega
            · split at hd
              · cases hd
                rw [if_pos (by omega)]; omega
              · cases hd
        have g0 : (65 ≤ (c.toNat : Int) ∧ (c.toNat : Int) ≤ 70) ∨ (97 ≤ (c.toNat : Int) ∧ (c.toNat : Int) ≤ 102) := by
          split at hd
          · omega
          · split at hd
            · omega
            · cases hd
        clear hd h9
        rcases g0 with ⟨g0, g1⟩ | ⟨g0, g1⟩
        · have hc95 : ¬ (c.toNat : Int) = 95 := by omega
          go_wp2_with (go_at_call 122; refine (hlow _).mono ?_; rintro e w' ⟨rfl, rfl⟩)
          refine ⟨⟨k + 1, a * 16 + (d : Int), rfl, (by first | rfl | (congr 1; omega)), (by first | rfl | (congr 1; omega)), by omega, HN⟩, by simp [intOf]; omega⟩
        · have hc95 : ¬ (c.toNat : Int) = 95 := by omega
          go_wp2_with (go_at_call 122; refine (hlow _).mono ?_; rintro e w' ⟨rfl, rfl⟩)
          refine ⟨⟨k + 1, a * 16 + (d : Int), rfl, (by first | rfl | (congr 1; omega)), (by first | rfl | (congr 1; omega)), by omega, HN⟩, by simp [intOf]; omega⟩
    · have hkk : k = t.size := by omega
      subst hkk
      have hF : bs.take t.size = bs := by rw [← hLn, List.take_length]
      rw [hF] at ha
      subst ha
      go_wp2
      go_ret2
      exact ⟨rfl, rfl⟩
end Go.Proofs.YtfjldllegmfooaaDoor.Lx
end

section
/- Contracts of the library at this program: laid by the shelf in plain words. No condition. -/
namespace Go.Proofs
open Go.Shelf
def Tryd.lays137_ren : Go.Shelf.Ren := ⟨fun | 137 => 79 | 217 => 101 | 266 => 115 | n => n, fun | 9 => 9 | 5 => 5 | 3 => 3 | n => n, fun | n => n⟩
theorem Tryd.lays137 : Go.Proofs.Lays.n137 Tryd.prog Tryd.lays137_ren := {
  mixed := by kernel_rfl
  f137 := Tryd.func79.trans (congrArg some (by kernel_rfl))
  f217 := Tryd.func101.trans (congrArg some (by kernel_rfl))
  f266 := Tryd.func115.trans (congrArg some (by kernel_rfl))
  t3 := Tryd.underlying3
  a3 := Tryd.isAgg3
  z3 := Tryd.sizeOf3
  v3 := Tryd.zeroValue3
  t5 := Tryd.underlying5
  a5 := Tryd.isAgg5
  z5 := Tryd.sizeOf5
  v5 := Tryd.zeroValue5
  t9 := Tryd.underlying9
  a9 := Tryd.isAgg9
  z9 := Tryd.sizeOf9
  v9 := Tryd.zeroValue9 }
open Go.RowKit in
theorem Tryd.strings_IndexByte (s : ByteArray) (c : Int) (w : World) :
    Calls Tryd.prog 79 #[.string s, .int .u8 c] w fun e w' => e = .returned (.int .i64 (Lib.indexByte s.data.toList c.toNat.toUInt8)) ∧ w' = w := Any.strings_IndexByte Tryd.lays137 s c w
def Tryd.laysPu14_ren : Go.Shelf.Ren := ⟨fun | 14 => 100 | 16 => 113 | 17 => 114 | 19 => 122 | 20 => 123 | 21 => 124 | 22 => 125 | 23 => 126 | 24 => 127 | 25 => 130 | 27 => 49 | 26 => 131 | 28 => 69 | 29 => 94 | 30 => 105 | 31 => 106 | 32 => 107 | 33 => 108 | 35 => 117 | 34 => 116 | 36 => 118 | 37 => 119 | 38 => 120 | 39 => 128 | 40 => 129 | n => n, fun | 9 => 9 | 3 => 3 | 22 => 94 | 24 => 77 | 25 => 133 | 4 => 4 | 34 => 160 | 5 => 5 | 36 => 70 | 37 => 69 | 0 => 0 | 39 => 162 | 21 => 21 | 44 => 167 | 47 => 109 | 50 => 173 | 48 => 171 | 2 => 2 | 52 => 139 | 55 => 142 | 59 => 149 | 60 => 150 | 20 => 20 | 61 => 151 | 65 => 169 | 66 => 170 | 67 => 82 | n => n, fun | 0 => 4 | 1 => 5 | 2 => 1 | 3 => 6 | 4 => 7 | n => n⟩
theorem Tryd.laysPu14 : Go.Proofs.LaysPu.n14 Tryd.prog Tryd.laysPu14_ren := {
  mixed := by kernel_rfl
  f14 := Tryd.func100.trans (congrArg some (by kernel_rfl))
  f16 := Tryd.func113.trans (congrArg some (by kernel_rfl))
  f17 := Tryd.func114.trans (congrArg some (by kernel_rfl))
  f19 := Tryd.func122.trans (congrArg some (by kernel_rfl))
  f20 := Tryd.func123.trans (congrArg some (by kernel_rfl))
  f21 := Tryd.func124.trans (congrArg some (by kernel_rfl))
  f22 := Tryd.func125.trans (congrArg some (by kernel_rfl))
  f23 := Tryd.func126.trans (congrArg some (by kernel_rfl))
  f24 := Tryd.func127.trans (congrArg some (by kernel_rfl))
  f25 := Tryd.func130.trans (congrArg some (by kernel_rfl))
  f26 := Tryd.func131.trans (congrArg some (by kernel_rfl))
  f27 := Tryd.func49.trans (congrArg some (by kernel_rfl))
  f28 := Tryd.func69.trans (congrArg some (by kernel_rfl))
  f29 := Tryd.func94.trans (congrArg some (by kernel_rfl))
  f30 := Tryd.func105.trans (congrArg some (by kernel_rfl))
  f31 := Tryd.func106.trans (congrArg some (by kernel_rfl))
  f32 := Tryd.func107.trans (congrArg some (by kernel_rfl))
  f33 := Tryd.func108.trans (congrArg some (by kernel_rfl))
  f34 := Tryd.func116.trans (congrArg some (by kernel_rfl))
  f35 := Tryd.func117.trans (congrArg some (by kernel_rfl))
  f36 := Tryd.func118.trans (congrArg some (by kernel_rfl))
  f37 := Tryd.func119.trans (congrArg some (by kernel_rfl))
  f38 := Tryd.func120.trans (congrArg some (by kernel_rfl))
  f39 := Tryd.func128.trans (congrArg some (by kernel_rfl))
  f40 := Tryd.func129.trans (congrArg some (by kernel_rfl))
  t0 := Tryd.underlying0
  a0 := Tryd.isAgg0
  z0 := Tryd.sizeOf0
  v0 := Tryd.zeroValue0
  i0 := by kernel_rfl
  t2 := Tryd.underlying2
  a2 := Tryd.isAgg2
  z2 := Tryd.sizeOf2
  v2 := Tryd.zeroValue2
  i2 := by kernel_rfl
  t3 := Tryd.underlying3
  a3 := Tryd.isAgg3
  z3 := Tryd.sizeOf3
  v3 := Tryd.zeroValue3
  i3 := by kernel_rfl
  t4 := Tryd.underlying4
  a4 := Tryd.isAgg4
  z4 := Tryd.sizeOf4
  v4 := Tryd.zeroValue4
  i4 := by kernel_rfl
  t5 := Tryd.underlying5
  a5 := Tryd.isAgg5
  z5 := Tryd.sizeOf5
  v5 := Tryd.zeroValue5
  i5 := by kernel_rfl
  t9 := Tryd.underlying9
  a9 := Tryd.isAgg9
  z9 := Tryd.sizeOf9
  v9 := Tryd.zeroValue9
  i9 := by kernel_rfl
  t20 := Tryd.underlying20
  a20 := Tryd.isAgg20
  z20 := Tryd.sizeOf20
  v20 := Tryd.zeroValue20
  i20 := by kernel_rfl
  t21 := Tryd.underlying21
  a21 := Tryd.isAgg21
  z21 := Tryd.sizeOf21
  v21 := Tryd.zeroValue21
  i21 := by kernel_rfl
  t22 := Tryd.underlying94
  a22 := Tryd.isAgg94
  z22 := Tryd.sizeOf94
  v22 := Tryd.zeroValue94
  i22 := by kernel_rfl
  t24 := Tryd.underlying77
  a24 := Tryd.isAgg77
  z24 := Tryd.sizeOf77
  v24 := Tryd.zeroValue77
  i24 := by kernel_rfl
  t25 := Tryd.underlying133
  a25 := Tryd.isAgg133
  z25 := Tryd.sizeOf133
  v25 := Tryd.zeroValue133
  i25 := by kernel_rfl
  t34 := Tryd.underlying160
  a34 := Tryd.isAgg160
  z34 := Tryd.sizeOf160
  v34 := Tryd.zeroValue160
  i34 := by kernel_rfl
  c34 := by kernel_rfl
  t36 := Tryd.underlying70
  a36 := Tryd.isAgg70
  z36 := Tryd.sizeOf70
  v36 := Tryd.zeroValue70
  i36 := by kernel_rfl
  t37 := Tryd.underlying69
  a37 := Tryd.isAgg69
  z37 := Tryd.sizeOf69
  v37 := Tryd.zeroValue69
  i37 := by kernel_rfl
  t39 := Tryd.underlying162
  a39 := Tryd.isAgg162
  z39 := Tryd.sizeOf162
  v39 := Tryd.zeroValue162
  i39 := by kernel_rfl
  t44 := Tryd.underlying167
  a44 := Tryd.isAgg167
  z44 := Tryd.sizeOf167
  v44 := Tryd.zeroValue167
  i44 := by kernel_rfl
  t47 := Tryd.underlying109
  a47 := Tryd.isAgg109
  z47 := Tryd.sizeOf109
  v47 := Tryd.zeroValue109
  i47 := by kernel_rfl
  t48 := Tryd.underlying171
  a48 := Tryd.isAgg171
  z48 := Tryd.sizeOf171
  v48 := Tryd.zeroValue171
  i48 := by kernel_rfl
  t50 := Tryd.underlying173
  a50 := Tryd.isAgg173
  z50 := Tryd.sizeOf173
  v50 := Tryd.zeroValue173
  i50 := by kernel_rfl
  t52 := Tryd.underlying139
  a52 := Tryd.isAgg139
  z52 := Tryd.sizeOf139
  v52 := Tryd.zeroValue139
  i52 := by kernel_rfl
  t55 := Tryd.underlying142
  a55 := Tryd.isAgg142
  z55 := Tryd.sizeOf142
  v55 := Tryd.zeroValue142
  i55 := by kernel_rfl
  t59 := Tryd.underlying149
  a59 := Tryd.isAgg149
  z59 := Tryd.sizeOf149
  v59 := Tryd.zeroValue149
  i59 := by kernel_rfl
  t60 := Tryd.underlying150
  a60 := Tryd.isAgg150
  z60 := Tryd.sizeOf150
  v60 := Tryd.zeroValue150
  i60 := by kernel_rfl
  t61 := Tryd.underlying151
  a61 := Tryd.isAgg151
  z61 := Tryd.sizeOf151
  t65 := Tryd.underlying169
  a65 := Tryd.isAgg169
  z65 := Tryd.sizeOf169
  v65 := Tryd.zeroValue169
  i65 := by kernel_rfl
  t66 := Tryd.underlying170
  a66 := Tryd.isAgg170
  z66 := Tryd.sizeOf170
  v66 := Tryd.zeroValue170
  i66 := by kernel_rfl
  t67 := Tryd.underlying82
  a67 := Tryd.isAgg82
  z67 := Tryd.sizeOf82
  v67 := Tryd.zeroValue82
  i67 := by kernel_rfl
  g0 := by kernel_rfl
  m0 := by kernel_rfl
  g1 := by kernel_rfl
  m1 := by kernel_rfl
  g2 := by kernel_rfl
  m2 := by kernel_rfl
  g3 := by kernel_rfl
  m3 := by kernel_rfl
  g4 := by kernel_rfl
  m4 := by kernel_rfl }
open Go.RowKit in
theorem Tryd.strconv_ParseUint_10_at64_ok (s : ByteArray) (hmax : s.size ≤ 9223372036854775806) (u : Nat) (h : Lib.parseUintB 64 s.data.toList = .ok u) (w : World) :
    Calls Tryd.prog 100 #[.string s, .int .i64 10, .int .i64 64] w fun e w' => e = .returned (.tuple #[.int .u64 u, .nilIface]) ∧ (w' = w ∨ w' = Lib.bytesWorld w 5 s) := Any.strconv_ParseUint_10_at64_ok Tryd.laysPu14 s hmax u h w
open Go.RowKit in
theorem Tryd.strconv_ParseUint_10_at64_range (s : ByteArray) (hlim : s.size ≤ 281474976710656) (h : Lib.parseUintB 64 s.data.toList = .range) (ev : Value) (w : World) (hv : w.cell? ⟨5, 0, none⟩ = some ev) (hev : ev = .nilIface ∨ ∃ te pe, ev = .iface te pe) :
    Calls Tryd.prog 100 #[.string s, .int .i64 10, .int .i64 64] w fun e w' => ∃ N, e = .returned (.tuple #[.int .u64 18446744073709551615, .iface 162 (.pointer (some ⟨N, 0, none⟩))]) ∧ w.heap.size ≤ N ∧ w'.heap[N]? = some (.cells #[.string ⟨#[80, 97, 114, 115, 101, 85, 105, 110, 116]⟩, .string s, ev] 167 (0, 0)) ∧ Below w.heap.size w w' := Any.strconv_ParseUint_10_at64_range Tryd.laysPu14 s hlim h ev w hv hev
def Tryd.lays146_ren : Go.Shelf.Ren := ⟨fun | 146 => 35 | 221 => 51 | 268 => 71 | 138 => 72 | 143 => 73 | 195 => 95 | 197 => 96 | 218 => 97 | 219 => 98 | 260 => 109 | 217 => 101 | 225 => 110 | 224 => 111 | 267 => 112 | 266 => 115 | 314 => 121 | n => n, fun | 9 => 9 | 31 => 35 | 3 => 3 | 4 => 4 | 0 => 0 | 105 => 130 | 21 => 21 | 5 => 5 | 46 => 70 | 119 => 154 | 139 => 157 | 138 => 156 | 146 => 158 | 51 => 150 | n => n, fun | 1 => 0 | 3 => 2 | 4 => 3 | n => n⟩
theorem Tryd.lays146 : Go.Proofs.Lays.n146 Tryd.prog Tryd.lays146_ren := {
  mixed := by kernel_rfl
  f138 := Tryd.func72.trans (congrArg some (by kernel_rfl))
  f143 := Tryd.func73.trans (congrArg some (by kernel_rfl))
  f146 := Tryd.func35.trans (congrArg some (by kernel_rfl))
  f195 := Tryd.func95.trans (congrArg some (by kernel_rfl))
  f197 := Tryd.func96.trans (congrArg some (by kernel_rfl))
  f217 := Tryd.func101.trans (congrArg some (by kernel_rfl))
  f218 := Tryd.func97.trans (congrArg some (by kernel_rfl))
  f219 := Tryd.func98.trans (congrArg some (by kernel_rfl))
  f221 := Tryd.func51.trans (congrArg some (by kernel_rfl))
  f224 := Tryd.func111.trans (congrArg some (by kernel_rfl))
  f225 := Tryd.func110.trans (congrArg some (by kernel_rfl))
  f260 := Tryd.func109.trans (congrArg some (by kernel_rfl))
  f266 := Tryd.func115.trans (congrArg some (by kernel_rfl))
  f267 := Tryd.func112.trans (congrArg some (by kernel_rfl))
  f268 := Tryd.func71.trans (congrArg some (by kernel_rfl))
  f314 := Tryd.func121.trans (congrArg some (by kernel_rfl))
  t0 := Tryd.underlying0
  a0 := Tryd.isAgg0
  z0 := Tryd.sizeOf0
  v0 := Tryd.zeroValue0
  t3 := Tryd.underlying3
  a3 := Tryd.isAgg3
  z3 := Tryd.sizeOf3
  v3 := Tryd.zeroValue3
  t4 := Tryd.underlying4
  a4 := Tryd.isAgg4
  z4 := Tryd.sizeOf4
  v4 := Tryd.zeroValue4
  t5 := Tryd.underlying5
  a5 := Tryd.isAgg5
  z5 := Tryd.sizeOf5
  v5 := Tryd.zeroValue5
  t9 := Tryd.underlying9
  a9 := Tryd.isAgg9
  z9 := Tryd.sizeOf9
  v9 := Tryd.zeroValue9
  t21 := Tryd.underlying21
  a21 := Tryd.isAgg21
  z21 := Tryd.sizeOf21
  v21 := Tryd.zeroValue21
  t31 := Tryd.underlying35
  a31 := Tryd.isAgg35
  z31 := Tryd.sizeOf35
  v31 := Tryd.zeroValue35
  t46 := Tryd.underlying70
  a46 := Tryd.isAgg70
  z46 := Tryd.sizeOf70
  v46 := Tryd.zeroValue70
  t51 := Tryd.underlying150
  a51 := Tryd.isAgg150
  z51 := Tryd.sizeOf150
  v51 := Tryd.zeroValue150
  t105 := Tryd.underlying130
  a105 := Tryd.isAgg130
  z105 := Tryd.sizeOf130
  v105 := Tryd.zeroValue130
  t119 := Tryd.underlying154
  a119 := Tryd.isAgg154
  z119 := Tryd.sizeOf154
  t138 := Tryd.underlying156
  a138 := Tryd.isAgg156
  z138 := Tryd.sizeOf156
  v138 := Tryd.zeroValue156
  t139 := Tryd.underlying157
  a139 := Tryd.isAgg157
  z139 := Tryd.sizeOf157
  v139 := Tryd.zeroValue157
  t146 := Tryd.underlying158
  a146 := Tryd.isAgg158
  z146 := Tryd.sizeOf158
  v146 := Tryd.zeroValue158
  g1 := by kernel_rfl
  g3 := by kernel_rfl
  g4 := by kernel_rfl }
open Go.RowKit Go.Lib in
theorem Tryd.strings_Split (s sep : ByteArray) (m : Int) (w : World) (hs : s.size < 4294967281) (hm : w.cell? ⟨0, 0, none⟩ = some (.int .i64 m)) (h1 : 1 ≤ sep.size) :
    Calls Tryd.prog 35 #[.string s, .string sep] w fun e w' =>
      e = .returned (.slice (some ⟨w.heap.size, 0, none⟩) (Lib.countB s sep + 1) (Lib.countB s sep + 1)) ∧ w' = w.alloc (.cells ((Lib.splitB sep 0 (Lib.countB s sep) s).map Value.string).toArray 9) := Any.strings_Split Tryd.lays146 (by kernel_rfl) s sep m w hs hm h1
end Go.Proofs
end

section
/- Lines of two texts, one behind the other; what tokens hold; quoted texts. No condition. -/
namespace Go.Proofs.YtfjldllegmfooaaDoor.Lx
open Go.RowKit

theorem split_ne (l : Bs) : split l ≠ [] := by
  cases l with
  | nil => simp [split]
  | cons c r =>
    unfold split
    split
    · simp
    · split <;> simp
theorem split_app (a b : Bs) : split (a ++ 10 :: b) = split a ++ split b := by
  induction a with
  | nil => simp [split]
  | cons c r ih =>
    rw [List.cons_append]
    by_cases h : c = 10
    · rw [split, if_pos h, split, if_pos h, ih]; rfl
    · rw [split, if_neg h, ih, split, if_neg h]
      cases hs : split r with
      | nil => exact absurd hs (split_ne r)
      | cons w ws => rfl
theorem lines_eq (l : Bs) : lines l = if (split l).getLast? = some [] then (split l).dropLast else split l := by
  unfold lines
  split
  · rename_i h; rw [if_pos h]
  · rename_i h
    rw [if_neg (fun hh => h hh)]
theorem lines_nl (a : Bs) : lines (a ++ [10]) = split a := by
  rw [lines_eq, split_app]
  simp [split]
theorem lines_app (a b : Bs) : lines (a ++ 10 :: b) = split a ++ lines b := by
  rw [lines_eq, lines_eq, split_app]
  have hne := split_ne b
  have hl : (split a ++ split b).getLast? = (split b).getLast? := by
    rw [List.getLast?_append]
    cases h : (split b).getLast? with
    | none => exact absurd (List.getLast?_eq_none_iff.1 h) hne
    | some x => rfl
  rw [hl]
  split
  · rw [List.dropLast_append_of_ne_nil hne]
  · rfl
theorem linesT_app (A B : List Bs) : ∀ n, linesT n (A ++ B) = match linesT n A with
    | .error m => .error m
    | .ok r => match linesT (n + A.length) B with
      | .error m => .error m
      | .ok r2 => .ok (r ++ r2) := by
  induction A with
  | nil => intro n; simp only [List.nil_append, linesT, List.length_nil, Nat.add_zero]; cases linesT n B <;> rfl
  | cons l ls ih =>
    intro n
    rw [List.cons_append, linesT, linesT]
    cases lineT l with
    | none => rfl
    | some ts =>
      simp only [ih, List.length_cons]
      rw [show n + (ls.length + 1) = n + 1 + ls.length by omega]
      cases linesT (n + 1) ls with
      | error m => rfl
      | ok r =>
        simp only
        cases linesT (n + 1 + ls.length) B with
        | error m => rfl
        | ok r2 => simp only [List.append_assoc]
theorem linesT_shift (k : Nat) (B : List Bs) : ∀ n, linesT (n + k) B = match linesT n B with
    | .error m => .error (m + k)
    | .ok r => .ok (r.map fun q => (q.1 + k, q.2)) := by
  induction B with
  | nil => intro n; rfl
  | cons l ls ih =>
    intro n
    rw [linesT, linesT]
    cases lineT l with
    | none => rfl
    | some ts =>
      simp only
      rw [show n + k + 1 = n + 1 + k by omega, ih]
      cases linesT (n + 1) ls with
      | error m => rfl
      | ok r => simp only [List.map_append, List.map_map]; rfl

/-- A token as it may be: its kind; no blank in it but in a text. -/
structure TokOk (t : Tok) : Prop where
  k0 : 1 ≤ t.kind
  k1 : t.kind ≤ 6
  clean : t.kind ≠ 3 → ∀ c ∈ t.text, 33 ≤ c.toNat ∧ c.toNat ≤ 126
theorem isLet_in {c : UInt8} (h : isLet c = true) : 65 ≤ c.toNat ∧ c.toNat ≤ 122 := by
  unfold isLet at h
  simp only [Bool.or_eq_true, Bool.and_eq_true, decide_eq_true_eq] at h
  omega
theorem isDig_in {c : UInt8} (h : isDig c = true) : 48 ≤ c.toNat ∧ c.toNat ≤ 57 := by
  unfold isDig at h
  simpa only [Bool.and_eq_true, decide_eq_true_eq] using h
theorem isFst_in {c : UInt8} (h : isFst c = true) : 46 ≤ c.toNat ∧ c.toNat ≤ 122 := by
  unfold isFst at h
  simp only [Bool.or_eq_true, beq_iff_eq] at h
  rcases h with (h | h) | h
  · have := isLet_in h; omega
  · omega
  · omega
theorem isIns_in {c : UInt8} (h : isIns c = true) : 46 ≤ c.toNat ∧ c.toNat ≤ 122 := by
  unfold isIns at h
  simp only [Bool.or_eq_true] at h
  rcases h with h | h
  · exact isFst_in h
  · have := isDig_in h; omega
theorem isReg_in {c : UInt8} (h : isReg c = true) : 48 ≤ c.toNat ∧ c.toNat ≤ 122 := by
  unfold isReg at h
  simp only [Bool.or_eq_true] at h
  rcases h with h | h
  · have := isLet_in h; omega
  · have := isDig_in h; omega
theorem take_while_all {p : UInt8 → Bool} (l : Bs) : ∀ c ∈ l.take (l.takeWhile p).length, p c = true := by
  induction l with
  | nil => intro c h; simp at h
  | cons a l ih =>
    intro c h
    cases hp : p a with
    | true =>
      rw [List.takeWhile_cons_of_pos hp, List.length_cons, List.take_succ_cons] at h
      rcases List.mem_cons.1 h with rfl | h
      · exact hp
      · exact ih c h
    | false =>
      rw [List.takeWhile_cons_of_neg (by rw [hp]; simp), List.length_nil, List.take_zero] at h
      cases h
theorem signs_in {c : UInt8} (h : signs.contains c = true) : 33 ≤ c.toNat ∧ c.toNat ≤ 126 := by
  have : c ∈ signs := by simpa using h
  simp only [signs, List.mem_cons, List.not_mem_nil, or_false] at this
  rcases this with rfl | rfl | rfl | rfl | rfl | rfl | rfl | rfl | rfl | rfl | rfl | rfl | rfl | rfl | rfl <;> decide
theorem next_ok {l : Bs} {t : Tok} {n : Nat} (h : nextT l = some (t, n)) : TokOk t := by
  unfold nextT at h
  simp only at h
  split at h
  · split at h
    · simp only [Option.some.injEq, Prod.mk.injEq] at h
      obtain ⟨rfl, rfl⟩ := h
      exact ⟨by show (1 : Int) ≤ 1; omega, by show (1 : Int) ≤ 6; omega, fun _ c hc => by have := isIns_in (take_while_all l c hc); omega⟩
    · cases h
  · split at h
    · obtain ⟨q, _, hq⟩ := Option.map_eq_some_iff.1 h
      simp only [Prod.mk.injEq] at hq
      obtain ⟨rfl, rfl⟩ := hq
      exact ⟨by show (1 : Int) ≤ 2; omega, by show (2 : Int) ≤ 6; omega, fun _ c hc => by cases hc⟩
    · split at h
      · split at h
        · simp only [Option.some.injEq, Prod.mk.injEq] at h
          obtain ⟨rfl, rfl⟩ := h
          refine ⟨by show (1 : Int) ≤ 5; omega, by show (5 : Int) ≤ 6; omega, fun _ c hc => ?_⟩
          have hc' : c ∈ (l.drop 1).take ((l.drop 1).takeWhile isReg).length := by
            have : (l.take (1 + ((l.drop 1).takeWhile isReg).length)).drop 1 = (l.drop 1).take ((l.drop 1).takeWhile isReg).length := by
              rw [List.drop_take, Nat.add_sub_cancel_left]
            rw [← this]; exact hc
          have := isReg_in (take_while_all _ c hc')
          omega
        · cases h
      · split at h
        · split at h
          · cases h
          · simp only [Option.some.injEq, Prod.mk.injEq] at h
            obtain ⟨rfl, rfl⟩ := h
            exact ⟨by show (1 : Int) ≤ 2; omega, by show (2 : Int) ≤ 6; omega, fun _ c hc => by cases hc⟩
        · split at h
          · obtain ⟨q, _, hq⟩ := Option.map_eq_some_iff.1 h
            simp only [Prod.mk.injEq] at hq
            obtain ⟨rfl, rfl⟩ := hq
            exact ⟨by show (1 : Int) ≤ 3; omega, by show (3 : Int) ≤ 6; omega, fun h => absurd rfl h⟩
          · split at h
            · simp only [Option.some.injEq, Prod.mk.injEq] at h
              obtain ⟨rfl, rfl⟩ := h
              exact ⟨by show (1 : Int) ≤ 6; omega, by show (6 : Int) ≤ 6; omega, fun _ c hc => by cases hc⟩
            · split at h
              · rename_i hc
                simp only [Option.some.injEq, Prod.mk.injEq] at h
                obtain ⟨rfl, rfl⟩ := h
                refine ⟨by show (1 : Int) ≤ 4; omega, by show (4 : Int) ≤ 6; omega, fun _ c hm => ?_⟩
                have hb : ∀ d ∈ [byt l 0, byt l 1], 33 ≤ d.toNat ∧ d.toNat ≤ 126 := by
                  intro d hd
                  have hd' : d = byt l 0 := by
                    rcases List.mem_cons.1 hd with rfl | hd
                    · rfl
                    · rw [List.mem_singleton.1 hd, hc.2]
                  rw [hd']
                  rcases hc.1 with h | h <;> rw [h] <;> decide
                have hm' : c ∈ l.take 2 := hm
                refine hb c ?_
                match l, hm' with
                | [], hm => simp at hm
                | [a], hm => simp at hm; subst hm; simp [byt]
                | a :: b :: r, hm => simp at hm; rcases hm with rfl | rfl <;> simp [byt]
              · split at h
                · rename_i hc
                  simp only [Option.some.injEq, Prod.mk.injEq] at h
                  obtain ⟨rfl, rfl⟩ := h
                  refine ⟨by show (1 : Int) ≤ 4; omega, by show (4 : Int) ≤ 6; omega, fun _ c hm => ?_⟩
                  have hm' : c ∈ l.take 1 := hm
                  match l, hm' with
                  | [], hm => simp at hm
                  | a :: r, hm => simp at hm; subst hm; exact signs_in hc
                · cases h
theorem lineF_ok : ∀ (k : Nat) (l : Bs) (ts : List Tok), lineF k l = some ts → ∀ t ∈ ts, TokOk t
  | k, [], ts, h, t, ht => by
    have : ts = [] := by cases k <;> simpa [lineF] using h.symm
    rw [this] at ht; cases ht
  | 0, _ :: _, ts, h, t, ht => by simp [lineF] at h
  | k + 1, c :: r, ts, h, t, ht => by
    rw [lineF] at h
    split at h
    · exact lineF_ok k r ts h t ht
    · split at h
      · simp only [Option.some.injEq] at h
        subst h; cases ht
      · split at h
        · cases h
        · rename_i t0 n hn
          obtain ⟨q, hq, rfl⟩ := Option.map_eq_some_iff.1 h
          rcases List.mem_cons.1 ht with rfl | ht
          · exact next_ok hn
          · exact lineF_ok k _ q hq t ht
theorem endT_ok : TokOk endT := ⟨by decide, by decide, fun _ c hc => by cases hc⟩
theorem lineT_ok {l : Bs} {ts : List Tok} (h : lineT l = some ts) : (∀ t ∈ ts, TokOk t) ∧ (ts ≠ [] → ts.getLast? = some endT) := by
  unfold lineT at h
  obtain ⟨q, hq, hm⟩ := Option.map_eq_some_iff.1 h
  have hok := lineF_ok _ _ _ hq
  cases q with
  | nil => simp only at hm; subst hm; exact ⟨fun t ht => (by cases ht), fun h => absurd rfl h⟩
  | cons a q =>
    simp only at hm
    subst hm
    refine ⟨fun t ht => ?_, fun _ => by rw [List.getLast?_append]; rfl⟩
    rcases List.mem_append.1 ht with ht | ht
    · exact hok t ht
    · rw [List.mem_singleton.1 ht]; exact endT_ok
/-- Tokens as lines have them. -/
def chainOk : List (Nat × Tok) → Prop
  | [] => True
  | [q] => q.2.kind = 6
  | q :: q' :: r => (q.1 ≤ q'.1 ∧ (q.1 ≠ q'.1 → q.2.kind = 6)) ∧ chainOk (q' :: r)
theorem chain_app : ∀ {A B : List (Nat × Tok)}, chainOk A → chainOk B → (∀ a ∈ A, ∀ b ∈ B, a.1 ≤ b.1) → chainOk (A ++ B)
  | [], _, _, hB, _ => hB
  | [q], [], hA, _, _ => hA
  | [q], b :: B, hA, hB, h => ⟨⟨h q (by simp) b (by simp), fun _ => hA⟩, hB⟩
  | q :: q' :: r, B, hA, hB, h => ⟨hA.1, chain_app (A := q' :: r) hA.2 hB fun a ha b hb => h a (List.mem_cons_of_mem _ ha) b hb⟩
theorem chain_line (n : Nat) : ∀ {ts : List Tok}, (ts ≠ [] → ts.getLast? = some endT) → chainOk (ts.map fun t => (n, t))
  | [], _ => trivial
  | [t], h => by
    have := h (by simp)
    simp only [List.getLast?_singleton, Option.some.injEq] at this
    subst this
    rfl
  | t :: t' :: r, h => ⟨⟨Nat.le_refl _, fun h => absurd rfl h⟩, chain_line n (ts := t' :: r) fun _ => by
      have := h (by simp)
      rwa [List.getLast?_cons_cons] at this⟩
theorem linesT_clean : ∀ (ls : List Bs) (n : Nat) (r : List (Nat × Tok)), linesT n ls = .ok r → chainOk r ∧ ∀ q ∈ r, n ≤ q.1 ∧ TokOk q.2
  | [], n, r, h => by
    simp only [linesT, Except.ok.injEq] at h
    subst h
    exact ⟨trivial, fun q hq => by cases hq⟩
  | l :: ls, n, r, h => by
    rw [linesT] at h
    cases hl : lineT l with
    | none => rw [hl] at h; cases h
    | some ts =>
      rw [hl] at h
      simp only at h
      cases hr : linesT (n + 1) ls with
      | error m => rw [hr] at h; cases h
      | ok r' =>
        rw [hr] at h
        simp only [Except.ok.injEq] at h
        subst h
        obtain ⟨c1, c2⟩ := linesT_clean ls (n + 1) r' hr
        obtain ⟨o1, o2⟩ := lineT_ok hl
        refine ⟨chain_app (chain_line n o2) c1 fun a ha b hb => ?_, fun q hq => ?_⟩
        · obtain ⟨t, _, rfl⟩ := List.mem_map.1 ha
          have := (c2 b hb).1
          show n ≤ b.1
          omega
        · rcases List.mem_append.1 hq with hq | hq
          · obtain ⟨t, ht, rfl⟩ := List.mem_map.1 hq
            exact ⟨Nat.le_refl _, o1 t ht⟩
          · have := c2 q hq
            exact ⟨by omega, this.2⟩
theorem chain_at : ∀ {r : List (Nat × Tok)}, chainOk r → ∀ i, (h : i + 1 < r.length) → (r[i]'(by omega)).1 ≤ (r[i + 1]).1 ∧ ((r[i]'(by omega)).1 ≠ (r[i + 1]).1 → (r[i]'(by omega)).2.kind = 6)
  | [], _, i, h => by simp at h
  | [_], _, i, h => by simp at h
  | q :: q' :: r, hc, 0, h => hc.1
  | q :: q' :: r, hc, i + 1, h => chain_at (r := q' :: r) hc.2 i (by simpa using h)
theorem chain_last : ∀ {r : List (Nat × Tok)} {q : Nat × Tok}, chainOk r → r.getLast? = some q → q.2.kind = 6
  | [], _, _, h => by simp at h
  | [q], q', hc, h => by
    simp only [List.getLast?_singleton, Option.some.injEq] at h
    subst h; exact hc
  | a :: b :: r, q, hc, h => chain_last (r := b :: r) hc.2 (by rwa [List.getLast?_cons_cons] at h)

/-- A text, quoted. -/
def hexC (n : Nat) : UInt8 := if n < 10 then UInt8.ofNat (48 + n) else UInt8.ofNat (87 + n)
def quoC (c : UInt8) : Bs :=
  if c = 34 ∨ c = 92 then [92, c]
  else if c = 10 then [92, 110]
  else if c = 9 then [92, 116]
  else if c.toNat < 32 ∨ c.toNat > 126 then [92, 120, hexC (c.toNat / 16), hexC (c.toNat % 16)]
  else [c]
def quoteT (l : Bs) : Bs := 34 :: (l.flatMap quoC ++ [34])
theorem hex_hex : ∀ n : Fin 16, hexV (hexC n.val) = some n.val := by decide
theorem quo_end (r : Bs) : quo (34 :: r) = some ([], 1) := by rw [quo.eq_def]; rfl
theorem quo_plain {c : UInt8} (r : Bs) (h1 : c ≠ 34) (h2 : ¬ (c.toNat < 32 ∨ c.toNat > 126)) (h3 : c ≠ 92) : quo (c :: r) = (quo r).map fun q => (c :: q.1, q.2 + 1) := by
  rw [quo.eq_def]; simp only; rw [if_neg h1, if_neg h2, if_pos h3]
theorem quo_esc {e : UInt8} (r : Bs) (h : e = 92 ∨ e = 34) : quo (92 :: e :: r) = (quo r).map fun q => (e :: q.1, q.2 + 2) := by
  rw [quo.eq_def]; simp only; rw [if_neg (by decide), if_neg (by decide), if_neg (by decide), if_pos h]
theorem quo_n (r : Bs) : quo (92 :: 110 :: r) = (quo r).map fun q => (10 :: q.1, q.2 + 2) := by
  rw [quo.eq_def]; rfl
theorem quo_t (r : Bs) : quo (92 :: 116 :: r) = (quo r).map fun q => (9 :: q.1, q.2 + 2) := by
  rw [quo.eq_def]; rfl
theorem quo_0 (r : Bs) : quo (92 :: 48 :: r) = (quo r).map fun q => (0 :: q.1, q.2 + 2) := by
  rw [quo.eq_def]; rfl
theorem quo_x (h l : UInt8) (r : Bs) : quo (92 :: 120 :: h :: l :: r) = match hexV h, hexV l with
    | some a, some b => (quo r).map fun q => (UInt8.ofNat (16 * a + b) :: q.1, q.2 + 4)
    | _, _ => none := by
  rw [quo.eq_def]; rfl
theorem quo_char (c : UInt8) (r : Bs) {b : Bs} {k : Nat} (h : quo r = some (b, k)) : quo (quoC c ++ r) = some (c :: b, k + (quoC c).length) := by
  unfold quoC
  split
  · rename_i hc
    show quo (92 :: c :: r) = _
    rw [quo_esc r hc.symm, h]; rfl
  · rename_i h1
    split
    · rename_i hc
      subst hc
      show quo (92 :: 110 :: r) = _
      rw [quo_n, h]; rfl
    · split
      · rename_i hc
        subst hc
        show quo (92 :: 116 :: r) = _
        rw [quo_t, h]; rfl
      · split
        · show quo (92 :: 120 :: hexC (c.toNat / 16) :: hexC (c.toNat % 16) :: r) = _
          have hlt := c.toNat_lt
          have e1 := hex_hex ⟨c.toNat / 16, by omega⟩
          have e2 := hex_hex ⟨c.toNat % 16, by omega⟩
          simp only at e1 e2
          rw [quo_x, e1, e2, h]
          have e3 : UInt8.ofNat (16 * (c.toNat / 16) + c.toNat % 16) = c := by
            rw [show 16 * (c.toNat / 16) + c.toNat % 16 = c.toNat by omega]; exact UInt8.ofNat_toNat
          simp only [Option.map_some, e3]; rfl
        · rename_i h2 h3 h4
          show quo (c :: r) = _
          rw [quo_plain r (fun hh => h1 (.inl hh)) h4 (fun hh => h1 (.inr hh)), h]; rfl
theorem quo_quote (l r : Bs) : quo (l.flatMap quoC ++ 34 :: r) = some (l, (l.flatMap quoC).length + 1) := by
  induction l with
  | nil => exact quo_end r
  | cons c l ih =>
    rw [List.flatMap_cons, List.append_assoc, quo_char c _ ih, List.length_append]
    congr 2
    omega
theorem quoC_len (c : UInt8) : 1 ≤ (quoC c).length ∧ (quoC c).length ≤ 4 := by
  unfold quoC
  split
  · simp
  · split
    · simp
    · split
      · simp
      · split <;> simp
theorem quoC_nl (c : UInt8) : 10 ∉ quoC c := by
  unfold quoC
  split
  · rename_i h; rcases h with rfl | rfl <;> decide
  · split
    · decide
    · split
      · decide
      · split
        · rename_i h1 h2 h3 h4
          have hlt := c.toNat_lt
          have hx : ∀ n : Fin 16, hexC n.val ≠ 10 := by decide
          have a := hx ⟨c.toNat / 16, by omega⟩
          have b := hx ⟨c.toNat % 16, by omega⟩
          simp only at a b
          intro hm
          rcases List.mem_cons.1 hm with h | hm
          · exact absurd h (by decide)
          · rcases List.mem_cons.1 hm with h | hm
            · exact absurd h (by decide)
            · rcases List.mem_cons.1 hm with h | hm
              · exact a h.symm
              · exact b (List.mem_singleton.1 hm).symm
        · rename_i h1 h2 h3 h4
          intro hm
          exact h2 (List.mem_singleton.1 hm).symm
theorem split_plain : ∀ (l : Bs), 10 ∉ l → split l = [l]
  | [], _ => rfl
  | c :: r, h => by
    rw [split, if_neg (fun hh => h (by rw [hh]; exact List.mem_cons_self)), split_plain r fun hh => h (List.mem_cons_of_mem _ hh)]
theorem flat_len (l : Bs) : (l.flatMap quoC).length ≤ 4 * l.length := by
  induction l with
  | nil => simp
  | cons c l ih =>
    rw [List.flatMap_cons, List.length_append, List.length_cons]
    have := (quoC_len c).2
    omega
theorem allT_quote (l : Bs) (h : l.length ≤ 16000) : allT (quoteT l) = .ok [(1, ⟨3, 0, l⟩), (1, endT)] := by
  have hlen : (quoteT l).length = (l.flatMap quoC).length + 2 := by unfold quoteT; simp
  have hf := flat_len l
  have hnl : 10 ∉ quoteT l := by
    unfold quoteT
    intro hm
    rcases List.mem_cons.1 hm with h | hm
    · exact absurd h (by decide)
    · rcases List.mem_append.1 hm with hm | hm
      · obtain ⟨c, _, hc⟩ := List.mem_flatMap.1 hm
        exact quoC_nl c hc
      · exact absurd (List.mem_singleton.1 hm) (by decide)
  have hsp := split_plain _ hnl
  have hlines : lines (quoteT l) = [quoteT l] := by
    rw [lines_eq, hsp, if_neg]
    simp [quoteT]
  have hnext : nextT (quoteT l) = some (⟨3, 0, l⟩, (quoteT l).length) := by
    unfold nextT
    simp only
    have hb : byt (quoteT l) 0 = 34 := rfl
    rw [hb, if_neg (by decide), if_neg (by decide), if_neg (by decide), if_neg (by decide), if_pos rfl]
    have : (quoteT l).drop 1 = l.flatMap quoC ++ 34 :: [] := rfl
    rw [this, quo_quote, hlen]; rfl
  have hline : lineT (quoteT l) = some [⟨3, 0, l⟩, endT] := by
    unfold lineT
    have hF : lineF (quoteT l).length (quoteT l) = some [⟨3, 0, l⟩] := by
      rw [hlen]
      show lineF ((l.flatMap quoC).length + 1 + 1) (34 :: (l.flatMap quoC ++ [34])) = _
      rw [lineF, if_neg (by decide), if_neg (by decide)]
      have e : nextT (34 :: (l.flatMap quoC ++ [34])) = some (⟨3, 0, l⟩, (quoteT l).length) := hnext
      rw [e]
      simp only
      have : (34 :: (l.flatMap quoC ++ [34])).drop (quoteT l).length = [] := List.drop_of_length_le (Nat.le_refl _)
      rw [this]
      rfl
    rw [hF]; rfl
  unfold allT
  rw [if_neg (by omega), hlines, if_neg (by simp)]
  simp only [linesT, hline]
  rfl
end Go.Proofs.YtfjldllegmfooaaDoor.Lx
end

section
/- The document's numbers are the program's. No condition. -/
namespace Go.Proofs.YtfjldllegmfooaaDoor.Lx
open Go.RowKit

/-- The document's way: the longest word; hex, or decimal. -/
def decOk (l : Bs) : Bool := l.all isDig && decide (valB 10 l < 18446744073709551616)
def refNum (l : Bs) : Option (Int × Nat) :=
  let n := (l.takeWhile isIns).length
  if n > 2 ∧ n ≤ 18 ∧ byt l 0 = 48 ∧ byt l 1 = 120 then
    if ((l.take n).drop 2).all isHex = true then some (i64 (valB 16 ((l.take n).drop 2)), n) else none
  else if (n > 1 ∧ byt l 0 = 48) ∨ n > 20 ∨ decOk (l.take n) = false then none
  else some (i64 (valB 10 (l.take n)), n)
theorem tw_take {p : UInt8 → Bool} (l : Bs) : l.take (l.takeWhile p).length = l.takeWhile p := by
  induction l with
  | nil => rfl
  | cons a l ih =>
    cases hp : p a with
    | true => rw [List.takeWhile_cons_of_pos hp, List.length_cons, List.take_succ_cons, ih]
    | false => rw [List.takeWhile_cons_of_neg (by rw [hp]; simp)]; rfl
theorem tw_stops {p : UInt8 → Bool} (l : Bs) (h : (l.takeWhile p).length < l.length) : p (byt l (l.takeWhile p).length) = false := by
  induction l with
  | nil => simp at h
  | cons a l ih =>
    cases hp : p a with
    | true =>
      rw [List.takeWhile_cons_of_pos hp, List.length_cons] at h ⊢
      exact ih (by simpa using h)
    | false =>
      rw [List.takeWhile_cons_of_neg (by rw [hp]; simp)]
      exact hp
/-- Where a longer row of letters begins with a shorter one: they end together, or a letter stands behind. -/
theorem tw_two {p q : UInt8 → Bool} (hpq : ∀ c, p c = true → q c = true) (h0 : q 0 = false) (l : Bs) : (l.takeWhile p).length ≤ (l.takeWhile q).length ∧ (q (byt l (l.takeWhile p).length) = false ↔ (l.takeWhile q).length = (l.takeWhile p).length) := by
  induction l with
  | nil => exact ⟨Nat.le_refl _, fun _ => rfl, fun _ => h0⟩
  | cons a l ih =>
    cases hp : p a with
    | true =>
      rw [List.takeWhile_cons_of_pos hp, List.takeWhile_cons_of_pos (hpq a hp), List.length_cons, List.length_cons]
      refine ⟨by omega, ?_⟩
      have : byt (a :: l) ((l.takeWhile p).length + 1) = byt l (l.takeWhile p).length := rfl
      rw [this, ih.2]
      omega
    | false =>
      rw [List.takeWhile_cons_of_neg (p := p) (by rw [hp]; simp)]
      refine ⟨Nat.zero_le _, ?_⟩
      show q a = false ↔ _
      cases hq : q a with
      | true => rw [List.takeWhile_cons_of_pos hq]; simp
      | false => rw [List.takeWhile_cons_of_neg (by rw [hq]; simp)]; simp
theorem dig_ins {c : UInt8} (h : isDig c = true) : isIns c = true := by unfold isIns; rw [h, Bool.or_true]
theorem hex_ins {c : UInt8} (h : isHex c = true) : isIns c = true := by
  unfold isHex hexV at h
  unfold isIns isFst isLet isDig
  simp only [Bool.or_eq_true, Bool.and_eq_true, decide_eq_true_eq, beq_iff_eq]
  split at h
  · omega
  · split at h
    · omega
    · split at h
      · omega
      · cases h
theorem all_tw {p : UInt8 → Bool} (l : Bs) (n : Nat) (h : n ≤ l.length) : (l.take n).all p = true ↔ n ≤ (l.takeWhile p).length := by
  induction l generalizing n with
  | nil => have : n = 0 := by simpa using h
           subst this; simp
  | cons a l ih =>
    cases n with
    | zero => simp
    | succ n =>
      rw [List.take_succ_cons, List.all_cons]
      cases hp : p a with
      | true => rw [List.takeWhile_cons_of_pos hp, List.length_cons, Bool.true_and, ih n (by simpa using h)]; omega
      | false => rw [List.takeWhile_cons_of_neg (by rw [hp]; simp)]; simp
theorem hexV_dig {c : UInt8} (h : isDig c = true) : hexV c = some (c.toNat - 48) := by
  have := isDig_in h
  unfold hexV; rw [if_pos this]
theorem val_ge (b : Nat) (l : Bs) : ∀ a, a * b ^ l.length ≤ l.foldl (fun a c => b * a + (hexV c).getD 0) a := by
  induction l with
  | nil => intro a; simp
  | cons c l ih =>
    intro a
    rw [List.foldl_cons, List.length_cons]
    refine Nat.le_trans ?_ (ih _)
    rw [Nat.pow_succ]
    calc a * (b ^ l.length * b) = (b * a) * b ^ l.length := by rw [Nat.mul_comm (b ^ l.length) b, ← Nat.mul_assoc, Nat.mul_comm a b]
      _ ≤ (b * a + (hexV c).getD 0) * b ^ l.length := Nat.mul_le_mul_right _ (Nat.le_add_right _ _)
theorem dec_long {l : Bs} (h : l.all isDig = true) (h0 : byt l 0 ≠ 48) (hv : valB 10 l < 18446744073709551616) : l.length ≤ 20 := by
  cases l with
  | nil => simp
  | cons c l =>
    rw [List.all_cons, Bool.and_eq_true] at h
    have hc := isDig_in h.1
    have h0' : c ≠ 48 := h0
    have h1 : 1 ≤ c.toNat - 48 := by
      have : c.toNat ≠ 48 := fun hh => h0' (UInt8.toNat_inj.1 hh)
      omega
    unfold valB at hv
    rw [List.foldl_cons, hexV_dig h.1] at hv
    have := val_ge 10 l (10 * 0 + (some (c.toNat - 48)).getD 0)
    simp only [Nat.mul_zero, Nat.zero_add, Option.getD_some] at this hv
    by_cases hl : l.length ≤ 19
    · simp only [List.length_cons]; omega
    · have hp : 10 ^ 20 ≤ 10 ^ l.length := Nat.pow_le_pow_right (by decide) (by omega)
      have : 10 ^ l.length ≤ (c.toNat - 48) * 10 ^ l.length := Nat.le_mul_of_pos_left _ h1
      have e : (10 : Nat) ^ 20 = 100000000000000000000 := by decide
      omega
theorem ref_num {l : Bs} (hd : isDig (byt l 0) = true) : refNum l = numT l := by
  obtain ⟨a1, a2⟩ := tw_two (p := isDig) (q := isIns) (fun _ => dig_ins) (by decide) l
  have hne : 0 < l.length := by
    cases l with
    | nil => revert hd; decide
    | cons a l => simp
  have nle : (l.takeWhile isIns).length ≤ l.length := List.Sublist.length_le (List.takeWhile_sublist _)
  unfold refNum numT
  simp only
  by_cases hx : byt l 0 = 48 ∧ byt l 1 = 120
  · obtain ⟨hx0, hx1⟩ := hx
    rw [hx0, hx1, if_pos (show (48 : UInt8) = 48 ∧ (120 : UInt8) = 120 from ⟨rfl, rfl⟩)]
    match l, hx0, hx1, nle with
    | [], h, _, _ => exact absurd h (by decide)
    | [c], _, h, _ => exact absurd (show (0 : UInt8) = 120 from h) (by decide)
    | c :: x :: r, hx0, hx1, nle =>
      have hc : c = 48 := hx0
      have hxx : x = 120 := hx1
      subst hc; subst hxx
      have en : ((48 :: 120 :: r).takeWhile isIns).length = 2 + (r.takeWhile isIns).length := by
        rw [List.takeWhile_cons_of_pos (by decide), List.takeWhile_cons_of_pos (by decide)]; simp only [List.length_cons]; omega
      obtain ⟨b1, b2⟩ := tw_two (p := isHex) (q := isIns) (fun _ => hex_ins) (by decide) r
      have rle : (r.takeWhile isIns).length ≤ r.length := List.Sublist.length_le (List.takeWhile_sublist _)
      have ed : ∀ k, ((48 :: 120 :: r).take (2 + k)).drop 2 = r.take k := fun k => by
        rw [Nat.add_comm, List.take_succ_cons, List.take_succ_cons]; rfl
      have eb : ∀ k, byt (48 :: 120 :: r) (2 + k) = byt r k := fun k => by rw [Nat.add_comm]; rfl
      rw [en, ed]
      have edd : (48 :: 120 :: r).drop 2 = r := rfl
      rw [edd, ed, eb]
      generalize hN : (r.takeWhile isIns).length = N at *
      generalize hM : (r.takeWhile isHex).length = M at *
      by_cases h1 : 2 + N > 2 ∧ 2 + N ≤ 18
      · rw [if_pos ⟨h1.1, h1.2, rfl, rfl⟩]
        have hall : ((r.take N).all isHex = true) ↔ N ≤ M := by rw [all_tw r N rle, hM]
        by_cases h2 : N = M
        · rw [if_pos (hall.2 (by omega)), if_neg, h2]
          rintro (h | h | h)
          · omega
          · omega
          · have := b2.2 h2; rw [h] at this; cases this
        · rw [if_neg (fun h => h2 (by have := hall.1 h; omega)), if_pos]
          right; right
          cases hh : isIns (byt r M) with
          | true => rfl
          | false => exact absurd (b2.1 hh) h2
      · rw [if_neg (fun h => h1 ⟨h.1, h.2.1⟩), if_pos (.inl ⟨by omega, rfl⟩), if_pos]
        by_cases h2 : N = M
        · rw [← h2]; omega
        · right; right
          cases hh : isIns (byt r M) with
          | true => rfl
          | false => exact absurd (b2.1 hh) h2
  · rw [if_neg (fun h => hx ⟨h.2.2.1, h.2.2.2⟩), if_neg hx]
    generalize hN : (l.takeWhile isIns).length = N at *
    generalize hM : (l.takeWhile isDig).length = M at *
    have m1 : 1 ≤ M := by
      cases l with
      | nil => simp at hne
      | cons a l => rw [List.takeWhile_cons_of_pos (show isDig a = true from hd), List.length_cons] at hM; omega
    have hall : ((l.take N).all isDig = true) ↔ N ≤ M := by rw [all_tw l N nle, hM]
    by_cases h2 : N = M
    · subst h2
      have hda : (l.take N).all isDig = true := hall.2 (Nat.le_refl _)
      have hins : isIns (byt l N) = false := a2.2 rfl
      rw [hins]
      unfold decOk
      rw [hda, Bool.true_and]
      by_cases h3 : byt l 0 = 48 ∧ N > 1
      · rw [if_pos (.inl ⟨h3.2, h3.1⟩), if_pos (.inl h3)]
      · by_cases h4 : valB 10 (l.take N) < 18446744073709551616
        · have hlen : N ≤ 20 := by
            by_cases h5 : byt l 0 = 48
            · have : ¬ N > 1 := fun hh => h3 ⟨h5, hh⟩
              omega
            · have e0 : byt (l.take N) 0 ≠ 48 := by
                have : byt (l.take N) 0 = byt l 0 := by
                  unfold byt
                  rw [List.getD_eq_getElem?_getD, List.getD_eq_getElem?_getD, List.getElem?_take_of_lt (by omega)]
                rw [this]; exact h5
              have := dec_long hda e0 h4
              rw [List.length_take] at this
              omega
          rw [decide_eq_true h4, if_neg, if_neg]
          · rintro (h | h | h)
            · exact h3 h
            · omega
            · cases h
          · rintro (h | h | h)
            · exact h3 ⟨h.2, h.1⟩
            · omega
            · cases h
        · rw [decide_eq_false h4, if_pos (.inr (.inr rfl)), if_pos (.inr (.inl (by omega)))]
    · have hno : (l.take N).all isDig = false := by
        cases hh : (l.take N).all isDig with
        | false => rfl
        | true => exact absurd (hall.1 hh) (by omega)
      have hins : isIns (byt l M) = true := by
        cases hh : isIns (byt l M) with
        | true => rfl
        | false => exact absurd (a2.1 hh) h2
      unfold decOk
      rw [hno, Bool.false_and, if_pos (.inr (.inr rfl)), if_pos (.inr (.inr hins))]
end Go.Proofs.YtfjldllegmfooaaDoor.Lx
end

section
/- The library's functions that the lexer asks: contracts for the reader. No condition. -/
namespace Go.Proofs.YtfjldllegmfooaaDoor.Lx
open Go.RowKit Go.IntWalk Go.Proofs.YtfjldllegmfooaaDoor.X

set_option maxRecDepth 100000 in
theorem pu16p (t : ByteArray) (hne : 1 ≤ t.size) (h16 : t.size ≤ 16) (hx : ∀ c ∈ t.data.toList, isHex c = true) (w : World) :
    Calls Tryd.prog 100 #[.string t, .int .i64 16, .int .i64 64] w fun e w' => e = .returned (.tuple #[.int .u64 ((valB 16 t.data.toList : Nat) : Int), .nilIface]) ∧ w' = Lib.bytesWorld w 5 t := by
  go_enter Tryd.func100, Tryd.ntmps100
  go_wp2_with (go_at_call 113; refine (pu16 t hne h16 hx _).mono ?_; rintro e w' ⟨rfl, rfl⟩)
  go_ret2
  exact ⟨rfl, rfl⟩

theorem val_mono (l : Bs) : ∀ a, a ≤ l.foldl (fun a c => 10 * a + (hexV c).getD 0) a := by
  induction l with
  | nil => intro a; exact Nat.le_refl _
  | cons c l ih => intro a; rw [List.foldl_cons]; refine Nat.le_trans ?_ (ih _); omega
theorem parseM_dig : ∀ (l : Bs) (acc : Nat), l.all isDig = true → acc < 18446744073709551616 →
    Lib.parseUintM (2 ^ 64 - 1) acc l = if l.foldl (fun a c => 10 * a + (hexV c).getD 0) acc < 18446744073709551616 then .ok (l.foldl (fun a c => 10 * a + (hexV c).getD 0) acc) else .range
  | [], acc, _, h => by rw [List.foldl_nil, if_pos h]; rfl
  | c :: l, acc, hl, h => by
    rw [List.all_cons, Bool.and_eq_true] at hl
    have hd := isDig_in hl.1
    have e2 : (2 : Nat) ^ 64 - 1 = 18446744073709551615 := by decide
    rw [Lib.parseUintM, if_pos hd, List.foldl_cons, hexV_dig hl.1]
    simp only [Option.getD_some]
    have hm := val_mono l (10 * acc + (c.toNat - 48))
    split
    · rw [if_neg (by omega)]
    · split
      · rw [if_neg (by omega)]
      · rw [parseM_dig l _ hl.2 (by omega), show acc * 10 + (c.toNat - 48) = 10 * acc + (c.toNat - 48) by omega]
theorem parse10 {l : Bs} (h0 : l ≠ []) (h : l.all isDig = true) : Lib.parseUintB 64 l = if valB 10 l < 18446744073709551616 then .ok (valB 10 l) else .range := by
  unfold Lib.parseUintB
  rw [if_neg h0]
  exact parseM_dig l 0 h (by decide)

/-- Bytes as a text. -/
def bs (l : Bs) : ByteArray := ⟨l.toArray⟩
theorem bs_data (l : Bs) : (bs l).data.toList = l := rfl
theorem bs_of (s : ByteArray) : bs s.data.toList = s := by cases s; rfl
theorem splitK_split : ∀ l : Bs, Lib.splitK [10] 0 (l.count 10) l = split l
  | [] => rfl
  | c :: r => by
    have ih := splitK_split r
    by_cases hc : c = 10
    · subst hc
      rw [List.count_cons_self, Lib.splitK, split, if_pos rfl]
      have : Lib.index (10 :: r) [10] = 0 := rfl
      rw [this]
      show [] :: Lib.splitK [10] 0 (r.count 10) r = _
      rw [ih]
    · rw [List.count_cons_of_ne (fun h => hc h), split, if_neg hc]
      have hi : Lib.index (c :: r) [10] = if Lib.index r [10] == -1 then -1 else Lib.index r [10] + 1 := by
        rw [Lib.index, if_neg]
        simp only [List.isPrefixOf, Bool.and_true]
        intro h; exact hc (eq_of_beq h).symm
      cases hk : r.count 10 with
      | zero =>
        rw [hk] at ih
        rw [← ih]; rfl
      | succ k =>
        rw [hk] at ih
        rw [Lib.splitK] at ih ⊢
        rw [hi]
        cases hj : (Lib.index r [10] == -1) with
        | true =>
          rw [hj, if_pos rfl] at ih
          rw [if_pos rfl, ← ih]; rfl
        | false =>
          rw [hj, if_neg (by simp)] at ih
          have hg := Lib.index_ge r [10]
          have hne : Lib.index r [10] ≠ -1 := by simpa using hj
          rw [if_neg (show ¬ (false = true) by simp), show (Lib.index r [10] + 1 == -1) = false from beq_eq_false_iff_ne.2 (by omega), if_neg (show ¬ (false = true) by simp), ← ih]
          have e1 : (Lib.index r [10] + 1).toNat = (Lib.index r [10]).toNat + 1 := by omega
          rw [e1]
          show (c :: r).take ((Lib.index r [10]).toNat + 1) :: Lib.splitK [10] 0 k ((c :: r).drop ((Lib.index r [10]).toNat + 1 + 1)) = (c :: r.take (Lib.index r [10]).toNat) :: Lib.splitK [10] 0 k (r.drop ((Lib.index r [10]).toNat + 1))
          rfl
theorem split_len (l : Bs) : (split l).length = l.count 10 + 1 := by
  induction l with
  | nil => rfl
  | cons c r ih =>
    by_cases hc : c = 10
    · subst hc; rw [split, if_pos rfl, List.length_cons, ih, List.count_cons_self]
    · rw [split, if_neg hc, List.count_cons_of_ne (fun h => hc h)]
      cases hs : split r with
      | nil => exact absurd hs (split_ne r)
      | cons w ws => rw [hs] at ih; exact ih
def nl : ByteArray := ⟨#[10]⟩
theorem splitB_split (s : ByteArray) : Lib.splitB nl 0 (Lib.countB s nl) s = (split s.data.toList).map bs := by
  have h1 := Lib.splitB_data nl 0 (Lib.countB s nl) s
  have h2 : Lib.countB s nl = s.data.toList.count 10 := Lib.count_one 10 _
  have h3 : nl.data.toList = [10] := rfl
  rw [h2, h3, splitK_split] at h1
  rw [h2, ← h1, List.map_map]
  symm
  conv => rhs; rw [← List.map_id (Lib.splitB nl 0 (s.data.toList.count 10) s)]
  exact List.map_congr_left fun x _ => bs_of x

section
variable {P : Program} {F : Nat → Prop} {w0 : World} {β : Nat → Nat} {w : World} {rom : RomP}
/-- A contract's way out that lays nothing. -/
theorem ret_plain {h : Hp} {nx : Nat} (H : HR F w0 β h w) (hn : ∀ j, has h j → j < nx) {w' : World} (hb : Below w.heap.size w w') {v : V} {x : Value} (hv : den β v = x) (hr : refs v = []) :
    Ret F w0 β h ⟨[(0, v)], 1, h, nx⟩ β (.returned x) w' :=
  ⟨⟨x, rfl, fun _ => hv.symm⟩, H.below hb, fun _ _ => rfl, fun _ hj => hj, fun j hj => by (have : j ∈ refs v := hj; rw [hr] at this; cases this), hn⟩
/-- A contract's way out that lays a block of which nothing is said. -/
theorem ret_num {h : Hp} {nx : Nat} (H : HR F w0 β h w) (hn : ∀ j, has h j → j < nx) {w' : World} (hb : Below w.heap.size w w') (N : Nat) {v : V} {x : Value} (hv : den (fun j => if j = nx then N else β j) v = x) (hr : ∀ j, j ∈ refs v → j = nx) :
    Ret F w0 β h ⟨[(0, v)], 1, (nx, ⟨0, [], .num⟩) :: h, nx + 4⟩ (fun j => if j = nx then N else β j) (.returned x) w' := by
  have hnx : ¬ has h nx := fun hh => absurd (hn nx hh) (Nat.lt_irrefl _)
  have hold : ∀ j, has h j → (if j = nx then N else β j) = β j := fun j hj => if_neg (fun (e : j = nx) => hnx (e ▸ hj))
  refine ⟨⟨x, rfl, fun _ => hv.symm⟩, ?_, hold, fun j hj => (has_cons _ _ _ _).2 (.inr hj), fun j hj => (has_cons _ _ _ _).2 (.inl (hr j hj)), fun j hj => ?_⟩
  · have H' := H.below hb
    have hlk : ∀ j b, lookB ((nx, (⟨0, [], .num⟩ : Blk)) :: h) j = some b → (j = nx ∧ b = ⟨0, [], .num⟩) ∨ (¬ j = nx ∧ lookB h j = some b) := fun j b hj => by
      rw [lookB_cons] at hj
      by_cases e : j = nx
      · subst e; simp at hj; exact .inl ⟨rfl, hj.symm⟩
      · rw [if_neg (fun e' => e e')] at hj
        exact .inr ⟨e, hj⟩
    refine ⟨H'.os, H'.tape, H'.output, H'.size, H'.keep, fun j b hj hl => ?_, fun j b hj hon => ?_, fun i j b b' hi hj h1 h2 he => ?_, fun j b hj i hi => ?_⟩
    · rcases hlk j b hj with ⟨_, rfl⟩ | ⟨e, hj⟩
      · cases hl
      · have := H'.here_same hj hl (β' := fun j => if j = nx then N else β j) (w' := w') (g := if j = nx then N else β j) (fun hon => ⟨if_neg e, rfl⟩) fun i hi => hold i (H.wf j b hj i hi)
        exact this
    · rcases hlk j b hj with ⟨_, rfl⟩ | ⟨e, hj⟩
      · exact hon.elim
      · have hon' : b.k.on β := (Kd.on_congr fun i hi => hold i (H.wf j b hj i (.inr hi))).1 hon
        show F (if j = nx then N else β j) ∨ _
        rw [if_neg e]
        exact H'.own j b hj hon'
    · rcases hlk i b hi with ⟨_, rfl⟩ | ⟨e1, hi⟩
      · exact h1.elim
      · rcases hlk j b' hj with ⟨_, rfl⟩ | ⟨e2, hj⟩
        · exact h2.elim
        · have h1' : b.k.on β := (Kd.on_congr fun k hk => hold k (H.wf i b hi k (.inr hk))).1 h1
          have h2' : b'.k.on β := (Kd.on_congr fun k hk => hold k (H.wf j b' hj k (.inr hk))).1 h2
          have he' : (if i = nx then N else β i) = (if j = nx then N else β j) := he
          rw [if_neg e1, if_neg e2] at he'
          exact H'.inj i j b b' hi hj h1' h2' he'
    · rcases hlk j b hj with ⟨_, rfl⟩ | ⟨e, hj⟩
      · rcases hi with hi | hi <;> cases hi
      · exact (has_cons _ _ _ _).2 (.inr (H.wf j b hj i hi))
  · rcases (has_cons _ _ _ _).1 hj with rfl | hj
    · show j < j + 4; omega
    · have := hn j hj; show j < nx + 4; omega
end

/-- strings.IndexByte. -/
def idxS : List Value → Option Value
  | [.string s, .int .u8 c] => some (.int .i64 (Lib.indexByte s.data.toList c.toNat.toUInt8))
  | _ => none
noncomputable def Lidx : Lib := { fs := [(79, idxS)] }
theorem good_idx : Lib.Good Tryd.prog Lidx := lib_fs lib_nil fun vs z hz w => by
  unfold idxS at hz
  split at hz
  · simp only [Option.some.injEq] at hz
    subst hz
    refine (Tryd.strings_IndexByte _ _ w).mono ?_
    rintro e w' ⟨rfl, rfl⟩
    exact ⟨rfl, Below.refl _ _⟩
  · cases hz

/-- strings.Split at a line feed. -/
def rowsS (ls : List Bs) : List (List Value) := ls.map fun l => [Value.string (bs l)]
noncomputable def splitX : RomP → List V → Hp → Nat → Option T := fun _ ags h nx =>
  match valL ags with
  | some [.string s, .string sep] => some (.req (s.size < 4294967281 ∧ sep.data.toList = [10])
      (.leaf .ret ⟨[(0, .r nx (nx + 1) (nx + 2) (nx + 3) (split s.data.toList).length)], 1, laidO nx 9 [.str] (rowsS (split s.data.toList)) ++ h, nx + 4⟩))
  | _ => none
noncomputable def Lspl : Lib := { Lidx with xs := (35, splitX) :: Lidx.xs }
theorem good_spl : Lib.Good Tryd.prog Lspl := lib_x good_idx fun rom ags h nx t ht => by
  unfold splitX at ht
  split at ht
  · rename_i s sep hv
    simp only [Option.some.injEq] at ht
    subst ht
    refine ⟨⟨⟨_, rfl⟩, Nat.le_add_right _ _⟩, fun F w0 β w K hR H ha hn hs => ?_⟩
    obtain ⟨⟨hsz, hsep⟩, hK⟩ := hs
    rw [valL_den β _ _ hv]
    have hsep' : sep = nl := by
      have : bs sep.data.toList = bs [10] := by rw [hsep]
      rw [bs_of] at this
      exact this
    subst hsep'
    have hg : GlW w := hR.glw H
    obtain ⟨m, hm⟩ := hg.at (q := (0, fun w => ∃ m, w.cell? ⟨0, 0, none⟩ = some (.int .i64 m))) (by simp [globals])
    refine (Tryd.strings_Split s nl m w hsz hm (by decide)).mono ?_
    rintro e w' ⟨rfl, rfl⟩
    rw [splitB_split]
    have hc : Lib.countB s nl + 1 = (split s.data.toList).length := by
      rw [split_len]
      exact congrArg (· + 1) (Lib.count_one 10 _)
    rw [hc]
    have hk : ∀ j, has h j → ¬ (nx ≤ j ∧ j < nx + 4) := fun j hj => by have := hn j hj; omega
    have hrow : (List.map Value.string (List.map bs (split s.data.toList))) = (rowsS (split s.data.toList)).flatten := by
      unfold rowsS
      rw [List.map_map]
      induction split s.data.toList with
      | nil => rfl
      | cons a l ih => simp only [List.map_cons, List.flatten_cons, ih]; rfl
    rw [hrow]
    have hlen : (rowsS (split s.data.toList)).length = (split s.data.toList).length := List.length_map _
    have hbig : (split s.data.toList).length ≤ maxLen := by
      rw [split_len]
      have : s.data.toList.count 10 ≤ s.data.toList.length := List.count_le_length
      have e : s.data.toList.length = s.size := Lib.size_eq s
      unfold maxLen; omega
    have hh : HereO (w.alloc (.cells (rowsS (split s.data.toList)).flatten.toArray 9)) w.heap.size 9 1 0 (split s.data.toList).length [.str] (rowsS (split s.data.toList)) := by
      refine ⟨Nat.le_refl _, fun x hx => ?_, .inr ⟨by simp, rfl, hbig, [], ?_, ?_⟩⟩
      · obtain ⟨l, _, rfl⟩ := List.mem_map.1 hx; rfl
      · rw [List.append_nil]
        show (w.heap.push _)[w.heap.size]? = _
        exact Array.getElem?_push_size
      · rw [hlen]; simp
    have H' := H.appendO hk (World.grownBy_alloc w (.cells (rowsS (split s.data.toList)).flatten.toArray 9) none) (.inl ⟨rfl, rfl⟩ : Kills β h [] none) (g := w.heap.size) (va := 1) (cap := (split s.data.toList).length) (fun _ => .inr rfl) hh
    refine ⟨_, _, turnO β nx w.heap.size 1 (split s.data.toList).length, hK, ⟨_, rfl, fun _ => ?_⟩, H', fun j hj => ?_, fun j hj => (has_laid _ _ _ _ _ _).2 (.inr hj), fun j hj => (has_laid _ _ _ _ _ _).2 (.inl ?_), fun j hj => ?_⟩
    · show Value.slice _ _ _ = den _ (.r nx (nx + 1) (nx + 2) (nx + 3) (split s.data.toList).length)
      simp [den, turnO, adrOf]
    · have := hk j hj
      dsimp only [turnO]
      rw [if_neg (by omega), if_neg (by omega), if_neg (by omega), if_neg (by omega)]
    · have hj' : j ∈ [nx, nx + 1, nx + 2, nx + 3] := hj
      simp only [List.mem_cons, List.not_mem_nil, or_false] at hj'
      omega
    · rcases (has_laid _ _ _ _ _ _).1 hj with hj | hj
      · exact hj.2
      · have := hn j hj; show j < nx + 4; omega
  · cases ht

/-- strconv.ParseUint of digits, at base 10 or 16. -/
def puPre (s : ByteArray) (base : Int) : Prop :=
  (base = 10 ∧ s.data.toList.all isDig = true ∧ 1 ≤ s.size ∧ s.size ≤ 281474976710656) ∨ (base = 16 ∧ s.data.toList.all isHex = true ∧ 1 ≤ s.size ∧ s.size ≤ 16)
def puVal (s : ByteArray) (base : Int) : Nat := valB base.toNat s.data.toList
noncomputable def puX : RomP → List V → Hp → Nat → Option T := fun _ ags h nx =>
  match valL ags with
  | some [.string s, .int .i64 base, .int .i64 bits] => some (.req (puPre s base ∧ bits = 64)
      (.ite (decide (puVal s base < 18446744073709551616))
        (.leaf .ret ⟨[(0, .t [.v (.int .u64 (puVal s base : Nat)), .c .nilIface])], 1, h, nx⟩)
        (.leaf .ret ⟨[(0, .t [.c (.int .u64 18446744073709551615), .i 162 (.p nx 0)])], 1, (nx, ⟨0, [], .num⟩) :: h, nx + 4⟩)))
  | _ => none
noncomputable def Lpu : Lib := { Lspl with xs := (100, puX) :: Lspl.xs }
theorem pu_below {w w' : World} {e : TypeId} {s : ByteArray} (h : w' = w ∨ w' = Lib.bytesWorld w e s) : Below w.heap.size w w' := by
  rcases h with rfl | rfl
  · exact Below.refl _ _
  · exact Lib.bytesWorld_below _ _ _
theorem good_pu : Lib.Good Tryd.prog Lpu := lib_x good_spl fun rom ags h nx t ht => by
  unfold puX at ht
  split at ht
  · rename_i s base bits hv
    simp only [Option.some.injEq] at ht
    subst ht
    refine ⟨⟨⟨⟨[], rfl⟩, Nat.le_refl _⟩, ⟨⟨[_], rfl⟩, Nat.le_add_right _ _⟩⟩, fun F w0 β w K hR H ha hn hs => ?_⟩
    obtain ⟨⟨hpre, hbits⟩, hok, hno⟩ := hs
    subst hbits
    rw [valL_den β _ _ hv]
    rcases hpre with ⟨rfl, hd, h1, h2⟩ | ⟨rfl, hd, h1, h2⟩
    · have hne : s.data.toList ≠ [] := fun hh => by
        have e : s.data.toList.length = s.size := Lib.size_eq s
        rw [hh] at e; simp at e; omega
      have hp := parse10 hne hd
      by_cases hlt : valB 10 s.data.toList < 18446744073709551616
      · rw [if_pos hlt] at hp
        refine (Tryd.strconv_ParseUint_10_at64_ok s (by omega) _ hp w).mono ?_
        rintro e w' ⟨rfl, hw⟩
        exact ⟨_, _, _, hok (decide_eq_true hlt), ret_plain H hn (pu_below hw) rfl rfl⟩
      · rw [if_neg hlt] at hp
        obtain ⟨tx, px, hc⟩ := (hR.glw H).at (q := (5, fun w => ∃ tx px, w.cell? ⟨5, 0, none⟩ = some (.iface tx px))) (by simp [globals])
        refine (Tryd.strconv_ParseUint_10_at64_range s h2 hp _ w hc (.inr ⟨_, _, rfl⟩)).mono ?_
        rintro e w' ⟨N, rfl, _, _, hb⟩
        exact ⟨_, _, _, hno (decide_eq_false hlt), ret_num H hn hb N (by simp [den, denL]) (fun j hj => by simpa [refs, refsL] using hj)⟩
    · have hlt : valB 16 s.data.toList < 18446744073709551616 := by
        have e : s.data.toList.length = s.size := Lib.size_eq s
        refine Nat.lt_of_lt_of_le (val16_lt _) ?_
        have : (16 : Nat) ^ s.data.toList.length ≤ 16 ^ 16 := Nat.pow_le_pow_right (by decide) (by omega)
        have e2 : (16 : Nat) ^ 16 = 18446744073709551616 := by decide
        omega
      refine (pu16p s h1 h2 (List.all_eq_true.1 hd) w).mono ?_
      rintro e w' ⟨rfl, rfl⟩
      exact ⟨_, _, _, hok (decide_eq_true hlt), ret_plain H hn (Lib.bytesWorld_below _ _ _) rfl rfl⟩
  · cases ht
end Go.Proofs.YtfjldllegmfooaaDoor.Lx
end

section
/- The lexer's lines: contracts. No condition. -/
namespace Go.Proofs.YtfjldllegmfooaaDoor.Lx
open Go.RowKit Go.IntWalk Go.Proofs.YtfjldllegmfooaaDoor.X

/-- What a byte may be, as the program's table has it. -/
def kOf (c : Nat) : Int := if (97 ≤ c ∧ c ≤ 122) ∨ (65 ≤ c ∧ c ≤ 90) then 7 else if c = 95 ∨ c = 46 then 3 else if 48 ≤ c ∧ c ≤ 57 then 10 else 0
def kTab : List Int := [0, 0, 0, 0, 0, 0, 0, 0, 0, 0, 0, 0, 0, 0, 0, 0, 0, 0, 0, 0, 0, 0, 0, 0, 0, 0, 0, 0, 0, 0, 0, 0, 0, 0, 0, 0, 0, 0, 0, 0, 0, 0, 0, 0, 0, 0, 3, 0, 10, 10, 10, 10, 10, 10, 10, 10, 10, 10, 0, 0, 0, 0, 0, 0, 0, 7, 7, 7, 7, 7, 7, 7, 7, 7, 7, 7, 7, 7, 7, 7, 7, 7, 7, 7, 7, 7, 7, 7, 7, 7, 7, 0, 0, 0, 0, 3, 0, 7, 7, 7, 7, 7, 7, 7, 7, 7, 7, 7, 7, 7, 7, 7, 7, 7, 7, 7, 7, 7, 7, 7, 7, 7, 7] ++ List.replicate 133 0
def kCells : List Pt := kTab.map fun k => .c (.int .i64 k)
def scanB (n : Nat) : Bls := [(0, 103, .s n :: kCells)]
def kindsS : List Value → Option Value
  | [] => some (.agg (kTab.map fun k => Value.int .i64 k).toArray)
  | _ => none
noncomputable def Lkin : Lib := { Lpu with fs := (74, kindsS) :: Lpu.fs }

def bytI (s : ByteArray) (i : Int) : Int := ((byt s.data.toList i.toNat).toNat : Int)
def cutL (s : ByteArray) (n : Int) : ByteArray := bs (s.data.toList.take n.toNat)
def cutR (s : ByteArray) (n : Int) : ByteArray := bs (s.data.toList.drop n.toNat)
def cAt : Con where
  ps := [.p 0 0, .i .i64 1]
  bl := scanB 0
  top := 4
  pre := fun σ => 0 ≤ σ.I 1
  post := fun σ => .leaf .ret [(0, .gi .u8 (bytI (σ.S 0) (σ.I 1)))] [] []
noncomputable def Lat : Lib := { Lkin with cs := (75, cAt) :: Lkin.cs }
def cTake : Con where
  ps := [.p 0 0, .i .i64 1]
  bl := scanB 0
  top := 4
  pre := fun σ => 0 ≤ σ.I 1 ∧ σ.I 1 ≤ (σ.S 0).size
  post := fun σ => .leaf .ret [(0, .gs (cutL (σ.S 0) (σ.I 1)))] [(0, [(0, .gs (cutR (σ.S 0) (σ.I 1)))])] []
noncomputable def Ltake : Lib := { Lat with cs := (53, cTake) :: Lat.cs }
def andI (x y : Int) : Int := IntKind.i64.wrap ((BitVec.ofInt 64 x &&& BitVec.ofInt 64 y).toNat : Int)
def hasB (b : Int) (c : UInt8) : Bool := andI (kOf c.toNat) b != 0
def twI (p : UInt8 → Bool) (s : ByteArray) (i : Int) : Int := i + (((s.data.toList.drop i.toNat).takeWhile p).length : Nat)
def cRunL : Con where
  ps := [.p 0 0, .i .i64 1, .p 0 1, .i .i64 2]
  bl := scanB 0
  top := 4
  pre := fun σ => 0 ≤ σ.I 1 ∧ σ.I 1 ≤ (σ.S 0).size ∧ (σ.S 0).size ≤ maxLen
  post := fun σ => .leaf (.exit 0) [(9, .gi .i64 (twI (hasB (σ.I 2)) (σ.S 0) (σ.I 1)))] [] []
noncomputable def bRunL : Code := loopAt Tryd.prog 2 "lexer.go:74"
noncomputable def lRunL : LCon := { c := cRunL, sl := [0, 9, 2, 3], nt := Tryd.f76.ntmps, hv := nubN (writes bRunL) [0, 2, 3], meas := fun σ => ((σ.S 0).size - σ.I 1).toNat }
noncomputable def LrunL : Lib := { Ltake with ls := (2, "lexer.go:74", lRunL) :: Ltake.ls }
def cRun : Con where
  ps := [.p 0 0, .i .i64 1, .p 0 1, .i .i64 2]
  bl := scanB 0
  top := 4
  pre := fun σ => 0 ≤ σ.I 1 ∧ σ.I 1 ≤ (σ.S 0).size ∧ (σ.S 0).size ≤ maxLen
  post := fun σ => .leaf .ret [(0, .gi .i64 (twI (hasB (σ.I 2)) (σ.S 0) (σ.I 1)))] [] []
noncomputable def Lrun : Lib := { LrunL with cs := (76, cRun) :: LrunL.cs }
end Go.Proofs.YtfjldllegmfooaaDoor.Lx
end

section
/- Written by vc.py: what is to be shown, read out. No condition. -/
set_option maxRecDepth 1000000
set_option maxHeartbeats 0
namespace Go.Proofs.YtfjldllegmfooaaDoor.Lx
open Go.RowKit Go.Proofs.YtfjldllegmfooaaDoor.X
theorem at_goal (σ : Dt) (α : At') : (cAt.goal Tryd.prog Lkin.mk' 1000 Tryd.f75 σ α) = (
let x0 := σ.I 1 < (↑(σ.S 0).size : Int);
let x1 := decide x0;
(x1 = true → (0 : Int) ≤ σ.I 1 ∧ x0) ∧ True ∧ Ex.ret = Ex.ret ∧ true = true ∧ (True ∧ (bif x1 then (↑((σ.S 0).data.getD (σ.I 1).toNat (0 : UInt8)).toNat : Int) else (0 : Int)) = bytI (σ.S 0) (σ.I 1)) ∧ σ.S 0 = σ.S 0) := by kernel_rfl

theorem take_goal (σ : Dt) (α : At') : (cTake.goal Tryd.prog Lat.mk' 1000 Tryd.f53 σ α) = (
let x0 := (0 : Int) ≤ σ.I 1 ∧ σ.I 1 ≤ (↑(σ.S 0).size : Int);
x0 ∧ x0 ∧ True ∧ Ex.ret = Ex.ret ∧ true = true ∧ (True ∧ (σ.S 0).extract 0 (σ.I 1).toNat = cutL (σ.S 0) (σ.I 1)) ∧ (σ.S 0).extract (σ.I 1).toNat (σ.S 0).size = cutR (σ.S 0) (σ.I 1)) := by kernel_rfl

theorem run_round (σ : Dt) (α : At') (rest : Nat → Value) : (lRunL.goal Tryd.prog Ltake.mk' 1000 bRunL σ α rest) = (
let x0 := σ.I 1 < (↑(σ.S 0).size : Int);
let x1 := decide x0;
let x2 := (↑((σ.S 0).data.getD (σ.I 1).toNat (0 : UInt8)).toNat : Int);
let x3 := x2.toNat;
let x4 := bif x1 then IntKind.i64.wrap (↑(BitVec.ofInt 64 (kTab.getD x3 (0 : Int)) &&& BitVec.ofInt 64 (σ.I 2)).toNat : Int) != (0 : Int) else false;
let x5 := IntKind.i64.wrap (σ.I 1 + (1 : Int));
let x6 := twI (hasB (σ.I 2)) (σ.S 0) (σ.I 1);
true = true ∧ (x1 = true → ((0 : Int) ≤ σ.I 1 ∧ x0) ∧ ((0 : Int) ≤ x2 ∧ x2 < (256 : Int)) ∧ x3 < 256) ∧ (x4 = true → true = true ∧ true = true ∧ True ∧ ((0 : Int) ≤ x5 ∧ x5 ≤ (↑(σ.S 0).size : Int) ∧ (σ.S 0).size ≤ 9223372036854775807) ∧ ((↑(σ.S 0).size : Int) - x5).toNat < ((↑(σ.S 0).size : Int) -
    σ.I 1).toNat ∧ Po.leaf (Ex.exit 0) [(9, Pt.gi IntKind.i64 (twI (hasB (σ.I 2)) (σ.S 0) x5))] [] [] = Po.leaf (Ex.exit 0) [(9, Pt.gi IntKind.i64 x6)] [] [] ∧ asSt ([(Pt.gs (σ.S 0) :: kCells)], []) = ([(Pt.gs (σ.S 0) :: kCells)], [])) ∧ (x4 = false → true = true ∧ Ex.exit 0 = Ex.exit 0 ∧ true =
    true ∧ (True ∧ σ.I 1 = x6) ∧ σ.S 0 = σ.S 0)) := by kernel_rfl

theorem run_goal (σ : Dt) (α : At') : (cRun.goal Tryd.prog LrunL.mk' 1000 Tryd.f76 σ α) = (
let x0 := twI (hasB (σ.I 2)) (σ.S 0) (σ.I 1);
(True ∧ (0 : Int) ≤ σ.I 1 ∧ σ.I 1 ≤ (↑(σ.S 0).size : Int) ∧ (σ.S 0).size ≤ 9223372036854775807) ∧ True ∧ Ex.ret = Ex.ret ∧ true = true ∧ (True ∧ x0 = x0) ∧ σ.S 0 = σ.S 0) := by kernel_rfl

end Go.Proofs.YtfjldllegmfooaaDoor.Lx
end

section
/- The lexer's table: shown. No condition. -/
set_option maxRecDepth 100000
namespace Go.Proofs.YtfjldllegmfooaaDoor.Lx
open Go.RowKit Go.Proofs.YtfjldllegmfooaaDoor.X
theorem kinds_run : (run Tryd.prog (Lpu.mk' fun _ _ _ _ => False) 3000 Tryd.f74 []).resM Tryd.prog Tryd.f74 = some (.agg (kTab.map fun k => Value.int .i64 k).toArray) := by kernel_rfl
theorem good_kin : Lib.Good Tryd.prog Lkin := lib_fsg good_pu fun vs z hz w hgl => by
  unfold kindsS at hz
  split at hz
  · simp only [Option.some.injEq] at hz
    subst hz
    exact calls_of_run (good_pu _) (fun _ _ _ _ h => h) Tryd.func74 3000 [] [] rfl rfl _ kinds_run w hgl
  · cases hz
end Go.Proofs.YtfjldllegmfooaaDoor.Lx
end

section
/- The lexer's lines: shown. No condition. -/
set_option maxRecDepth 100000
namespace Go.Proofs.YtfjldllegmfooaaDoor.Lx
open Go.RowKit Go.IntWalk Go.Proofs.YtfjldllegmfooaaDoor.X

theorem kTab_all : ∀ c : Fin 256, kTab.getD c.val 0 = kOf c.val := by decide +kernel
theorem kTab_at (c : UInt8) : kTab.getD c.toNat 0 = kOf c.toNat := kTab_all ⟨c.toNat, c.toNat_lt⟩
theorem data_len (s : ByteArray) : s.data.toList.length = s.size := Lib.size_eq s
theorem getD_byt (s : ByteArray) (i : Nat) : s.data.getD i 0 = byt s.data.toList i := by
  unfold byt
  rw [List.getD_eq_getElem?_getD, Array.getElem?_toList]
  exact Array.getD_eq_getD_getElem? ..
theorem ext_l (s : ByteArray) (n : Nat) : s.extract 0 n = bs (s.data.toList.take n) := by
  apply ByteArray.ext
  apply Array.ext'
  simp [bs]
theorem ext_r (s : ByteArray) (n : Nat) : s.extract n s.size = bs (s.data.toList.drop n) := by
  apply ByteArray.ext
  apply Array.ext'
  simp [bs]
  exact List.take_of_length_le (by simp)
theorem good_at : Lib.Good Tryd.prog Lat := lib_con good_kin Tryd.func75 cAt 1000 fun σ α hp => by
  rw [at_goal]
  have h0 : 0 ≤ σ.I 1 := hp
  intro x0 x1
  refine ⟨fun h => ⟨h0, of_decide_eq_true h⟩, trivial, rfl, rfl, ⟨trivial, ?_⟩, rfl⟩
  unfold bytI
  rw [getD_byt]
  cases hx : x1 with
  | true => rfl
  | false =>
    have : ¬ σ.I 1 < ((σ.S 0).size : Int) := of_decide_eq_false hx
    have e : byt (σ.S 0).data.toList (σ.I 1).toNat = 0 := by
      unfold byt; rw [List.getD_eq_getElem?_getD, List.getElem?_eq_none (by rw [data_len]; omega)]; rfl
    rw [e]; rfl
theorem good_take : Lib.Good Tryd.prog Ltake := lib_con good_at Tryd.func53 cTake 1000 fun σ α hp => by
  rw [take_goal]
  exact ⟨hp, hp, trivial, rfl, rfl, ⟨trivial, ext_l _ _⟩, ext_r _ _⟩
theorem twI_step {p : UInt8 → Bool} {s : ByteArray} {i : Int} (h0 : 0 ≤ i) (h1 : i < s.size) (hp : p (byt s.data.toList i.toNat) = true) : twI p s i = twI p s (i + 1) := by
  have hl : i.toNat < s.data.toList.length := by rw [data_len]; omega
  have e : byt s.data.toList i.toNat = s.data.toList[i.toNat] := by unfold byt; rw [List.getD_eq_getElem?_getD, List.getElem?_eq_getElem hl]; rfl
  unfold twI
  rw [e] at hp
  rw [List.drop_eq_getElem_cons hl, List.takeWhile_cons_of_pos hp, List.length_cons, show (i + 1).toNat = i.toNat + 1 by omega]
  omega
theorem twI_stop {p : UInt8 → Bool} {s : ByteArray} {i : Int} (h0 : 0 ≤ i) (hp : i < s.size → p (byt s.data.toList i.toNat) = false) : twI p s i = i := by
  unfold twI
  by_cases h1 : i < s.size
  · have hl : i.toNat < s.data.toList.length := by rw [data_len]; omega
    have e : byt s.data.toList i.toNat = s.data.toList[i.toNat] := by unfold byt; rw [List.getD_eq_getElem?_getD, List.getElem?_eq_getElem hl]; rfl
    have hp := hp h1
    rw [e] at hp
    rw [List.drop_eq_getElem_cons hl, List.takeWhile_cons_of_neg (by rw [hp]; simp)]
    simp
  · rw [List.drop_of_length_le (by rw [data_len]; omega)]
    simp
theorem good_runL : Lib.Good Tryd.prog LrunL := lib_loop good_take 2 "lexer.go:74" (by kernel_rfl) lRunL 1000 fun σ α rest hp => by
  obtain ⟨h0, h1, h2⟩ := (show 0 ≤ σ.I 1 ∧ σ.I 1 ≤ (σ.S 0).size ∧ (σ.S 0).size ≤ 9223372036854775807 from hp)
  refine (run_round σ α rest).mpr ?_
  intro x0 x1 x2 x3 x4 x5 x6
  have e3 : x3 = (byt (σ.S 0).data.toList (σ.I 1).toNat).toNat := by show (_ : Int).toNat = _; rw [Int.toNat_natCast, getD_byt]
  have hb : x3 < 256 := by rw [e3]; exact UInt8.toNat_lt _
  have h4 : x4 = (bif x1 then hasB (σ.I 2) (byt (σ.S 0).data.toList (σ.I 1).toNat) else false) := by
    show (bif x1 then (IntKind.i64.wrap (((BitVec.ofInt 64 (kTab.getD x3 (0 : Int)) &&& BitVec.ofInt 64 (σ.I 2)).toNat : Nat) : Int) != (0 : Int)) else false) = _
    rw [e3, kTab_at]; rfl
  refine ⟨rfl, fun h => ⟨⟨h0, of_decide_eq_true h⟩, ⟨Int.natCast_nonneg _, by show ((_ : Nat) : Int) < 256; have : x2.toNat < 256 := hb; omega⟩, hb⟩, fun h => ?_, fun h => ?_⟩
  · rw [h4] at h
    cases hx : x1 with
    | false => rw [hx] at h; cases h
    | true =>
      rw [hx] at h
      have hlt : σ.I 1 < ((σ.S 0).size : Int) := of_decide_eq_true hx
      have e5 : x5 = σ.I 1 + 1 := i64_in _ (by omega)
      have e6 : twI (hasB (σ.I 2)) (σ.S 0) x5 = x6 := by rw [e5]; exact (twI_step h0 hlt h).symm
      exact ⟨rfl, rfl, trivial, ⟨by omega, by omega, h2⟩, by omega, by rw [e6], rfl⟩
  · rw [h4] at h
    refine ⟨rfl, rfl, rfl, ⟨trivial, (twI_stop h0 fun hlt => ?_).symm⟩, rfl⟩
    have hx : x1 = true := decide_eq_true hlt
    rw [hx] at h; exact h
theorem good_run : Lib.Good Tryd.prog Lrun := lib_con good_runL Tryd.func76 cRun 1000 fun σ α hp => by
  rw [run_goal]
  exact ⟨⟨trivial, hp⟩, trivial, rfl, rfl, ⟨trivial, rfl⟩, rfl⟩
end Go.Proofs.YtfjldllegmfooaaDoor.Lx
end

section
/- Numbers, names, texts: contracts. No condition. -/
namespace Go.Proofs.YtfjldllegmfooaaDoor.Lx
open Go.RowKit Go.IntWalk Go.Proofs.YtfjldllegmfooaaDoor.X

def hexI (c : Int) : Int := (((hexV (UInt8.ofNat c.toNat)).getD 0 : Nat) : Int)
def hexO (c : Int) : Bool := (hexV (UInt8.ofNat c.toNat)).isSome
def cHex : Con where
  ps := [.i .u8 0]
  bl := []
  top := 0
  pre := fun σ => 0 ≤ σ.I 0 ∧ σ.I 0 < 256
  post := fun σ => .leaf .ret [(0, .t [.gi .i64 (hexI (σ.I 0)), .gb (hexO (σ.I 0))])] [] []
noncomputable def Lhex : Lib := { Lrun with cs := (99, cHex) :: Lrun.cs }
def cNumL : Con where
  ps := [.p 0 0, .i .i64 1]
  bl := scanB 0
  top := 4
  pre := fun σ => 0 ≤ σ.I 1 ∧ σ.I 1 ≤ (σ.S 0).size ∧ (σ.S 0).size ≤ maxLen
  post := fun σ => .leaf (.exit 1) [(0, .p 0 0), (4, .gi .i64 (twI isHex (σ.S 0) (σ.I 1)))] [] []
noncomputable def bNumL : Code := loopAt Tryd.prog 5 "lexer.go:108"
noncomputable def lNumL : LCon := { c := cNumL, sl := [0, 4], nt := Tryd.f77.ntmps, hv := nubN (writes bNumL) [], meas := fun σ => ((σ.S 0).size - σ.I 1).toNat }
noncomputable def LnumL : Lib := { Lhex with ls := (5, "lexer.go:108", lNumL) :: Lhex.ls }
def numO (s : ByteArray) : Bool := (numT s.data.toList).isSome
def numN (s : ByteArray) : Int := ((numT s.data.toList).map (·.1)).getD 0
def numL (s : ByteArray) : Int := ((((numT s.data.toList).map (·.2)).getD 0 : Nat) : Int)
def numK (s : ByteArray) : Int := bif numO s then 2 else 0
def tokP (k n : Int) (t : ByteArray) : Pt := .a [.gi .i64 k, .c (.int .i64 0), .gi .i64 n, .gs t]
def cNum : Con where
  ps := [.p 0 0]
  bl := scanB 0
  top := 4
  pre := fun σ => isDig (byt (σ.S 0).data.toList 0) = true ∧ (σ.S 0).size ≤ 65536
  post := fun σ => .leaf .ret [(0, .t [tokP (numK (σ.S 0)) (numN (σ.S 0)) ByteArray.empty, .gb (numO (σ.S 0))])] [(0, [(0, .gs (cutR (σ.S 0) (numL (σ.S 0))))])] []
noncomputable def Lnum : Lib := { LnumL with cs := (77, cNum) :: LnumL.cs }
end Go.Proofs.YtfjldllegmfooaaDoor.Lx
end

section
/- Written by vc.py: what is to be shown, read out. No condition. -/
set_option maxRecDepth 1000000
set_option maxHeartbeats 0
namespace Go.Proofs.YtfjldllegmfooaaDoor.Lx
open Go.RowKit Go.Proofs.YtfjldllegmfooaaDoor.X
theorem hex_goal (σ : Dt) (α : At') : (cHex.goal Tryd.prog Lrun.mk' 1000 Tryd.f99 σ α) = (
let x0 := bif decide (σ.I 0 ≥ (48 : Int)) then decide (σ.I 0 ≤ (57 : Int)) else false;
let x1 := bif decide (σ.I 0 ≥ (97 : Int)) then decide (σ.I 0 ≤ (102 : Int)) else false;
let x2 := bif decide (σ.I 0 ≥ (65 : Int)) then decide (σ.I 0 ≤ (70 : Int)) else false;
(x0 = true → True ∧ Ex.ret = Ex.ret ∧ true = true ∧ (True ∧ IntKind.i64.wrap (IntKind.u8.wrap (σ.I 0 - (48 : Int))) = hexI (σ.I 0)) ∧ true = hexO (σ.I 0)) ∧ (x0 = false → (x1 = true → True ∧ Ex.ret = Ex.ret ∧ true = true ∧ (True ∧ IntKind.i64.wrap (IntKind.i64.wrap (IntKind.u8.wrap (σ.I 0 - (97 :
    Int))) + (10 : Int)) = hexI (σ.I 0)) ∧ true = hexO (σ.I 0)) ∧ (x1 = false → (x2 = true → True ∧ Ex.ret = Ex.ret ∧ true = true ∧ (True ∧ IntKind.i64.wrap (IntKind.i64.wrap (IntKind.u8.wrap (σ.I 0 - (65 : Int))) + (10 : Int)) = hexI (σ.I 0)) ∧ true = hexO (σ.I 0)) ∧ (x2 = false → True ∧ Ex.ret =
    Ex.ret ∧ true = true ∧ (True ∧ (0 : Int) = hexI (σ.I 0)) ∧ false = hexO (σ.I 0))))) := by kernel_rfl

theorem numl_round (σ : Dt) (α : At') (rest : Nat → Value) : (lNumL.goal Tryd.prog Lhex.mk' 1000 bNumL σ α rest) = (
let x0 := !hexO (bytI (σ.S 0) (σ.I 1));
let x1 := twI isHex (σ.S 0) (σ.I 1);
let x2 := IntKind.i64.wrap (σ.I 1 + (1 : Int));
true = true ∧ (True ∧ (0 : Int) ≤ σ.I 1) ∧ (True ∧ (0 : Int) ≤ bytI (σ.S 0) (σ.I 1) ∧ bytI (σ.S 0) (σ.I 1) < (256 : Int)) ∧ (x0 = true → true = true ∧ Ex.exit 1 = Ex.exit 1 ∧ true = true ∧ (True ∧ σ.I 1 = x1) ∧ σ.S 0 = σ.S 0) ∧ (x0 = false → true = true ∧ true = true ∧ True ∧ ((0 : Int) ≤ x2 ∧ x2 ≤
    (↑(σ.S 0).size : Int) ∧ (σ.S 0).size ≤ 9223372036854775807) ∧ ((↑(σ.S 0).size : Int) - x2).toNat < ((↑(σ.S 0).size : Int) - σ.I 1).toNat ∧ Po.leaf (Ex.exit 1) [(0, Pt.p 0 0), (4, Pt.gi IntKind.i64 (twI isHex (σ.S 0) x2))] [] [] = Po.leaf (Ex.exit 1) [(0, Pt.p 0 0), (4, Pt.gi IntKind.i64 x1)] []
    [] ∧ asSt ([(Pt.gs (σ.S 0) :: kCells)], []) = ([(Pt.gs (σ.S 0) :: kCells)], []))) := by kernel_rfl

theorem num_goal (σ : Dt) (α : At') : (cNum.goal Tryd.prog LnumL.mk' 1000 Tryd.f77 σ α) = (
let x0 := (σ.S 0).size ≤ 9223372036854775807;
let x1 := twI (hasB (8 : Int)) (σ.S 0) (0 : Int);
let x2 := (0 : Int) ≤ x1;
let x3 := x2 ∧ x1 ≤ (↑(σ.S 0).size : Int);
let x4 := bytI (σ.S 0) (0 : Int) == (48 : Int);
let x6 := bytI (σ.S 0) (1 : Int) == (120 : Int);
let x7 := bif twI isHex (σ.S 0) (2 : Int) == (2 : Int) then true else decide (twI isHex (σ.S 0) (2 : Int) > (18 : Int));
let x8 := cutR (σ.S 0) (numL (σ.S 0));
let x9 := True ∧ Ex.ret = Ex.ret ∧ true = true ∧ ((((True ∧ (0 : Int) = numK (σ.S 0)) ∧ (0 : Int) = numN (σ.S 0)) ∧ (ByteArray.mk (#[])) = ByteArray.empty) ∧ false = numO (σ.S 0)) ∧ σ.S 0 = x8;
let x10 := (0 : Int) ≤ twI isHex (σ.S 0) (2 : Int);
let x11 := x10 ∧ twI isHex (σ.S 0) (2 : Int) ≤ (↑(σ.S 0).size : Int);
let x12 := (σ.S 0).extract 2 (twI isHex (σ.S 0) (2 : Int)).toNat;
let x13 := puVal x12 (16 : Int);
let x14 := decide (x13 < 18446744073709551616);
let x15 := bytI (σ.S 0) (twI isHex (σ.S 0) (2 : Int));
let x16 := x15.toNat;
let x17 := kTab;
let x18 := IntKind.i64.wrap (↑(BitVec.ofInt 64 (x17.getD x16 (0 : Int)) &&& BitVec.ofInt 64 (2 : Int)).toNat : Int) != (0 : Int);
let x19 := True ∧ (2 : Int) = numK (σ.S 0);
let x20 := decide (x1 > (1 : Int));
let x21 := (σ.S 0).extract 0 x1.toNat;
let x22 := puVal x21 (10 : Int);
let x23 := decide (x22 < 18446744073709551616);
let x24 := bytI (σ.S 0) x1;
let x25 := x24.toNat;
let x26 := IntKind.i64.wrap (↑(BitVec.ofInt 64 (x17.getD x25 (0 : Int)) &&& BitVec.ofInt 64 (2 : Int)).toNat : Int) != (0 : Int);
let x27 := (puPre x21 (10 : Int) ∧ (64 : Int) = (64 : Int)) ∧ (x23 = true → (True ∧ x2) ∧ ((0 : Int) ≤ x24 ∧ x24 < (256 : Int)) ∧ x25 < 256 ∧ (x26 = true → x9) ∧ (x26 = false → (True ∧ x3) ∧ True ∧ Ex.ret = Ex.ret ∧ true = true ∧ (((x19 ∧ IntKind.i64.wrap (↑x22 : Int) = numN (σ.S 0)) ∧ (ByteArray.mk (#[])) = ByteArray.empty) ∧ true = numO (σ.S 0)) ∧ cutR (σ.S 0) x1 = x8)) ∧ (x23 = false → x9);
let x29 := (True ∧ (0 : Int) ≤ (0 : Int)) ∧ (x4 = true → (x20 = true → x9) ∧ (x20 = false → x27)) ∧ (x4 = false → x27);
(True ∧ (0 : Int) ≤ (0 : Int) ∧ (0 : Int) ≤ (↑(σ.S 0).size : Int) ∧ x0) ∧ x3 ∧ (True ∧ (0 : Int) ≤ (0 : Int)) ∧ (x4 = true → (True ∧ (0 : Int) ≤ (1 : Int)) ∧ (x6 = true → (True ∧ (0 : Int) ≤ (2 : Int) ∧ (2 : Int) ≤ (↑(σ.S 0).size : Int) ∧ x0) ∧ (x7 = true → x9) ∧ (x7 = false → (x11 ∧ (0 : Int) ≤ (2 : Int)
    ∧ (2 : Int) ≤ twI isHex (σ.S 0) (2 : Int)) ∧ (puPre x12 (16 : Int) ∧ (64 : Int) = (64 : Int)) ∧ (x14 = true → (True ∧ x10) ∧ ((0 : Int) ≤ x15 ∧ x15 < (256 : Int)) ∧ x16 < 256 ∧ (x18 = true → x9) ∧ (x18 = false → (True ∧ x11) ∧ True ∧ Ex.ret = Ex.ret ∧ true = true ∧ (((x19 ∧ IntKind.i64.wrap
    (↑x13 : Int) = numN (σ.S 0)) ∧ (ByteArray.mk (#[])) = ByteArray.empty) ∧ true = numO (σ.S 0)) ∧ cutR (σ.S 0) (twI isHex (σ.S 0) (2 : Int)) = x8)) ∧ (x14 = false → x9))) ∧ (x6 = false → x29)) ∧ (x4 = false → x29)) := by kernel_rfl

end Go.Proofs.YtfjldllegmfooaaDoor.Lx
end

section
/- Numbers: shown. No condition. -/
set_option maxRecDepth 100000
namespace Go.Proofs.YtfjldllegmfooaaDoor.Lx
open Go.RowKit Go.IntWalk Go.Proofs.YtfjldllegmfooaaDoor.X

theorem hex_all : ∀ c : Fin 256, hexI (c.val : Int) = (if 48 ≤ c.val ∧ c.val ≤ 57 then ((c.val - 48 : Nat) : Int) else if 97 ≤ c.val ∧ c.val ≤ 102 then ((c.val - 97 + 10 : Nat) : Int) else if 65 ≤ c.val ∧ c.val ≤ 70 then ((c.val - 65 + 10 : Nat) : Int) else 0) ∧ hexO (c.val : Int) = (decide (48 ≤ c.val ∧ c.val ≤ 57) || decide (97 ≤ c.val ∧ c.val ≤ 102) || decide (65 ≤ c.val ∧ c.val ≤ 70)) := by decide +kernel
theorem hexG : ∀ c : Fin 256,
    let i : Int := (c.val : Int)
    let x0 := bif decide (i ≥ (48 : Int)) then decide (i ≤ (57 : Int)) else false
    let x1 := bif decide (i ≥ (97 : Int)) then decide (i ≤ (102 : Int)) else false
    let x2 := bif decide (i ≥ (65 : Int)) then decide (i ≤ (70 : Int)) else false
    (x0 = true → (IntKind.i64.wrap (IntKind.u8.wrap (i - (48 : Int))) = hexI i) ∧ true = hexO i) ∧ (x0 = false → (x1 = true → (IntKind.i64.wrap (IntKind.i64.wrap (IntKind.u8.wrap (i - (97 : Int))) + (10 : Int)) = hexI i) ∧ true = hexO i) ∧ (x1 = false → (x2 = true → (IntKind.i64.wrap (IntKind.i64.wrap (IntKind.u8.wrap (i - (65 : Int))) + (10 : Int)) = hexI i) ∧ true = hexO i) ∧ (x2 = false → ((0 : Int) = hexI i) ∧ false = hexO i))) := by decide +kernel
theorem good_hex : Lib.Good Tryd.prog Lhex := lib_con good_run Tryd.func99 cHex 1000 fun σ α hp => by
  rw [hex_goal]
  obtain ⟨h0, h1⟩ := (show 0 ≤ σ.I 0 ∧ σ.I 0 < 256 from hp)
  have hc : ((⟨(σ.I 0).toNat, by omega⟩ : Fin 256).val : Int) = σ.I 0 := by show (((σ.I 0).toNat : Nat) : Int) = _; omega
  have hg := hexG ⟨(σ.I 0).toNat, by omega⟩
  rw [hc] at hg
  intro x0 x1 x2
  obtain ⟨g1, g2⟩ := hg
  refine ⟨fun h => ⟨trivial, rfl, rfl, ⟨trivial, (g1 h).1⟩, (g1 h).2⟩, fun h => ⟨fun k => ⟨trivial, rfl, rfl, ⟨trivial, ((g2 h).1 k).1⟩, ((g2 h).1 k).2⟩, fun k => ⟨fun m => ⟨trivial, rfl, rfl, ⟨trivial, (((g2 h).2 k).1 m).1⟩, (((g2 h).2 k).1 m).2⟩, fun m => ⟨trivial, rfl, rfl, ⟨trivial, (((g2 h).2 k).2 m).1⟩, (((g2 h).2 k).2 m).2⟩⟩⟩⟩
theorem hexO_byt (s : ByteArray) (i : Int) : hexO (bytI s i) = isHex (byt s.data.toList i.toNat) := by
  unfold hexO bytI isHex
  rw [Int.toNat_natCast, UInt8.ofNat_toNat]
theorem bytI_in (s : ByteArray) (i : Int) : 0 ≤ bytI s i ∧ bytI s i < 256 := by
  unfold bytI
  have := UInt8.toNat_lt (byt s.data.toList i.toNat)
  omega
theorem byt_past {s : ByteArray} {i : Int} (h : ¬ i < s.size) : byt s.data.toList i.toNat = 0 := by
  unfold byt; rw [List.getD_eq_getElem?_getD, List.getElem?_eq_none (by rw [data_len]; omega)]; rfl
theorem good_numL : Lib.Good Tryd.prog LnumL := lib_loop good_hex 5 "lexer.go:108" (by kernel_rfl) lNumL 1000 fun σ α rest hp => by
  obtain ⟨h0, h1, h2⟩ := (show 0 ≤ σ.I 1 ∧ σ.I 1 ≤ (σ.S 0).size ∧ (σ.S 0).size ≤ 9223372036854775807 from hp)
  refine (numl_round σ α rest).mpr ?_
  intro x0 x1 x2
  have e0 : x0 = !isHex (byt (σ.S 0).data.toList (σ.I 1).toNat) := by show (!hexO (bytI (σ.S 0) (σ.I 1))) = _; rw [hexO_byt]
  refine ⟨rfl, ⟨trivial, h0⟩, ⟨trivial, bytI_in _ _⟩, fun h => ?_, fun h => ?_⟩
  · refine ⟨rfl, rfl, rfl, ⟨trivial, (twI_stop h0 fun _ => ?_).symm⟩, rfl⟩
    rw [e0] at h
    simpa using h
  · rw [e0] at h
    have hh : isHex (byt (σ.S 0).data.toList (σ.I 1).toNat) = true := by simpa using h
    have hlt : σ.I 1 < ((σ.S 0).size : Int) := by
      refine Decidable.by_contra fun hn => ?_
      rw [byt_past hn] at hh
      revert hh; decide
    have e5 : x2 = σ.I 1 + 1 := i64_in _ (by omega)
    have e6 : twI isHex (σ.S 0) x2 = x1 := by rw [e5]; exact (twI_step h0 hlt hh).symm
    exact ⟨rfl, rfl, trivial, ⟨by omega, by omega, h2⟩, by omega, by rw [e6], rfl⟩

theorem has_all (b : Int) (p : UInt8 → Bool) (h : ∀ c : Fin 256, hasB b (UInt8.ofNat c.val) = p (UInt8.ofNat c.val)) : hasB b = p := by
  funext c
  have := h ⟨c.toNat, c.toNat_lt⟩
  rwa [UInt8.ofNat_toNat] at this
theorem has_dig : hasB 8 = isDig := has_all _ _ (by decide +kernel)
theorem has_ins : hasB 2 = isIns := has_all _ _ (by decide +kernel)
theorem has_fst : hasB 1 = isFst := has_all _ _ (by decide +kernel)
theorem has_let : hasB 4 = isLet := has_all _ _ (by decide +kernel)
theorem has_reg : hasB 12 = isReg := has_all _ _ (by decide +kernel)
theorem tab_has (s : ByteArray) (i b : Int) : (IntKind.i64.wrap (((BitVec.ofInt 64 (kTab.getD (bytI s i).toNat (0 : Int)) &&& BitVec.ofInt 64 b).toNat : Nat) : Int) != (0 : Int)) = hasB b (byt s.data.toList i.toNat) := by
  unfold bytI
  rw [Int.toNat_natCast, kTab_at]; rfl
theorem bytI_eq (s : ByteArray) (i : Int) (c : Nat) (hc : c < 256) : (bytI s i == (c : Int)) = decide (byt s.data.toList i.toNat = UInt8.ofNat c) := by
  unfold bytI
  rw [Bool.eq_iff_iff, beq_iff_eq, decide_eq_true_iff]
  constructor
  · intro h
    have : (byt s.data.toList i.toNat).toNat = c := by omega
    rw [← this, UInt8.ofNat_toNat]
  · intro h
    rw [h, UInt8.toNat_ofNat_of_lt' (by simpa using hc)]
theorem ext_m (s : ByteArray) (a b : Nat) : s.extract a b = bs ((s.data.toList.take b).drop a) := by
  apply ByteArray.ext
  apply Array.ext'
  simp [bs, List.drop_take]
theorem num_no {s : ByteArray} (h : numT s.data.toList = none) : True ∧ Ex.ret = Ex.ret ∧ true = true ∧ ((((True ∧ (0 : Int) = numK s) ∧ (0 : Int) = numN s) ∧ (ByteArray.mk (#[])) = ByteArray.empty) ∧ false = numO s) ∧ s = cutR s (numL s) := by
  unfold numK numN numL numO
  rw [h]
  exact ⟨trivial, rfl, rfl, ⟨⟨⟨⟨trivial, rfl⟩, rfl⟩, rfl⟩, rfl⟩, (bs_of s).symm⟩
theorem num_yes {s : ByteArray} {v : Int} {n : Nat} (h : numT s.data.toList = some (v, n)) {x : Int} (hx : x = n) : True ∧ Ex.ret = Ex.ret ∧ true = true ∧ (((((True ∧ (2 : Int) = numK s)) ∧ v = numN s) ∧ (ByteArray.mk (#[])) = ByteArray.empty) ∧ true = numO s) ∧ cutR s x = cutR s (numL s) := by
  unfold numK numN numL numO
  rw [h, hx]
  exact ⟨trivial, rfl, rfl, ⟨⟨⟨⟨trivial, rfl⟩, rfl⟩, rfl⟩, rfl⟩, rfl⟩
theorem twI_0 (p : UInt8 → Bool) (s : ByteArray) : twI p s 0 = ((s.data.toList.takeWhile p).length : Nat) := by
  unfold twI
  simp
theorem twI_2 (p : UInt8 → Bool) (s : ByteArray) : twI p s 2 = ((2 + ((s.data.toList.drop 2).takeWhile p).length : Nat) : Int) := by
  unfold twI
  rw [show (2 : Int).toNat = 2 from rfl]; omega
theorem tw_le (p : UInt8 → Bool) (l : Bs) : (l.takeWhile p).length ≤ l.length := (List.takeWhile_sublist p).length_le
theorem byt_pos {l : Bs} {i : Nat} (h : byt l i ≠ 0) : i < l.length := by
  refine Decidable.by_contra fun hn => h ?_
  unfold byt; rw [List.getD_eq_getElem?_getD, List.getElem?_eq_none (by omega)]; rfl
end Go.Proofs.YtfjldllegmfooaaDoor.Lx
end

section
/- A number: shown. No condition. -/
set_option maxRecDepth 100000
namespace Go.Proofs.YtfjldllegmfooaaDoor.Lx
open Go.RowKit Go.IntWalk Go.Proofs.YtfjldllegmfooaaDoor.X

theorem tw_all (p : UInt8 → Bool) (l : Bs) : (l.take (l.takeWhile p).length).all p = true := by
  rw [show l.take (l.takeWhile p).length = l.takeWhile p from by
    induction l with
    | nil => rfl
    | cons a l ih => rw [List.takeWhile_cons]; split <;> simp_all]
  exact List.all_takeWhile
theorem bs_size (l : Bs) : (bs l).size = l.length := by
  rw [← data_len]; rfl
theorem pu_val (s : ByteArray) (a b : Nat) (k : Int) : puVal (s.extract a b) k = valB k.toNat ((s.data.toList.take b).drop a) := by
  unfold puVal; rw [ext_m, bs_data]
theorem dig_pos {l : Bs} (h : isDig (byt l 0) = true) : 1 ≤ (l.takeWhile isDig).length := by
  cases l with
  | nil => revert h; decide
  | cons c l =>
    have : isDig c = true := h
    rw [List.takeWhile_cons_of_pos this]
    simp
theorem numT_hex {l : Bs} (c0 : byt l 0 = 48) (c1 : byt l 1 = 120) : numT l = if 2 + ((l.drop 2).takeWhile isHex).length = 2 ∨ 2 + ((l.drop 2).takeWhile isHex).length > 18 ∨ isIns (byt l (2 + ((l.drop 2).takeWhile isHex).length)) = true then none else some (i64 (valB 16 ((l.take (2 + ((l.drop 2).takeWhile isHex).length)).drop 2)), 2 + ((l.drop 2).takeWhile isHex).length) := by
  unfold numT
  rw [if_pos ⟨c0, c1⟩]
theorem good_num : Lib.Good Tryd.prog Lnum := lib_con good_numL Tryd.func77 cNum 1000 fun σ α hp => by
  rw [num_goal]
  obtain ⟨hd, hz⟩ := (show isDig (byt (σ.S 0).data.toList 0) = true ∧ (σ.S 0).size ≤ 65536 from hp)
  intro x0 x1 x2 x3 x4 x6 x7 x8 x9 x10 x11 x12 x13 x14 x15 x16 x17 x18 x19 x20 x21 x22 x23 x24 x25 x26 x27 x29
  have hL := data_len (σ.S 0)
  have h0 : x0 := by show _ ≤ 9223372036854775807; omega
  have e1 : x1 = (((σ.S 0).data.toList.takeWhile isDig).length : Nat) := by show twI (hasB 8) _ 0 = _; rw [has_dig, twI_0]
  have eh := twI_2 isHex (σ.S 0)
  have hn := tw_le isDig (σ.S 0).data.toList
  have hn1 := dig_pos hd
  have e4 : x4 = decide (byt (σ.S 0).data.toList 0 = 48) := bytI_eq _ 0 48 (by decide)
  have e6 : x6 = decide (byt (σ.S 0).data.toList 1 = 120) := bytI_eq _ 1 120 (by decide)
  have e18 : x18 = isIns (byt (σ.S 0).data.toList (twI isHex (σ.S 0) 2).toNat) := by rw [← has_ins]; exact tab_has _ _ _
  have e26 : x26 = isIns (byt (σ.S 0).data.toList x1.toNat) := by rw [← has_ins]; exact tab_has _ _ _
  have e13 : x13 = valB 16 (((σ.S 0).data.toList.take (twI isHex (σ.S 0) 2).toNat).drop 2) := pu_val _ _ _ _
  have e22 : x22 = valB 10 ((σ.S 0).data.toList.take x1.toNat) := pu_val _ _ _ _
  have no : numT (σ.S 0).data.toList = none → x9 := num_no
  have h3 : x3 := ⟨by show 0 ≤ x1; omega, by omega⟩
  have dec : ¬ (byt (σ.S 0).data.toList 0 = 48 ∧ byt (σ.S 0).data.toList 1 = 120) → (x4 = true → (x20 = true → x9) ∧ (x20 = false → x27)) ∧ (x4 = false → x27) := by
    intro hx
    have key : ∀ r, numT (σ.S 0).data.toList = r → r = if (byt (σ.S 0).data.toList 0 = 48 ∧ ((σ.S 0).data.toList.takeWhile isDig).length > 1) ∨ valB 10 ((σ.S 0).data.toList.take ((σ.S 0).data.toList.takeWhile isDig).length) ≥ 18446744073709551616 ∨ isIns (byt (σ.S 0).data.toList ((σ.S 0).data.toList.takeWhile isDig).length) = true then none else some (i64 (valB 10 ((σ.S 0).data.toList.take ((σ.S 0).data.toList.takeWhile isDig).length)), ((σ.S 0).data.toList.takeWhile isDig).length) := by
      intro r hr
      rw [← hr]
      unfold numT
      rw [if_neg hx]
    have key := key _ rfl
    have t1 : x1.toNat = ((σ.S 0).data.toList.takeWhile isDig).length := by omega
    rw [t1] at e22 e26
    have h27 : ¬ (byt (σ.S 0).data.toList 0 = 48 ∧ ((σ.S 0).data.toList.takeWhile isDig).length > 1) → x27 := by
      intro hq
      refine ⟨⟨.inl ⟨rfl, ?_, ?_, ?_⟩, rfl⟩, fun h => ⟨⟨trivial, h3.1⟩, bytI_in _ _, ?_, fun k => no ?_, fun k => ?_⟩, fun h => no ?_⟩
      · show (x21.data.toList.all isDig) = true
        rw [show x21 = _ from ext_m _ _ _, bs_data, t1]; exact tw_all _ _
      · show 1 ≤ x21.size
        rw [show x21 = _ from ext_m _ _ _, bs_size, t1, List.length_drop, List.length_take]; omega
      · show x21.size ≤ _
        rw [show x21 = _ from ext_m _ _ _, bs_size, t1, List.length_drop, List.length_take]; omega
      · have := bytI_in (σ.S 0) x1
        show (bytI (σ.S 0) x1).toNat < 256
        omega
      · rw [key, if_pos (.inr (.inr (by rw [← e26]; exact k)))]
      · have hlt : x22 < 18446744073709551616 := of_decide_eq_true h
        have ky : numT (σ.S 0).data.toList = some (IntKind.i64.wrap (x22 : Int), ((σ.S 0).data.toList.takeWhile isDig).length) := by
          rw [key, if_neg, e22]; rfl
          rintro (c | c | c)
          · exact hq c
          · omega
          · rw [← e26, k] at c; cases c
        exact ⟨⟨trivial, h3⟩, num_yes ky e1⟩
      · have hge : ¬ x22 < 18446744073709551616 := of_decide_eq_false h
        rw [key, if_pos (.inr (.inl (by omega)))]
    refine ⟨fun h => ⟨fun k => no ?_, fun k => h27 ?_⟩, fun h => h27 ?_⟩
    · rw [e4] at h
      have : x1 > 1 := of_decide_eq_true k
      rw [key, if_pos (.inl ⟨of_decide_eq_true h, by omega⟩)]
    · have : ¬ x1 > 1 := of_decide_eq_false k
      rintro ⟨_, c⟩; omega
    · rw [e4] at h
      rintro ⟨c, _⟩; exact of_decide_eq_false h c
  refine ⟨⟨trivial, Int.le_refl _, Int.natCast_nonneg _, h0⟩, h3, ⟨trivial, Int.le_refl _⟩, fun h4 => ⟨⟨trivial, by decide⟩, fun h6 => ?_, fun h6 => ?_⟩, fun h4 => ?_⟩
  · rw [e4] at h4; rw [e6] at h6
    have c0 := of_decide_eq_true h4
    have c1 := of_decide_eq_true h6
    have hl2 : 1 < (σ.S 0).data.toList.length := byt_pos (by rw [c1]; decide)
    have key := numT_hex c0 c1
    generalize hm : ((((σ.S 0).data.toList.drop 2).takeWhile isHex)).length = m at key eh
    have hmle : m ≤ (σ.S 0).data.toList.length - 2 := by
      have := tw_le isHex ((σ.S 0).data.toList.drop 2)
      rw [hm, List.length_drop] at this; exact this
    have t1 : (twI isHex (σ.S 0) 2).toNat = 2 + m := by omega
    have e7 : x7 = decide (m = 0 ∨ m > 16) := by
      show (bif twI isHex (σ.S 0) 2 == 2 then true else decide (twI isHex (σ.S 0) 2 > 18)) = _
      rw [eh, Bool.eq_iff_iff, decide_eq_true_iff]
      cases hb : (((2 + m : Nat) : Int) == 2) with
      | true =>
        have := beq_iff_eq.1 hb
        exact ⟨fun _ => .inl (by omega), fun _ => rfl⟩
      | false =>
        have hne : ((2 + m : Nat) : Int) ≠ 2 := fun c => by rw [c] at hb; cases hb
        show decide _ = true ↔ _
        rw [decide_eq_true_iff]; omega
    rw [t1] at e13 e18
    refine ⟨⟨trivial, by decide, by omega, h0⟩, fun h => no ?_, fun h => ?_⟩
    · rw [e7] at h
      have := of_decide_eq_true h
      rw [key, if_pos]
      omega
    · rw [e7] at h
      have hm1 := of_decide_eq_false h
      have h11 : x11 := ⟨by show 0 ≤ _; omega, by omega⟩
      have hlen : (((σ.S 0).data.toList.take (2 + m)).drop 2).length = m := by rw [List.length_drop, List.length_take]; omega
      have hlt : x13 < 18446744073709551616 := by
        rw [e13]
        refine Nat.lt_of_lt_of_le (val16_lt _) ?_
        rw [hlen]
        have : (16 : Nat) ^ m ≤ 16 ^ 16 := Nat.pow_le_pow_right (by decide) (by omega)
        have e2 : (16 : Nat) ^ 16 = 18446744073709551616 := by decide
        omega
      refine ⟨⟨h11, by decide, by omega⟩, ⟨.inr ⟨rfl, ?_, ?_, ?_⟩, rfl⟩, fun h => ⟨⟨trivial, h11.1⟩, bytI_in _ _, ?_, fun k => no ?_, fun k => ?_⟩, fun h => absurd hlt (of_decide_eq_false h)⟩
      · show (x12.data.toList.all isHex) = true
        rw [show x12 = _ from ext_m _ _ _, bs_data, t1, List.drop_take, Nat.add_sub_cancel_left, ← hm]; exact tw_all _ _
      · show 1 ≤ x12.size
        rw [show x12 = _ from ext_m _ _ _, bs_size, t1, hlen]; omega
      · show x12.size ≤ 16
        rw [show x12 = _ from ext_m _ _ _, bs_size, t1, hlen]; omega
      · have := bytI_in (σ.S 0) (twI isHex (σ.S 0) 2)
        show (bytI (σ.S 0) (twI isHex (σ.S 0) 2)).toNat < 256
        omega
      · rw [e18] at k
        rw [key, if_pos (.inr (.inr k))]
      · rw [e18] at k
        have ky : numT (σ.S 0).data.toList = some (IntKind.i64.wrap (x13 : Int), 2 + m) := by
          rw [key, if_neg, e13]; rfl
          rintro (c | c | c)
          · omega
          · omega
          · rw [k] at c; cases c
        exact ⟨⟨trivial, h11⟩, num_yes ky eh⟩
  · rw [e6] at h6
    exact ⟨⟨trivial, Int.le_refl _⟩, dec fun c => of_decide_eq_false h6 c.2⟩
  · rw [e4] at h4
    exact ⟨⟨trivial, Int.le_refl _⟩, dec fun c => of_decide_eq_false h4 c.1⟩
end Go.Proofs.YtfjldllegmfooaaDoor.Lx
end

section
/- Quoted texts: contracts. No condition. -/
namespace Go.Proofs.YtfjldllegmfooaaDoor.Lx
open Go.RowKit Go.IntWalk Go.Proofs.YtfjldllegmfooaaDoor.X

/-- Does a quoted text run to the line's end? -/
def quoEnd : Bs → Bool
  | [] => true
  | c :: r =>
    if c = 34 then false
    else if c.toNat < 32 ∨ c.toNat > 126 then false
    else if c ≠ 92 then quoEnd r
    else match r with
      | [] => false
      | e :: r =>
        if e = 92 ∨ e = 34 ∨ e = 110 ∨ e = 116 ∨ e = 48 then quoEnd r
        else if e = 120 then match r with
          | h :: l :: r => if (hexV h).isSome = true ∧ (hexV l).isSome = true then quoEnd r else false
          | _ => false
        else false
def bK : List PK := [.int .u8]
def restB (s : ByteArray) (i : Int) : Bs := s.data.toList.drop i.toNat
def quoF (s : ByteArray) (i : Int) : Bool := quoEnd (restB s i)
def quoO (s : ByteArray) (i : Int) : Bool := (quo (restB s i)).isSome
def quoX (xs : List (List Value)) (s : ByteArray) (i : Int) : ByteArray := match quo (restB s i) with
  | some q => rowsStr (xs ++ q.1.map fun c => [Value.int .u8 (c.toNat : Int)])
  | none => ByteArray.empty
def quoN (s : ByteArray) (i : Int) : Int := match quo (restB s i) with
  | some q => i + (q.2 : Int)
  | none => 0
def quoK (s : ByteArray) (i : Int) : Int := bif quoO s i then 3 else 0
def zTok : List Pt := [.c (.int .i64 0), .c (.int .i64 0), .c (.int .i64 0), .c (.string ByteArray.empty)]
def cQuoL : Con where
  ps := [.p 0 0, .p 4 0, .r 8 5 bK, .i .i64 5]
  bl := scanB 0 ++ [(4, 32, zTok)]
  top := 12
  pre := fun σ => 0 ≤ σ.I 5 ∧ σ.I 5 ≤ (σ.S 0).size ∧ (σ.S 0).size ≤ 65536 ∧ ((σ.R 8).length : Int) ≤ σ.I 5
  post := fun σ => .ite (quoF (σ.S 0) (σ.I 5))
    (.leaf (.exit 0) [(0, .p 0 0), (2, .p 4 0)] [] [8])
    (.leaf .ret [(0, .p 0 0), (2, .p 4 0), (3, .gb (quoO (σ.S 0) (σ.I 5)))] [(0, [(0, .gs (cutR (σ.S 0) (quoN (σ.S 0) (σ.I 5))))]), (4, [(0, .gi .i64 (quoK (σ.S 0) (σ.I 5))), (3, .gs (quoX (σ.R 8) (σ.S 0) (σ.I 5)))])] [8])
noncomputable def bQuoL : Code := loopAt Tryd.prog 3 "lexer.go:131"
noncomputable def lQuoL : LCon := { c := cQuoL, sl := [0, 2, 4, 5], nt := Tryd.f78.ntmps, hv := nubN (writes bQuoL) [], meas := fun σ => ((σ.S 0).size - σ.I 5).toNat, mvr := [8] }
noncomputable def LquoL : Lib := { Lnum with ls := (3, "lexer.go:131", lQuoL) :: Lnum.ls }
def cQuo : Con where
  ps := [.p 0 0]
  bl := scanB 0
  top := 4
  pre := fun σ => 1 ≤ (σ.S 0).size ∧ (σ.S 0).size ≤ 65536
  post := fun σ => .leaf .ret [(0, .t [tokP (quoK (σ.S 0) 1) 0 (quoX [] (σ.S 0) 1), .gb (quoO (σ.S 0) 1)])] [(0, [(0, .gs (cutR (σ.S 0) (quoN (σ.S 0) 1)))])] []
noncomputable def Lquo : Lib := { LquoL with cs := (78, cQuo) :: LquoL.cs }
end Go.Proofs.YtfjldllegmfooaaDoor.Lx
end

section
/- Written by vc.py: what is to be shown, read out. No condition. -/
set_option maxRecDepth 1000000
set_option maxHeartbeats 0
namespace Go.Proofs.YtfjldllegmfooaaDoor.Lx
open Go.RowKit Go.Proofs.YtfjldllegmfooaaDoor.X
theorem quol_round (σ : Dt) (α : At') (rest : Nat → Value) : (lQuoL.goal Tryd.prog Lnum.mk' 1000 bQuoL σ α rest) = (
let x0 := σ.I 5 < (↑(σ.S 0).size : Int);
let x1 := decide x0;
let x2 := (↑((σ.S 0).data.getD (σ.I 5).toNat (0 : UInt8)).toNat : Int);
let x3 := x2 == (34 : Int);
let x4 := IntKind.i64.wrap (σ.I 5 + (1 : Int));
let x5 := (0 : Int) ≤ x4;
let x6 := x4 ≤ (↑(σ.S 0).size : Int);
let x7 := quoF (σ.S 0) (σ.I 5) = true;
let x8 := quoF (σ.S 0) (σ.I 5) = false;
let x9 := cutR (σ.S 0) (quoN (σ.S 0) (σ.I 5));
let x10 := quoX (σ.R 8) (σ.S 0) (σ.I 5);
let x11 := bif decide (x2 < (32 : Int)) then true else decide (x2 > (126 : Int));
let x12 := true = true ∧ (x7 → Ex.exit 0 = Ex.ret ∧ true = true ∧ False) ∧ (x8 → Ex.ret = Ex.ret ∧ true = true ∧ (((True ∧ false = quoO (σ.S 0) (σ.I 5)) ∧ σ.S 0 = x9) ∧ (0 : Int) = quoK (σ.S 0) (σ.I 5)) ∧ (ByteArray.mk (#[])) = x10);
let x13 := x2 != (92 : Int);
let x14 := (σ.R 8).length = (σ.R 8).length;
let x15 := σ.R 8 ++ [[Value.int IntKind.u8 x2]];
let x16 := x15.length;
let x17 := (σ.S 0).size ≤ 65536;
let x18 := ((↑(σ.S 0).size : Int) - σ.I 5).toNat;
let x19 := asSt ([(Pt.gs (σ.S 0) :: kCells), [Pt.c (Value.int IntKind.i64 (0 : Int)), Pt.c (Value.int IntKind.i64 (0 : Int)), Pt.c (Value.int IntKind.i64 (0 : Int)), Pt.c (Value.string ByteArray.empty)]], []) = ([(Pt.gs (σ.S 0) :: kCells), [Pt.c (Value.int IntKind.i64 (0 : Int)), Pt.c (Value.int
    IntKind.i64 (0 : Int)), Pt.c (Value.int IntKind.i64 (0 : Int)), Pt.c (Value.string ByteArray.empty)]], []);
let x20 := bytI (σ.S 0) x4;
let x21 := x20 == (92 : Int);
let x22 := bif x21 then x21 else x20 == (34 : Int);
let x23 := σ.R 8 ++ [[Value.int IntKind.u8 x20]];
let x24 := x23.length;
let x25 := IntKind.i64.wrap (x4 + (1 : Int));
let x26 := (0 : Int) ≤ x25;
let x27 := x25 ≤ (↑(σ.S 0).size : Int);
let x28 := ((↑(σ.S 0).size : Int) - x25).toNat < x18;
let x29 := quoF (σ.S 0) x25;
let x30 := x20 == (110 : Int);
let x31 := σ.R 8 ++ [[Value.int IntKind.u8 (10 : Int)]];
let x32 := x31.length;
let x33 := x20 == (116 : Int);
let x34 := σ.R 8 ++ [[Value.int IntKind.u8 (9 : Int)]];
let x35 := x34.length;
let x36 := x20 == (48 : Int);
let x37 := σ.R 8 ++ [[Value.int IntKind.u8 (0 : Int)]];
let x38 := x37.length;
let x39 := x20 == (120 : Int);
let x40 := bytI (σ.S 0) x25;
let x41 := IntKind.i64.wrap (x4 + (2 : Int));
let x42 := bytI (σ.S 0) x41;
let x43 := bif !hexO x40 then true else !hexO x42;
let x44 := σ.R 8 ++ [[Value.int IntKind.u8 (IntKind.u8.wrap (IntKind.i64.wrap (IntKind.i64.wrap ((16 : Int) * hexI x40) + hexI x42)))]];
let x45 := x44.length;
let x46 := IntKind.i64.wrap (x41 + (1 : Int));
true = true ∧ (x1 = true → ((0 : Int) ≤ σ.I 5 ∧ x0) ∧ (x3 = true → (True ∧ x5 ∧ x6) ∧ (σ.R 8).length ≤ (σ.R 8).length ∧ true = true ∧ (x7 → Ex.exit 0 = Ex.ret ∧ true = true ∧ False) ∧ (x8 → Ex.ret = Ex.ret ∧ true = true ∧ (((True ∧ true = quoO (σ.S 0) (σ.I 5)) ∧ cutR (σ.S 0) x4 = x9) ∧ (3 : Int) =
    quoK (σ.S 0) (σ.I 5)) ∧ (ByteArray.mk (List.map (fun r => UInt8.ofNat (asI (r.getD 0 (Value.tuple #[]))).toNat) (List.take (σ.R 8).length (σ.R 8))).toArray) = x10)) ∧ (x3 = false → (x11 = true → x12) ∧ (x11 = false → (x13 = true → (x14 ∧ True ∧ x16 ≤ 9223372036854775807 ∧ x16 * 1 ≤
    140737488355328) ∧ true = true ∧ true = true ∧ (True ∧ x16 = x16) ∧ (x5 ∧ x6 ∧ x17 ∧ (↑x16 : Int) ≤ x4) ∧ ((↑(σ.S 0).size : Int) - x4).toNat < x18 ∧ Po.ite (quoF (σ.S 0) x4) (Po.leaf (Ex.exit 0) [(0, Pt.p 0 0), (2, Pt.p 4 0)] [] [8]) (Po.leaf Ex.ret [(0, Pt.p 0 0), (2, Pt.p 4 0), (3, Pt.gb (quoO
    (σ.S 0) x4))] [(0, [(0, Pt.gs (cutR (σ.S 0) (quoN (σ.S 0) x4)))]), (4, [(0, Pt.gi IntKind.i64 (quoK (σ.S 0) x4)), (3, Pt.gs (quoX x15 (σ.S 0) x4))])] [8]) = Po.ite (quoF (σ.S 0) (σ.I 5)) (Po.leaf (Ex.exit 0) [(0, Pt.p 0 0), (2, Pt.p 4 0)] [] [8]) (Po.leaf Ex.ret [(0, Pt.p 0 0), (2, Pt.p 4 0),
    (3, Pt.gb (quoO (σ.S 0) (σ.I 5)))] [(0, [(0, Pt.gs x9)]), (4, [(0, Pt.gi IntKind.i64 (quoK (σ.S 0) (σ.I 5))), (3, Pt.gs x10)])] [8]) ∧ x19) ∧ (x13 = false → (True ∧ x5) ∧ (x22 = true → (x14 ∧ True ∧ x24 ≤ 9223372036854775807 ∧ x24 * 1 ≤ 140737488355328) ∧ true = true ∧ true = true ∧ (True ∧ x24
    = x24) ∧ (x26 ∧ x27 ∧ x17 ∧ (↑x24 : Int) ≤ x25) ∧ x28 ∧ Po.ite x29 (Po.leaf (Ex.exit 0) [(0, Pt.p 0 0), (2, Pt.p 4 0)] [] [8]) (Po.leaf Ex.ret [(0, Pt.p 0 0), (2, Pt.p 4 0), (3, Pt.gb (quoO (σ.S 0) x25))] [(0, [(0, Pt.gs (cutR (σ.S 0) (quoN (σ.S 0) x25)))]), (4, [(0, Pt.gi IntKind.i64 (quoK (σ.S
    0) x25)), (3, Pt.gs (quoX x23 (σ.S 0) x25))])] [8]) = Po.ite (quoF (σ.S 0) (σ.I 5)) (Po.leaf (Ex.exit 0) [(0, Pt.p 0 0), (2, Pt.p 4 0)] [] [8]) (Po.leaf Ex.ret [(0, Pt.p 0 0), (2, Pt.p 4 0), (3, Pt.gb (quoO (σ.S 0) (σ.I 5)))] [(0, [(0, Pt.gs x9)]), (4, [(0, Pt.gi IntKind.i64 (quoK (σ.S 0) (σ.I
    5))), (3, Pt.gs x10)])] [8]) ∧ x19) ∧ (x22 = false → (x30 = true → (x14 ∧ True ∧ x32 ≤ 9223372036854775807 ∧ x32 * 1 ≤ 140737488355328) ∧ true = true ∧ true = true ∧ (True ∧ x32 = x32) ∧ (x26 ∧ x27 ∧ x17 ∧ (↑x32 : Int) ≤ x25) ∧ x28 ∧ Po.ite x29 (Po.leaf (Ex.exit 0) [(0, Pt.p 0 0), (2, Pt.p 4 0)]
    [] [8]) (Po.leaf Ex.ret [(0, Pt.p 0 0), (2, Pt.p 4 0), (3, Pt.gb (quoO (σ.S 0) x25))] [(0, [(0, Pt.gs (cutR (σ.S 0) (quoN (σ.S 0) x25)))]), (4, [(0, Pt.gi IntKind.i64 (quoK (σ.S 0) x25)), (3, Pt.gs (quoX x31 (σ.S 0) x25))])] [8]) = Po.ite (quoF (σ.S 0) (σ.I 5)) (Po.leaf (Ex.exit 0) [(0, Pt.p 0
    0), (2, Pt.p 4 0)] [] [8]) (Po.leaf Ex.ret [(0, Pt.p 0 0), (2, Pt.p 4 0), (3, Pt.gb (quoO (σ.S 0) (σ.I 5)))] [(0, [(0, Pt.gs x9)]), (4, [(0, Pt.gi IntKind.i64 (quoK (σ.S 0) (σ.I 5))), (3, Pt.gs x10)])] [8]) ∧ x19) ∧ (x30 = false → (x33 = true → (x14 ∧ True ∧ x35 ≤ 9223372036854775807 ∧ x35 * 1 ≤
    140737488355328) ∧ true = true ∧ true = true ∧ (True ∧ x35 = x35) ∧ (x26 ∧ x27 ∧ x17 ∧ (↑x35 : Int) ≤ x25) ∧ x28 ∧ Po.ite x29 (Po.leaf (Ex.exit 0) [(0, Pt.p 0 0), (2, Pt.p 4 0)] [] [8]) (Po.leaf Ex.ret [(0, Pt.p 0 0), (2, Pt.p 4 0), (3, Pt.gb (quoO (σ.S 0) x25))] [(0, [(0, Pt.gs (cutR (σ.S 0)
    (quoN (σ.S 0) x25)))]), (4, [(0, Pt.gi IntKind.i64 (quoK (σ.S 0) x25)), (3, Pt.gs (quoX x34 (σ.S 0) x25))])] [8]) = Po.ite (quoF (σ.S 0) (σ.I 5)) (Po.leaf (Ex.exit 0) [(0, Pt.p 0 0), (2, Pt.p 4 0)] [] [8]) (Po.leaf Ex.ret [(0, Pt.p 0 0), (2, Pt.p 4 0), (3, Pt.gb (quoO (σ.S 0) (σ.I 5)))] [(0,
    [(0, Pt.gs x9)]), (4, [(0, Pt.gi IntKind.i64 (quoK (σ.S 0) (σ.I 5))), (3, Pt.gs x10)])] [8]) ∧ x19) ∧ (x33 = false → (x36 = true → (x14 ∧ True ∧ x38 ≤ 9223372036854775807 ∧ x38 * 1 ≤ 140737488355328) ∧ true = true ∧ true = true ∧ (True ∧ x38 = x38) ∧ (x26 ∧ x27 ∧ x17 ∧ (↑x38 : Int) ≤ x25) ∧ x28
    ∧ Po.ite x29 (Po.leaf (Ex.exit 0) [(0, Pt.p 0 0), (2, Pt.p 4 0)] [] [8]) (Po.leaf Ex.ret [(0, Pt.p 0 0), (2, Pt.p 4 0), (3, Pt.gb (quoO (σ.S 0) x25))] [(0, [(0, Pt.gs (cutR (σ.S 0) (quoN (σ.S 0) x25)))]), (4, [(0, Pt.gi IntKind.i64 (quoK (σ.S 0) x25)), (3, Pt.gs (quoX x37 (σ.S 0) x25))])] [8]) =
    Po.ite (quoF (σ.S 0) (σ.I 5)) (Po.leaf (Ex.exit 0) [(0, Pt.p 0 0), (2, Pt.p 4 0)] [] [8]) (Po.leaf Ex.ret [(0, Pt.p 0 0), (2, Pt.p 4 0), (3, Pt.gb (quoO (σ.S 0) (σ.I 5)))] [(0, [(0, Pt.gs x9)]), (4, [(0, Pt.gi IntKind.i64 (quoK (σ.S 0) (σ.I 5))), (3, Pt.gs x10)])] [8]) ∧ x19) ∧ (x36 = false →
    (x39 = true → (True ∧ x26) ∧ (True ∧ (0 : Int) ≤ x40 ∧ x40 < (256 : Int)) ∧ (True ∧ (0 : Int) ≤ x41) ∧ (True ∧ (0 : Int) ≤ x42 ∧ x42 < (256 : Int)) ∧ (x43 = true → x12) ∧ (x43 = false → (x14 ∧ True ∧ x45 ≤ 9223372036854775807 ∧ x45 * 1 ≤ 140737488355328) ∧ true = true ∧ true = true ∧ (True ∧ x45
    = x45) ∧ ((0 : Int) ≤ x46 ∧ x46 ≤ (↑(σ.S 0).size : Int) ∧ x17 ∧ (↑x45 : Int) ≤ x46) ∧ ((↑(σ.S 0).size : Int) - x46).toNat < x18 ∧ Po.ite (quoF (σ.S 0) x46) (Po.leaf (Ex.exit 0) [(0, Pt.p 0 0), (2, Pt.p 4 0)] [] [8]) (Po.leaf Ex.ret [(0, Pt.p 0 0), (2, Pt.p 4 0), (3, Pt.gb (quoO (σ.S 0) x46))]
    [(0, [(0, Pt.gs (cutR (σ.S 0) (quoN (σ.S 0) x46)))]), (4, [(0, Pt.gi IntKind.i64 (quoK (σ.S 0) x46)), (3, Pt.gs (quoX x44 (σ.S 0) x46))])] [8]) = Po.ite (quoF (σ.S 0) (σ.I 5)) (Po.leaf (Ex.exit 0) [(0, Pt.p 0 0), (2, Pt.p 4 0)] [] [8]) (Po.leaf Ex.ret [(0, Pt.p 0 0), (2, Pt.p 4 0), (3, Pt.gb
    (quoO (σ.S 0) (σ.I 5)))] [(0, [(0, Pt.gs x9)]), (4, [(0, Pt.gi IntKind.i64 (quoK (σ.S 0) (σ.I 5))), (3, Pt.gs x10)])] [8]) ∧ x19)) ∧ (x39 = false → x12))))))))) ∧ (x1 = false → true = true ∧ (x7 → Ex.exit 0 = Ex.exit 0 ∧ true = true ∧ True ∧ σ.S 0 = σ.S 0) ∧ (x8 → Ex.ret = Ex.exit 0 ∧ true =
    true ∧ False))) := by kernel_rfl

theorem quo_goal (σ : Dt) (α : At') : (cQuo.goal Tryd.prog LquoL.mk' 1000 Tryd.f78 σ α) = (
let x0 := quoX [] (σ.S 0) (1 : Int);
let x1 := cutR (σ.S 0) (quoN (σ.S 0) (1 : Int));
((True ∧ 0 = 0) ∧ (0 : Int) ≤ (1 : Int) ∧ (1 : Int) ≤ (↑(σ.S 0).size : Int) ∧ (σ.S 0).size ≤ 65536 ∧ (0 : Int) ≤ (1 : Int)) ∧ True ∧ Ex.ret = Ex.ret ∧ true = true ∧ ((((True ∧ (bif quoF (σ.S 0) (1 : Int) then (0 : Int) else quoK (σ.S 0) (1 : Int)) = quoK (σ.S 0) (1 : Int)) ∧ (0 : Int) = (0 : Int)) ∧
    (bif quoF (σ.S 0) (1 : Int) then (ByteArray.mk (#[])) else x0) = x0) ∧ (bif quoF (σ.S 0) (1 : Int) then false else quoO (σ.S 0) (1 : Int)) = quoO (σ.S 0) (1 : Int)) ∧ (bif quoF (σ.S 0) (1 : Int) then σ.S 0 else x1) = x1) := by kernel_rfl

end Go.Proofs.YtfjldllegmfooaaDoor.Lx
end

section
/- Quoted texts: shown. No condition. -/
set_option maxRecDepth 100000
namespace Go.Proofs.YtfjldllegmfooaaDoor.Lx
open Go.RowKit Go.IntWalk Go.Proofs.YtfjldllegmfooaaDoor.X

theorem rest_cons {s : ByteArray} {i : Int} (h0 : 0 ≤ i) (h1 : i < s.size) : restB s i = byt s.data.toList i.toNat :: restB s (i + 1) := by
  have hl : i.toNat < s.data.toList.length := by rw [data_len]; omega
  unfold restB
  rw [List.drop_eq_getElem_cons hl, show (i + 1).toNat = i.toNat + 1 by omega]
  congr 1
  unfold byt; rw [List.getD_eq_getElem?_getD, List.getElem?_eq_getElem hl]; rfl
theorem rest_nil {s : ByteArray} {i : Int} (h1 : ¬ i < s.size) : restB s i = [] := by
  unfold restB
  exact List.drop_of_length_le (by rw [data_len]; omega)
def Stp (s : ByteArray) (i i' : Int) (c : UInt8) : Prop :=
  ∃ d : Nat, i' = i + d ∧ quo (restB s i) = (quo (restB s i')).map (fun q => (c :: q.1, q.2 + d)) ∧ quoEnd (restB s i) = quoEnd (restB s i')
def Bad (s : ByteArray) (i : Int) : Prop := quo (restB s i) = none ∧ quoEnd (restB s i) = false
theorem quo_step {s : ByteArray} {i i' : Int} {xs : List (List Value)} {c : UInt8} {v : Int} {Q : Prop} (hs : Stp s i i' c) (hv : v = c.toNat) (h0 : 0 ≤ i) (hlt : i < i') (hi : i' ≤ s.size) (hz : s.size ≤ 65536) (hx : (xs.length : Int) ≤ i) (hq : Q) :
    (xs.length = xs.length ∧ True ∧ (xs ++ [[Value.int IntKind.u8 v]]).length ≤ 9223372036854775807 ∧ (xs ++ [[Value.int IntKind.u8 v]]).length * 1 ≤ 140737488355328) ∧ true = true ∧ true = true ∧ (True ∧ (xs ++ [[Value.int IntKind.u8 v]]).length = (xs ++ [[Value.int IntKind.u8 v]]).length) ∧
      ((0 : Int) ≤ i' ∧ i' ≤ (s.size : Int) ∧ s.size ≤ 65536 ∧ ((xs ++ [[Value.int IntKind.u8 v]]).length : Int) ≤ i') ∧ ((s.size : Int) - i').toNat < ((s.size : Int) - i).toNat ∧
      Po.ite (quoF s i') (Po.leaf (Ex.exit 0) [(0, Pt.p 0 0), (2, Pt.p 4 0)] [] [8]) (Po.leaf Ex.ret [(0, Pt.p 0 0), (2, Pt.p 4 0), (3, Pt.gb (quoO s i'))] [(0, [(0, Pt.gs (cutR s (quoN s i')))]), (4, [(0, Pt.gi IntKind.i64 (quoK s i')), (3, Pt.gs (quoX (xs ++ [[Value.int IntKind.u8 v]]) s i'))])] [8])
        = Po.ite (quoF s i) (Po.leaf (Ex.exit 0) [(0, Pt.p 0 0), (2, Pt.p 4 0)] [] [8]) (Po.leaf Ex.ret [(0, Pt.p 0 0), (2, Pt.p 4 0), (3, Pt.gb (quoO s i))] [(0, [(0, Pt.gs (cutR s (quoN s i)))]), (4, [(0, Pt.gi IntKind.i64 (quoK s i)), (3, Pt.gs (quoX xs s i))])] [8]) ∧ Q := by
  obtain ⟨d, e1, e2, e3⟩ := hs
  have hl : (xs ++ [[Value.int IntKind.u8 v]]).length = xs.length + 1 := by simp
  have f1 : quoF s i' = quoF s i := e3.symm
  have f2 : quoO s i' = quoO s i := by unfold quoO; rw [e2, Option.isSome_map]
  have f3 : quoN s i' = quoN s i := by
    unfold quoN; rw [e2]
    cases quo (restB s i') with
    | none => rfl
    | some q => show i' + (q.2 : Int) = i + ((q.2 + d : Nat) : Int); omega
  have f4 : quoK s i' = quoK s i := by unfold quoK; rw [f2]
  have f5 : quoX (xs ++ [[Value.int IntKind.u8 v]]) s i' = quoX xs s i := by
    unfold quoX; rw [e2]
    cases quo (restB s i') with
    | none => rfl
    | some q => show rowsStr _ = rowsStr _; rw [hv, List.append_assoc]; rfl
  refine ⟨⟨rfl, trivial, by omega, by omega⟩, rfl, rfl, ⟨trivial, rfl⟩, ⟨by omega, hi, hz, by omega⟩, by omega, by rw [f1, f2, f3, f4, f5], hq⟩
theorem quo_bad {s : ByteArray} {i : Int} {xs : List (List Value)} (h : Bad s i) :
    true = true ∧ (quoF s i = true → Ex.exit 0 = Ex.ret ∧ true = true ∧ False) ∧ (quoF s i = false → Ex.ret = Ex.ret ∧ true = true ∧ (((True ∧ false = quoO s i) ∧ s = cutR s (quoN s i)) ∧ (0 : Int) = quoK s i) ∧ (ByteArray.mk (#[])) = quoX xs s i) := by
  obtain ⟨e1, e2⟩ := h
  refine ⟨rfl, fun h => ?_, fun _ => ?_⟩
  · unfold quoF at h; rw [e2] at h; cases h
  · unfold quoK quoO quoN quoX
    rw [e1]
    exact ⟨rfl, rfl, ⟨⟨⟨trivial, rfl⟩, (bs_of s).symm⟩, rfl⟩, rfl⟩
theorem quo_c (c : UInt8) (r : Bs) (h1 : c ≠ 34) (h2 : ¬ (c.toNat < 32 ∨ c.toNat > 126)) (h3 : c ≠ 92) : quo (c :: r) = (quo r).map (fun q => (c :: q.1, q.2 + 1)) ∧ quoEnd (c :: r) = quoEnd r := by
  constructor
  · rw [quo.eq_def]; dsimp only; rw [if_neg h1, if_neg h2, if_pos h3]
  · rw [quoEnd.eq_def]; dsimp only; rw [if_neg h1, if_neg h2, if_pos h3]
theorem quo_no (c : UInt8) (r : Bs) (h1 : c ≠ 34) (h2 : c.toNat < 32 ∨ c.toNat > 126) : quo (c :: r) = none ∧ quoEnd (c :: r) = false := by
  constructor
  · rw [quo.eq_def]; dsimp only; rw [if_neg h1, if_pos h2]
  · rw [quoEnd.eq_def]; dsimp only; rw [if_neg h1, if_pos h2]
theorem quo_92 (e : UInt8) (r : Bs) : quo (92 :: e :: r) = (if e = 92 ∨ e = 34 then (quo r).map fun q => (e :: q.1, q.2 + 2)
        else if e = 110 then (quo r).map fun q => (10 :: q.1, q.2 + 2)
        else if e = 116 then (quo r).map fun q => (9 :: q.1, q.2 + 2)
        else if e = 48 then (quo r).map fun q => (0 :: q.1, q.2 + 2)
        else if e = 120 then match r with
          | h :: l :: r => match hexV h, hexV l with
            | some a, some b => (quo r).map fun q => (UInt8.ofNat (16 * a + b) :: q.1, q.2 + 4)
            | _, _ => none
          | _ => none
        else none) := by
  rw [quo.eq_def]; dsimp only; rw [if_neg (by decide), if_neg (by decide), if_neg (by decide)]
  rcases r with _ | ⟨h, _ | ⟨l, r⟩⟩ <;> rfl
theorem end_92 (e : UInt8) (r : Bs) : quoEnd (92 :: e :: r) = (if e = 92 ∨ e = 34 ∨ e = 110 ∨ e = 116 ∨ e = 48 then quoEnd r
        else if e = 120 then match r with
          | h :: l :: r => if (hexV h).isSome = true ∧ (hexV l).isSome = true then quoEnd r else false
          | _ => false
        else false) := by
  rw [quoEnd.eq_def]; dsimp only; rw [if_neg (by decide), if_neg (by decide), if_neg (by decide)]
  rcases r with _ | ⟨h, _ | ⟨l, r⟩⟩ <;> rfl
theorem hex_mk : ∀ a b : Fin 16, IntKind.u8.wrap (IntKind.i64.wrap (IntKind.i64.wrap ((16 : Int) * (a.val : Int)) + (b.val : Int))) = ((UInt8.ofNat (16 * a.val + b.val)).toNat : Int) := by decide +kernel
theorem hexI_byt (s : ByteArray) (i : Int) {a : Nat} (h : hexV (byt s.data.toList i.toNat) = some a) : hexI (bytI s i) = a := by
  unfold hexI bytI
  rw [Int.toNat_natCast, UInt8.ofNat_toNat, h]; rfl
theorem hex_not0 {s : ByteArray} {i : Int} {a : Nat} (h : hexV (byt s.data.toList i.toNat) = some a) : i < s.size := by
  refine Decidable.by_contra fun hn => ?_
  rw [byt_past hn, show hexV 0 = none by decide] at h
  cases h
theorem good_quoL : Lib.Good Tryd.prog LquoL := lib_loop good_num 3 "lexer.go:131" (by kernel_rfl) lQuoL 1000 fun σ α rest hp => by
  obtain ⟨h0, h1, h2, h3⟩ := (show 0 ≤ σ.I 5 ∧ σ.I 5 ≤ (σ.S 0).size ∧ (σ.S 0).size ≤ 65536 ∧ ((σ.R 8).length : Int) ≤ σ.I 5 from hp)
  refine (quol_round σ α rest).mpr ?_
  intro x0 x1 x2 x3 x4 x5 x6 x7 x8 x9 x10 x11 x12 x13 x14 x15 x16 x17 x18 x19 x20 x21 x22 x23 x24 x25 x26 x27 x28 x29 x30 x31 x32 x33 x34 x35 x36 x37 x38 x39 x40 x41 x42 x43 x44 x45 x46
  have e4 : x4 = σ.I 5 + 1 := i64_in _ (by omega)
  have e25 : x25 = σ.I 5 + 2 := by show IntKind.i64.wrap (x4 + 1) = _; rw [e4]; exact (i64_in _ (by omega)).trans (by omega)
  have e41 : x41 = σ.I 5 + 3 := by show IntKind.i64.wrap (x4 + 2) = _; rw [e4]; exact (i64_in _ (by omega)).trans (by omega)
  have e46 : x46 = σ.I 5 + 4 := by show IntKind.i64.wrap (x41 + 1) = _; rw [e41]; exact (i64_in _ (by omega)).trans (by omega)
  have e2 : x2 = bytI (σ.S 0) (σ.I 5) := by show (((_ : UInt8).toNat : Nat) : Int) = _; rw [getD_byt]; rfl
  have hx19 : x19 := rfl
  have bad : Bad (σ.S 0) (σ.I 5) → x12 := quo_bad
  refine ⟨rfl, fun hx1 => ?_, fun hx1 => ?_⟩
  rotate_left
  · have hr := rest_nil (of_decide_eq_false hx1)
    have hf : quoF (σ.S 0) (σ.I 5) = true := by unfold quoF; rw [hr]; rw [quoEnd.eq_def]
    refine ⟨rfl, fun _ => ⟨rfl, rfl, trivial, rfl⟩, fun h => ?_⟩
    have h : quoF (σ.S 0) (σ.I 5) = false := h
    rw [hf] at h; cases h
  have hlt : x0 := of_decide_eq_true hx1
  have hr := rest_cons h0 hlt
  have hc := bytI_eq (σ.S 0) (σ.I 5)
  generalize hC : byt (σ.S 0).data.toList (σ.I 5).toNat = c at hr hc
  have hcv : x2 = (c.toNat : Int) := by rw [e2, ← hC]; rfl
  have e3 : x3 = decide (c = 34) := by show (x2 == 34) = _; rw [e2]; exact hc 34 (by decide)
  have e13 : x13 = !decide (c = 92) := by show (!(x2 == 92)) = _; rw [e2]; exact congrArg _ (hc 92 (by decide))
  have e11 : x11 = decide (c.toNat < 32 ∨ c.toNat > 126) := by
    show (bif decide (x2 < 32) then true else decide (x2 > 126)) = _
    rw [hcv, Bool.eq_iff_iff, decide_eq_true_iff]
    cases hb : decide ((c.toNat : Int) < 32) with
    | true => have := of_decide_eq_true hb; exact ⟨fun _ => .inl (by omega), fun _ => rfl⟩
    | false => have := of_decide_eq_false hb; show decide _ = true ↔ _; rw [decide_eq_true_iff]; omega
  refine ⟨⟨h0, hlt⟩, fun h => ?_, fun h => ⟨fun k => ?_, fun k => ⟨fun m => ?_, fun m => ?_⟩⟩⟩
  · rw [e3] at h
    have hq : quo (restB (σ.S 0) (σ.I 5)) = some ([], 1) := by rw [hr, of_decide_eq_true h, quo_end]
    have hf : quoF (σ.S 0) (σ.I 5) = false := by unfold quoF; rw [hr, of_decide_eq_true h, quoEnd.eq_def]; rfl
    refine ⟨⟨trivial, by show 0 ≤ x4; omega, by show x4 ≤ _; have : σ.I 5 < ((σ.S 0).size : Int) := hlt; omega⟩, Nat.le_refl _, rfl, fun c => ?_, fun _ => ⟨rfl, rfl, ⟨⟨⟨trivial, ?_⟩, ?_⟩, ?_⟩, ?_⟩⟩
    · have c : quoF (σ.S 0) (σ.I 5) = true := c
      rw [hf] at c; cases c
    · unfold quoO; rw [hq]; rfl
    · show cutR _ x4 = cutR _ (quoN _ _)
      unfold quoN; rw [hq, e4]; rfl
    · unfold quoK quoO; rw [hq]; rfl
    · show _ = quoX _ _ _
      unfold quoX; rw [hq, List.take_length]
      show _ = rowsStr (σ.R 8 ++ [])
      rw [List.append_nil]; rfl
  · rw [e3] at h; rw [e11] at k
    exact bad (by unfold Bad; rw [hr]; exact quo_no _ _ (of_decide_eq_false h) (of_decide_eq_true k))
  · rw [e3] at h; rw [e11] at k; rw [e13] at m
    have hl : σ.I 5 < ((σ.S 0).size : Int) := hlt
    have q := quo_c c (restB (σ.S 0) (σ.I 5 + 1)) (of_decide_eq_false h) (of_decide_eq_false k) (by simpa using m)
    exact quo_step ⟨1, by rw [e4]; rfl, by rw [hr, e4]; exact q.1, by rw [hr, e4]; exact q.2⟩ hcv h0 (by omega) (by omega) h2 h3 hx19
  · rw [e13] at m
    have hc92 : c = 92 := by simpa using m
    subst hc92
    have hl : σ.I 5 < ((σ.S 0).size : Int) := hlt
    refine ⟨⟨trivial, by show 0 ≤ x4; omega⟩, ?_⟩
    have he := bytI_eq (σ.S 0) x4
    by_cases hl1 : σ.I 5 + 1 < ((σ.S 0).size : Int)
    · have hr1 := rest_cons (by omega) hl1
      rw [← e4] at hr1
      have e20 : x20 = ((byt (σ.S 0).data.toList x4.toNat).toNat : Int) := rfl
      generalize byt (σ.S 0).data.toList x4.toNat = e at hr1 he e20
      have hr2 : restB (σ.S 0) (σ.I 5) = 92 :: e :: restB (σ.S 0) x25 := by rw [hr, ← e4, hr1, e4, e25, show σ.I 5 + 1 + 1 = σ.I 5 + 2 by omega]
      have e21 : x21 = decide (e = 92) := he 92 (by decide)
      have e22 : x22 = decide (e = 92 ∨ e = 34) := by
        show (bif x21 then x21 else (x20 == 34)) = _
        rw [show (x20 == 34) = decide (e = 34) from he 34 (by decide), e21, Bool.eq_iff_iff, decide_eq_true_iff]
        by_cases q : e = 92 <;> simp [q]
      have e30 : x30 = decide (e = 110) := he 110 (by decide)
      have e33 : x33 = decide (e = 116) := he 116 (by decide)
      have e36 : x36 = decide (e = 48) := he 48 (by decide)
      have e39 : x39 = decide (e = 120) := he 120 (by decide)
      have q1 := quo_92 e (restB (σ.S 0) x25)
      have q2 := end_92 e (restB (σ.S 0) x25)
      rw [← hr2] at q1 q2
      rw [e22, e30, e33, e36, e39]
      have stp : ∀ {d : UInt8} {v : Int}, v = (d.toNat : Int) → quo (restB (σ.S 0) (σ.I 5)) = (quo (restB (σ.S 0) x25)).map (fun q => (d :: q.1, q.2 + 2)) → quoEnd (restB (σ.S 0) (σ.I 5)) = quoEnd (restB (σ.S 0) x25) → _ :=
        fun {d v} hv p1 p2 => quo_step (xs := σ.R 8) ⟨2, by rw [e25]; rfl, p1, p2⟩ hv h0 (by omega) (by omega) h2 h3 hx19
      refine ⟨fun a => ?_, fun a => ⟨fun b => ?_, fun b => ⟨fun c => ?_, fun c => ⟨fun d => ?_, fun d => ⟨fun f => ?_, fun f => ?_⟩⟩⟩⟩⟩
      · have a := of_decide_eq_true a
        rw [if_pos a] at q1
        rw [if_pos (by rcases a with a | a <;> simp [a])] at q2
        exact stp e20 q1 q2
      · have a := of_decide_eq_false a
        have b := of_decide_eq_true b
        rw [if_neg a, if_pos b] at q1
        rw [if_pos (by simp [b])] at q2
        exact stp rfl q1 q2
      · have a := of_decide_eq_false a
        have b := of_decide_eq_false b
        have c := of_decide_eq_true c
        rw [if_neg a, if_neg b, if_pos c] at q1
        rw [if_pos (by simp [c])] at q2
        exact stp rfl q1 q2
      · have a := of_decide_eq_false a
        have b := of_decide_eq_false b
        have c := of_decide_eq_false c
        have d := of_decide_eq_true d
        rw [if_neg a, if_neg b, if_neg c, if_pos d] at q1
        rw [if_pos (by simp [d])] at q2
        exact stp rfl q1 q2
      · have a := of_decide_eq_false a
        have b := of_decide_eq_false b
        have c := of_decide_eq_false c
        have d := of_decide_eq_false d
        have f := of_decide_eq_true f
        have hn : ¬ (e = 92 ∨ e = 34 ∨ e = 110 ∨ e = 116 ∨ e = 48) := by
          rintro (z | z | z | z | z)
          · exact a (.inl z)
          · exact a (.inr z)
          · exact b z
          · exact c z
          · exact d z
        rw [if_neg a, if_neg b, if_neg c, if_neg d, if_pos f] at q1
        rw [if_neg hn, if_pos f] at q2
        refine ⟨⟨trivial, by show 0 ≤ x25; omega⟩, ⟨trivial, bytI_in _ _⟩, ⟨trivial, by show 0 ≤ x41; omega⟩, ⟨trivial, bytI_in _ _⟩, fun g => bad ?_, fun g => ?_⟩
        · unfold Bad
          rw [q1, q2]
          have g : (bif !hexO (bytI (σ.S 0) x25) then true else !hexO (bytI (σ.S 0) x41)) = true := g
          rw [hexO_byt, hexO_byt] at g
          by_cases hl2 : x25 < ((σ.S 0).size : Int)
          · have t2 := rest_cons (by omega) hl2
            by_cases hl3 : x25 + 1 < ((σ.S 0).size : Int)
            · have t3 := rest_cons (by omega) hl3
              rw [t2, t3]
              dsimp only
              rw [show x41 = x25 + 1 by omega] at g
              unfold isHex at g
              generalize hexV (byt (σ.S 0).data.toList x25.toNat) = u at g ⊢
              generalize hexV (byt (σ.S 0).data.toList (x25 + 1).toNat) = u' at g ⊢
              cases u <;> cases u' <;> first | exact ⟨rfl, if_neg (by simp)⟩ | cases g
            · rw [t2, rest_nil hl3]; exact ⟨rfl, rfl⟩
          · rw [rest_nil hl2]; exact ⟨rfl, rfl⟩
        · have g : (bif !hexO (bytI (σ.S 0) x25) then true else !hexO (bytI (σ.S 0) x41)) = false := g
          rw [hexO_byt, hexO_byt] at g
          obtain ⟨u, hu⟩ : ∃ u, hexV (byt (σ.S 0).data.toList x25.toNat) = some u := by
            unfold isHex at g
            cases hq : hexV (byt (σ.S 0).data.toList x25.toNat) with
            | none => rw [hq] at g; cases g
            | some u => exact ⟨u, rfl⟩
          obtain ⟨u', hu'⟩ : ∃ u', hexV (byt (σ.S 0).data.toList x41.toNat) = some u' := by
            unfold isHex at g
            rw [hu] at g
            cases hq : hexV (byt (σ.S 0).data.toList x41.toNat) with
            | none => rw [hq] at g; cases g
            | some u => exact ⟨u, rfl⟩
          have hl2 := hex_not0 hu
          have hl3 := hex_not0 hu'
          have t2 := rest_cons (by omega) hl2
          have t3 := rest_cons (by omega) hl3
          rw [show x25 + 1 = x41 by omega] at t2
          rw [show x41 + 1 = x46 by omega] at t3
          rw [t2, t3] at q1 q2
          simp only [hu, hu', Option.isSome_some, and_self, if_true] at q1 q2
          have w := hex_mk ⟨u, hexV_lt hu⟩ ⟨u', hexV_lt hu'⟩
          have hv : IntKind.u8.wrap (IntKind.i64.wrap (IntKind.i64.wrap ((16 : Int) * hexI x40) + hexI x42)) = ((UInt8.ofNat (16 * u + u')).toNat : Int) := by
            show IntKind.u8.wrap (IntKind.i64.wrap (IntKind.i64.wrap ((16 : Int) * hexI (bytI (σ.S 0) x25)) + hexI (bytI (σ.S 0) x41))) = _
            rw [hexI_byt _ _ hu, hexI_byt _ _ hu']; exact w
          exact quo_step (xs := σ.R 8) ⟨4, by rw [e46]; rfl, q1, q2⟩ hv h0 (by omega) (by omega) h2 h3 hx19
      · have a := of_decide_eq_false a
        have b := of_decide_eq_false b
        have c := of_decide_eq_false c
        have d := of_decide_eq_false d
        have f := of_decide_eq_false f
        have hn : ¬ (e = 92 ∨ e = 34 ∨ e = 110 ∨ e = 116 ∨ e = 48) := by
          rintro (z | z | z | z | z)
          · exact a (.inl z)
          · exact a (.inr z)
          · exact b z
          · exact c z
          · exact d z
        rw [if_neg a, if_neg b, if_neg c, if_neg d, if_neg f] at q1
        rw [if_neg hn, if_neg f] at q2
        exact bad ⟨q1, q2⟩
    · have hr1 : restB (σ.S 0) (σ.I 5 + 1) = [] := rest_nil hl1
      have e20 : x20 = 0 := by show bytI (σ.S 0) x4 = 0; unfold bytI; rw [byt_past (by rw [e4]; exact hl1)]; rfl
      have hb : x12 := bad (by unfold Bad; rw [hr, hr1, quo.eq_def, quoEnd.eq_def]; exact And.intro rfl rfl)
      have e22 : x22 = false := by show (bif x20 == 92 then x20 == 92 else x20 == 34) = false; rw [e20]; rfl
      have e30 : x30 = false := by show (x20 == 110) = false; rw [e20]; rfl
      have e33 : x33 = false := by show (x20 == 116) = false; rw [e20]; rfl
      have e36 : x36 = false := by show (x20 == 48) = false; rw [e20]; rfl
      have e39 : x39 = false := by show (x20 == 120) = false; rw [e20]; rfl
      rw [e22, e30, e33, e36, e39]
      exact ⟨(fun h => nomatch h), fun _ => ⟨(fun h => nomatch h), fun _ => ⟨(fun h => nomatch h), fun _ => ⟨(fun h => nomatch h), fun _ => ⟨(fun h => nomatch h), fun _ => hb⟩⟩⟩⟩⟩
end Go.Proofs.YtfjldllegmfooaaDoor.Lx
end

section
/- Quoted texts: the function. No condition. -/
set_option maxRecDepth 100000
namespace Go.Proofs.YtfjldllegmfooaaDoor.Lx
open Go.RowKit Go.IntWalk Go.Proofs.YtfjldllegmfooaaDoor.X

theorem end_none : ∀ (n : Nat) (l : Bs), l.length ≤ n → quoEnd l = true → quo l = none
  | _, [], _, _ => by rw [quo.eq_def]
  | 0, _ :: _, h, _ => by simp at h
  | n + 1, c :: r, hn, h => by
    have hn : r.length ≤ n := by simpa using hn
    by_cases h1 : c = 34
    · rw [quoEnd.eq_def] at h; dsimp only at h; rw [if_pos h1] at h; cases h
    · by_cases h2 : c.toNat < 32 ∨ c.toNat > 126
      · exact (quo_no c r h1 h2).1
      · by_cases h3 : c ≠ 92
        · have q := quo_c c r h1 h2 h3
          rw [q.1, end_none n r hn (by rw [← q.2]; exact h)]; rfl
        · have h3 : c = 92 := Decidable.not_not.1 h3
          subst h3
          cases r with
          | nil => rw [quo.eq_def]; rfl
          | cons e r =>
            have hn : r.length + 1 ≤ n := by simpa using hn
            rw [end_92] at h
            rw [quo_92]
            by_cases k : e = 92 ∨ e = 34 ∨ e = 110 ∨ e = 116 ∨ e = 48
            · rw [if_pos k] at h
              rw [end_none n r (by omega) h]
              rcases k with k | k | k | k | k <;> subst k <;> rfl
            · rw [if_neg k] at h
              by_cases k2 : e = 120
              · rw [if_pos k2] at h
                subst k2
                rcases r with _ | ⟨a, _ | ⟨b, r⟩⟩
                · rfl
                · rfl
                · dsimp only at h
                  by_cases k3 : (hexV a).isSome = true ∧ (hexV b).isSome = true
                  · rw [if_pos k3] at h
                    have e1 := end_none n r (by simp only [List.length_cons] at hn; omega) h
                    rw [← quo_92, quo_x, e1]
                    cases hexV a <;> cases hexV b <;> rfl
                  · rw [if_neg k3] at h; cases h
              · rw [if_neg k2] at h; cases h
theorem good_quo : Lib.Good Tryd.prog Lquo := lib_con good_quoL Tryd.func78 cQuo 1000 fun σ α hp => by
  rw [quo_goal]
  obtain ⟨h0, h1⟩ := (show 1 ≤ (σ.S 0).size ∧ (σ.S 0).size ≤ 65536 from hp)
  intro x0 x1
  have key : quoF (σ.S 0) 1 = true → quo (restB (σ.S 0) 1) = none := fun h => end_none _ _ (Nat.le_refl _) h
  refine ⟨⟨⟨trivial, rfl⟩, by decide, by omega, h1, by decide⟩, trivial, rfl, rfl, ?_⟩
  cases hf : quoF (σ.S 0) 1 with
  | false => exact ⟨⟨⟨⟨⟨trivial, rfl⟩, rfl⟩, rfl⟩, rfl⟩, rfl⟩
  | true =>
    have hq := key hf
    refine ⟨⟨⟨⟨⟨trivial, ?_⟩, rfl⟩, ?_⟩, ?_⟩, ?_⟩
    · show (0 : Int) = quoK _ _
      unfold quoK quoO; rw [hq]; rfl
    · show _ = quoX _ _ _
      unfold quoX; rw [hq]; rfl
    · show false = quoO _ _
      unfold quoO; rw [hq]; rfl
    · show σ.S 0 = cutR _ (quoN _ _)
      unfold quoN; rw [hq]; exact (bs_of _).symm
end Go.Proofs.YtfjldllegmfooaaDoor.Lx
end

section
/- A token: contract. No condition. -/
namespace Go.Proofs.YtfjldllegmfooaaDoor.Lx
open Go.RowKit Go.IntWalk Go.Proofs.YtfjldllegmfooaaDoor.X

/-- What next hands back: kind, number, text, how many bytes, is it one. (A name that is too long is told, and cut off.) -/
def nx (l : Bs) : Int × Int × Bs × Nat × Bool :=
  if isFst (byt l 0) = true then (1, 0, l.take (l.takeWhile isIns).length, (l.takeWhile isIns).length, decide ((l.takeWhile isIns).length ≤ 255))
  else match nextT l with
    | some (t, n) => (t.kind, t.n, t.text, n, true)
    | none => (0, 0, [], 0, false)
def nxK (s : ByteArray) : Int := (nx s.data.toList).1
def nxN (s : ByteArray) : Int := (nx s.data.toList).2.1
def nxX (s : ByteArray) : ByteArray := bs (nx s.data.toList).2.2.1
def nxL (s : ByteArray) : Int := ((nx s.data.toList).2.2.2.1 : Nat)
def nxO (s : ByteArray) : Bool := (nx s.data.toList).2.2.2.2
def cNext : Con where
  ps := [.p 0 0]
  bl := scanB 0
  top := 4
  pre := fun σ => 1 ≤ (σ.S 0).size ∧ (σ.S 0).size ≤ 65536
  post := fun σ => .leaf .ret [(0, .t [tokP (nxK (σ.S 0)) (nxN (σ.S 0)) (nxX (σ.S 0)), .gb (nxO (σ.S 0))])] [(0, [(0, .gs (cutR (σ.S 0) (nxL (σ.S 0))))])] []
noncomputable def Lnext : Lib := { Lquo with cs := (54, cNext) :: Lquo.cs }
end Go.Proofs.YtfjldllegmfooaaDoor.Lx
end

section
/- Written by vc.py: what is to be shown, read out. No condition. -/
set_option maxRecDepth 1000000
set_option maxHeartbeats 0
namespace Go.Proofs.YtfjldllegmfooaaDoor.Lx
open Go.RowKit Go.Proofs.YtfjldllegmfooaaDoor.X
theorem next_goal (σ : Dt) (α : At') : (cNext.goal Tryd.prog Lquo.mk' 1000 Tryd.f54 σ α) = (
let x0 := (0 : Int) ≤ bytI (σ.S 0) (0 : Int) ∧ bytI (σ.S 0) (0 : Int) < (256 : Int);
let x1 := (bytI (σ.S 0) (0 : Int)).toNat < 256;
let x2 := kTab;
let x3 := BitVec.ofInt 64 (x2.getD (bytI (σ.S 0) (0 : Int)).toNat (0 : Int));
let x4 := IntKind.i64.wrap (↑(x3 &&& BitVec.ofInt 64 (1 : Int)).toNat : Int) != (0 : Int);
let x5 := (σ.S 0).size ≤ 9223372036854775807;
let x6 := twI (hasB (2 : Int)) (σ.S 0) (0 : Int);
let x7 := cutR (σ.S 0) (nxL (σ.S 0));
let x8 := IntKind.i64.wrap (↑(x3 &&& BitVec.ofInt 64 (8 : Int)).toNat : Int) != (0 : Int);
let x9 := (σ.S 0).size ≤ 65536;
let x10 := bytI (σ.S 0) (0 : Int) == (37 : Int);
let x11 := IntKind.i64.wrap (↑(BitVec.ofInt 64 (x2.getD (bytI (σ.S 0) (1 : Int)).toNat (0 : Int)) &&& BitVec.ofInt 64 (4 : Int)).toNat : Int) == (0 : Int);
let x12 := (((True ∧ (0 : Int) = nxK (σ.S 0)) ∧ (0 : Int) = nxN (σ.S 0)) ∧ (ByteArray.mk (#[])) = nxX (σ.S 0)) ∧ false = nxO (σ.S 0);
let x13 := True ∧ Ex.ret = Ex.ret ∧ true = true ∧ x12 ∧ σ.S 0 = x7;
let x14 := (1 : Int) ≤ (↑(σ.S 0).size : Int);
let x15 := twI (hasB (12 : Int)) (σ.S 0) (1 : Int);
let x16 := cutL (σ.S 0) x15;
let x17 := x16.size;
let x18 := bytI (σ.S 0) (0 : Int) == (39 : Int);
let x19 := decide (bytI (σ.S 0) (1 : Int) < (33 : Int));
let x20 := decide (bytI (σ.S 0) (1 : Int) > (126 : Int));
let x21 := bytI (σ.S 0) (2 : Int) != (39 : Int);
let x22 := bif x19 then true else bif x20 then true else bif x21 then true else IntKind.i64.wrap (↑(BitVec.ofInt 64 (x2.getD (bytI (σ.S 0) (3 : Int)).toNat (0 : Int)) &&& BitVec.ofInt 64 (2 : Int)).toNat : Int) != (0 : Int);
let x23 := bif x19 then σ.S 0 else bif x20 then σ.S 0 else bif x21 then σ.S 0 else σ.S 0;
let x24 := bytI (σ.S 0) (0 : Int) == (34 : Int);
let x25 := bytI (σ.S 0) (0 : Int) == (59 : Int);
let x26 := True ∧ (0 : Int) ≤ (1 : Int) ∧ x14;
let x27 := cutR (σ.S 0) (1 : Int) = x7;
let x28 := bytI (σ.S 0) (0 : Int) == (60 : Int);
let x29 := bytI (σ.S 0) (1 : Int) == bytI (σ.S 0) (0 : Int);
let x30 := (True ∧ (4 : Int) = nxK (σ.S 0)) ∧ (0 : Int) = nxN (σ.S 0);
let x31 := Lib.indexByte [(44 : UInt8), (40 : UInt8), (41 : UInt8), (58 : UInt8), (36 : UInt8), (43 : UInt8), (45 : UInt8), (42 : UInt8), (47 : UInt8), (38 : UInt8), (126 : UInt8), (64 : UInt8), (61 : UInt8), (124 : UInt8), (94 : UInt8)] (bytI (σ.S 0) (0 : Int)).toNat.toUInt8;
let x32 := bif bytI (σ.S 0) (0 : Int) != (0 : Int) then decide (x31 ≥ (0 : Int)) else false;
let x33 := (x32 = true → x26 ∧ True ∧ Ex.ret = Ex.ret ∧ true = true ∧ ((x30 ∧ cutL (σ.S 0) (1 : Int) = nxX (σ.S 0)) ∧ true = nxO (σ.S 0)) ∧ x27) ∧ (x32 = false → x13);
let x34 := (True ∧ (0 : Int) ≤ (1 : Int)) ∧ (x29 = true → (True ∧ (0 : Int) ≤ (2 : Int) ∧ (2 : Int) ≤ (↑(σ.S 0).size : Int)) ∧ True ∧ Ex.ret = Ex.ret ∧ true = true ∧ ((x30 ∧ cutL (σ.S 0) (2 : Int) = nxX (σ.S 0)) ∧ true = nxO (σ.S 0)) ∧ cutR (σ.S 0) (2 : Int) = x7) ∧ (x29 = false → x33);
let x35 := bytI (σ.S 0) (0 : Int) == (62 : Int);
(True ∧ (0 : Int) ≤ (0 : Int)) ∧ x0 ∧ x1 ∧ (x4 = true → (True ∧ (0 : Int) ≤ (0 : Int) ∧ (0 : Int) ≤ (↑(σ.S 0).size : Int) ∧ x5) ∧ (True ∧ (0 : Int) ≤ x6 ∧ x6 ≤ (↑(σ.S 0).size : Int)) ∧ True ∧ Ex.ret = Ex.ret ∧ true = true ∧ ((((True ∧ (1 : Int) = nxK (σ.S 0)) ∧ (0 : Int) = nxN (σ.S 0)) ∧ cutL (σ.S
    0) x6 = nxX (σ.S 0)) ∧ decide (x6 ≤ (255 : Int)) = nxO (σ.S 0)) ∧ cutR (σ.S 0) x6 = x7) ∧ (x4 = false → x0 ∧ x1 ∧ (x8 = true → (True ∧ isDig (byt (σ.S 0).data.toList 0) = true ∧ x9) ∧ True ∧ Ex.ret = Ex.ret ∧ true = true ∧ ((((True ∧ numK (σ.S 0) = nxK (σ.S 0)) ∧ numN (σ.S 0) = nxN (σ.S 0)) ∧
    ByteArray.empty = nxX (σ.S 0)) ∧ numO (σ.S 0) = nxO (σ.S 0)) ∧ cutR (σ.S 0) (numL (σ.S 0)) = x7) ∧ (x8 = false → (x10 = true → (True ∧ (0 : Int) ≤ (1 : Int)) ∧ ((0 : Int) ≤ bytI (σ.S 0) (1 : Int) ∧ bytI (σ.S 0) (1 : Int) < (256 : Int)) ∧ (bytI (σ.S 0) (1 : Int)).toNat < 256 ∧ (x11 = true → x13)
    ∧ (x11 = false → (True ∧ (0 : Int) ≤ (1 : Int) ∧ x14 ∧ x5) ∧ (True ∧ (0 : Int) ≤ x15 ∧ x15 ≤ (↑(σ.S 0).size : Int)) ∧ ((0 : Int) ≤ (1 : Int) ∧ (1 : Int) ≤ (↑x17 : Int)) ∧ True ∧ Ex.ret = Ex.ret ∧ true = true ∧ ((((True ∧ (5 : Int) = nxK (σ.S 0)) ∧ (0 : Int) = nxN (σ.S 0)) ∧ x16.extract 1 x17 =
    nxX (σ.S 0)) ∧ true = nxO (σ.S 0)) ∧ cutR (σ.S 0) x15 = x7)) ∧ (x10 = false → (x18 = true → (True ∧ (0 : Int) ≤ (1 : Int)) ∧ (x19 = false → x20 = false → (True ∧ (0 : Int) ≤ (2 : Int)) ∧ (x21 = false → (True ∧ (0 : Int) ≤ (3 : Int)) ∧ ((0 : Int) ≤ bytI (σ.S 0) (3 : Int) ∧ bytI (σ.S 0) (3 : Int)
    < (256 : Int)) ∧ (bytI (σ.S 0) (3 : Int)).toNat < 256)) ∧ (x22 = true → True ∧ Ex.ret = Ex.ret ∧ true = true ∧ x12 ∧ x23 = x7) ∧ (x22 = false → (True ∧ (0 : Int) ≤ (3 : Int) ∧ (3 : Int) ≤ (↑x23.size : Int)) ∧ True ∧ Ex.ret = Ex.ret ∧ true = true ∧ ((((True ∧ (2 : Int) = nxK (σ.S 0)) ∧
    IntKind.i64.wrap (bytI (σ.S 0) (1 : Int)) = nxN (σ.S 0)) ∧ (ByteArray.mk (#[])) = nxX (σ.S 0)) ∧ true = nxO (σ.S 0)) ∧ cutR x23 (3 : Int) = x7)) ∧ (x18 = false → (x24 = true → (True ∧ 1 ≤ (σ.S 0).size ∧ x9) ∧ True ∧ Ex.ret = Ex.ret ∧ true = true ∧ ((((True ∧ quoK (σ.S 0) (1 : Int) = nxK
    (σ.S 0)) ∧ (0 : Int) = nxN (σ.S 0)) ∧ quoX [] (σ.S 0) (1 : Int) = nxX (σ.S 0)) ∧ quoO (σ.S 0) (1 : Int) = nxO (σ.S 0)) ∧ cutR (σ.S 0) (quoN (σ.S 0) (1 : Int)) = x7) ∧ (x24 = false → (x25 = true → x26 ∧ True ∧ Ex.ret = Ex.ret ∧ true = true ∧ ((((True ∧ (6 : Int) = nxK (σ.S 0)) ∧ (0 : Int) = nxN
    (σ.S 0)) ∧ (ByteArray.mk (#[])) = nxX (σ.S 0)) ∧ true = nxO (σ.S 0)) ∧ x27) ∧ (x25 = false → (x28 = true → x34) ∧ (x28 = false → (x35 = true → x34) ∧ (x35 = false → x33))))))))) := by kernel_rfl

end Go.Proofs.YtfjldllegmfooaaDoor.Lx
end

section
/- A token: lemmas. No condition. -/
set_option maxRecDepth 100000
namespace Go.Proofs.YtfjldllegmfooaaDoor.Lx
open Go.RowKit Go.IntWalk Go.Proofs.YtfjldllegmfooaaDoor.X

theorem nx_no {s : ByteArray} (hf : isFst (byt s.data.toList 0) = false) (h : nextT s.data.toList = none) :
    ((((True ∧ (0 : Int) = nxK s) ∧ (0 : Int) = nxN s) ∧ (ByteArray.mk (#[])) = nxX s) ∧ false = nxO s) ∧ s = cutR s (nxL s) := by
  have e : nx s.data.toList = (0, 0, [], 0, false) := by unfold nx; rw [if_neg (by rw [hf]; simp), h]
  unfold nxK nxN nxX nxO nxL
  rw [e]
  exact ⟨⟨⟨⟨⟨trivial, rfl⟩, rfl⟩, rfl⟩, rfl⟩, (bs_of s).symm⟩
theorem nx_yes {s : ByteArray} (hf : isFst (byt s.data.toList 0) = false) {t : Tok} {n : Nat} (h : nextT s.data.toList = some (t, n)) :
    nxK s = t.kind ∧ nxN s = t.n ∧ nxX s = bs t.text ∧ nxO s = true ∧ nxL s = (n : Int) := by
  have e : nx s.data.toList = (t.kind, t.n, t.text, n, true) := by unfold nx; rw [if_neg (by rw [hf]; simp), h]
  unfold nxK nxN nxX nxO nxL
  rw [e]
  exact ⟨rfl, rfl, rfl, rfl, rfl⟩
theorem nx_name {s : ByteArray} (hf : isFst (byt s.data.toList 0) = true) :
    nxK s = 1 ∧ nxN s = 0 ∧ nxX s = bs (s.data.toList.take (s.data.toList.takeWhile isIns).length) ∧ nxO s = decide ((s.data.toList.takeWhile isIns).length ≤ 255) ∧ nxL s = ((s.data.toList.takeWhile isIns).length : Int) := by
  unfold nxK nxN nxX nxO nxL nx
  rw [if_pos hf]
  exact ⟨rfl, rfl, rfl, rfl, rfl⟩
theorem twI_1 (p : UInt8 → Bool) (s : ByteArray) : twI p s 1 = ((1 + ((s.data.toList.drop 1).takeWhile p).length : Nat) : Int) := by
  unfold twI
  rw [show (1 : Int).toNat = 1 from rfl]; omega
theorem rows_bs (l : Bs) : rowsStr (l.map fun c => [Value.int .u8 (c.toNat : Int)]) = bs l := by
  unfold rowsStr bs
  rw [List.map_map]
  congr 2
  refine (List.map_congr_left fun c _ => ?_).trans (List.map_id l)
  show UInt8.ofNat ((c.toNat : Int)).toNat = c
  rw [Int.toNat_natCast, UInt8.ofNat_toNat]
theorem sign_all : ∀ c : Fin 256, (bif (c.val : Int) != (0 : Int) then decide (Lib.indexByte [(44 : UInt8), (40 : UInt8), (41 : UInt8), (58 : UInt8), (36 : UInt8), (43 : UInt8), (45 : UInt8), (42 : UInt8), (47 : UInt8), (38 : UInt8), (126 : UInt8), (64 : UInt8), (61 : UInt8), (124 : UInt8), (94 : UInt8)] ((c.val : Int)).toNat.toUInt8 ≥ (0 : Int)) else false) = signs.contains (UInt8.ofNat c.val) := by decide +kernel
theorem sign_at (s : ByteArray) : (bif bytI s 0 != (0 : Int) then decide (Lib.indexByte [(44 : UInt8), (40 : UInt8), (41 : UInt8), (58 : UInt8), (36 : UInt8), (43 : UInt8), (45 : UInt8), (42 : UInt8), (47 : UInt8), (38 : UInt8), (126 : UInt8), (64 : UInt8), (61 : UInt8), (124 : UInt8), (94 : UInt8)] (bytI s 0).toNat.toUInt8 ≥ (0 : Int)) else false) = signs.contains (byt s.data.toList 0) := by
  have h := sign_all ⟨(byt s.data.toList 0).toNat, UInt8.toNat_lt _⟩
  rw [UInt8.ofNat_toNat] at h
  exact h
end Go.Proofs.YtfjldllegmfooaaDoor.Lx
end

section
/- A token: shown. No condition. -/
set_option maxRecDepth 100000
namespace Go.Proofs.YtfjldllegmfooaaDoor.Lx
open Go.RowKit Go.IntWalk Go.Proofs.YtfjldllegmfooaaDoor.X

theorem good_next : Lib.Good Tryd.prog Lnext := lib_con good_quo Tryd.func54 cNext 1000 fun σ α hp => by
  rw [next_goal]
  obtain ⟨hz1, hz⟩ := (show 1 ≤ (σ.S 0).size ∧ (σ.S 0).size ≤ 65536 from hp)
  intro x0 x1 x2 x3 x4 x5 x6 x7 x8 x9 x10 x11 x12 x13 x14 x15 x16 x17 x18 x19 x20 x21 x22 x23 x24 x25 x26 x27 x28 x29 x30 x31 x32 x33 x34 x35
  have hL := data_len (σ.S 0)
  have e4 : x4 = isFst (byt (σ.S 0).data.toList 0) := by rw [← has_fst]; exact tab_has _ _ _
  have e8 : x8 = isDig (byt (σ.S 0).data.toList 0) := by rw [← has_dig]; exact tab_has _ _ _
  have e10 : x10 = decide (byt (σ.S 0).data.toList 0 = 37) := bytI_eq _ 0 37 (by decide)
  have e18 : x18 = decide (byt (σ.S 0).data.toList 0 = 39) := bytI_eq _ 0 39 (by decide)
  have e24 : x24 = decide (byt (σ.S 0).data.toList 0 = 34) := bytI_eq _ 0 34 (by decide)
  have e25 : x25 = decide (byt (σ.S 0).data.toList 0 = 59) := bytI_eq _ 0 59 (by decide)
  have e28 : x28 = decide (byt (σ.S 0).data.toList 0 = 60) := bytI_eq _ 0 60 (by decide)
  have e35 : x35 = decide (byt (σ.S 0).data.toList 0 = 62) := bytI_eq _ 0 62 (by decide)
  have e6 := twI_0 isIns (σ.S 0)
  rw [← has_ins] at e6
  have h256 : ∀ i, (bytI (σ.S 0) i).toNat < 256 := fun i => by have := bytI_in (σ.S 0) i; omega
  have hn := tw_le (hasB 2) (σ.S 0).data.toList
  have h5 : x5 := by show _ ≤ 9223372036854775807; omega
  refine ⟨⟨trivial, Int.le_refl _⟩, bytI_in _ _, h256 0, fun h4 => ?_, fun h4 => ⟨bytI_in _ _, h256 0, fun h8 => ?_, fun h8 => ⟨fun h10 => ?_, fun h10 => ⟨fun h18 => ?_, fun h18 => ⟨fun h24 => ?_, fun h24 => ⟨fun h25 => ?_, fun h25 => ?_⟩⟩⟩⟩⟩⟩
  · rw [e4] at h4
    obtain ⟨n1, n2, n3, n4, n5⟩ := nx_name h4
    rw [← has_ins] at n3 n4 n5
    refine ⟨⟨trivial, Int.le_refl _, Int.natCast_nonneg _, h5⟩, ⟨trivial, by show 0 ≤ twI (hasB 2) _ 0; omega, by show twI (hasB 2) _ 0 ≤ _; omega⟩, trivial, rfl, rfl, ⟨⟨⟨⟨trivial, n1.symm⟩, n2.symm⟩, ?_⟩, ?_⟩, ?_⟩
    · rw [n3]; show cutL _ (twI (hasB 2) _ 0) = _
      unfold cutL; rw [e6, Int.toNat_natCast]
    · rw [n4]; show decide (twI (hasB 2) _ 0 ≤ 255) = _
      rw [e6]; exact decide_eq_decide.2 (by omega)
    · show cutR _ (twI (hasB 2) _ 0) = cutR _ (nxL _)
      rw [n5, e6]
  · rw [e4] at h4; rw [e8] at h8
    have nt : nextT (σ.S 0).data.toList = (numT (σ.S 0).data.toList).map fun q => (⟨2, q.1, []⟩, q.2) := by
      unfold nextT; simp only [h4, h8, Bool.false_eq_true, if_false, if_true]
    refine ⟨⟨trivial, h8, hz⟩, trivial, rfl, rfl, ?_⟩
    cases hq : numT (σ.S 0).data.toList with
    | none =>
      rw [hq] at nt
      have w := nx_no h4 nt
      have e1 : numO (σ.S 0) = false := by unfold numO; rw [hq]; rfl
      have e2 : numK (σ.S 0) = 0 := by unfold numK; rw [e1]; rfl
      have e3 : numN (σ.S 0) = 0 := by unfold numN; rw [hq]; rfl
      have e5 : numL (σ.S 0) = 0 := by unfold numL; rw [hq]; rfl
      rw [e1, e2, e3, e5]
      exact ⟨w.1, (bs_of _).trans w.2⟩
    | some q =>
      rw [hq] at nt
      obtain ⟨n1, n2, n3, n4, n5⟩ := nx_yes h4 nt
      have e1 : numO (σ.S 0) = true := by unfold numO; rw [hq]; rfl
      have e2 : numK (σ.S 0) = 2 := by unfold numK; rw [e1]; rfl
      have e3 : numN (σ.S 0) = q.1 := by unfold numN; rw [hq]; rfl
      have e5 : numL (σ.S 0) = (q.2 : Int) := by unfold numL; rw [hq]; rfl
      rw [e1, e2, e3, e5]
      exact ⟨⟨⟨⟨⟨trivial, n1.symm⟩, n2.symm⟩, n3.symm⟩, n4.symm⟩, congrArg _ n5.symm⟩
  · rw [e4] at h4; rw [e8] at h8; rw [e10] at h10
    have hc := of_decide_eq_true h10
    have e11 : x11 = !isLet (byt (σ.S 0).data.toList 1) := by
      have := tab_has (σ.S 0) 1 4
      rw [has_let] at this
      show (_ == _) = _
      rw [← show byt (σ.S 0).data.toList (1 : Int).toNat = byt (σ.S 0).data.toList 1 from rfl, ← this]
      exact (Bool.not_not _).symm
    have nt : nextT (σ.S 0).data.toList = if isLet (byt (σ.S 0).data.toList 1) = true then let m := 1 + (((σ.S 0).data.toList.drop 1).takeWhile isReg).length; some (⟨5, 0, ((σ.S 0).data.toList.take m).drop 1⟩, m) else none := by
      unfold nextT; simp only [h4, h8, Bool.false_eq_true, if_false]
      rw [if_pos hc]
    have e15 := twI_1 isReg (σ.S 0)
    rw [← has_reg] at e15 nt
    have ht := tw_le (hasB 12) ((σ.S 0).data.toList.drop 1)
    rw [List.length_drop] at ht
    refine ⟨⟨trivial, by decide⟩, bytI_in _ _, h256 1, fun h11 => ?_, fun h11 => ?_⟩
    · rw [e11] at h11
      rw [if_neg (by intro c; rw [c] at h11; cases h11)] at nt
      have w := nx_no h4 nt
      exact ⟨trivial, rfl, rfl, w.1, w.2⟩
    · rw [e11] at h11
      rw [if_pos (by revert h11; cases isLet (byt (σ.S 0).data.toList 1) <;> simp)] at nt
      obtain ⟨n1, n2, n3, n4, n5⟩ := nx_yes h4 nt
      have t15 : x15 = ((1 + (((σ.S 0).data.toList.drop 1).takeWhile (hasB 12)).length : Nat) : Int) := e15
      have t16 : x16 = bs ((σ.S 0).data.toList.take (1 + (((σ.S 0).data.toList.drop 1).takeWhile (hasB 12)).length)) := by
        show cutL _ x15 = _
        unfold cutL; rw [t15, Int.toNat_natCast]
      have t17 : x17 = 1 + (((σ.S 0).data.toList.drop 1).takeWhile (hasB 12)).length := by
        show x16.size = _
        rw [t16, bs_size, List.length_take]; omega
      refine ⟨⟨trivial, by decide, by show (1 : Int) ≤ _; omega, h5⟩, ⟨trivial, by omega, by omega⟩, ⟨by decide, by omega⟩, trivial, rfl, rfl, ⟨⟨⟨⟨trivial, n1.symm⟩, n2.symm⟩, ?_⟩, n4.symm⟩, ?_⟩
      · rw [n3, ext_m, t17, t16, bs_data, List.take_take, Nat.min_self]
      · show cutR _ x15 = cutR _ (nxL _)
        rw [n5, t15]
  · rw [e4] at h4; rw [e8] at h8; rw [e10] at h10; rw [e18] at h18
    have nt : nextT (σ.S 0).data.toList = if (byt (σ.S 0).data.toList 1).toNat < 33 ∨ (byt (σ.S 0).data.toList 1).toNat > 126 ∨ byt (σ.S 0).data.toList 2 ≠ 39 ∨ isIns (byt (σ.S 0).data.toList 3) = true then none else some (⟨2, (byt (σ.S 0).data.toList 1).toNat, []⟩, 3) := by
      unfold nextT; simp only [h4, h8, Bool.false_eq_true, if_false]
      rw [if_neg (of_decide_eq_false h10), if_pos (of_decide_eq_true h18)]
    have e21 : x21 = !decide (byt (σ.S 0).data.toList 2 = 39) := by
      show (!(bytI (σ.S 0) 2 == 39)) = _
      exact congrArg _ (bytI_eq (σ.S 0) 2 39 (by decide))
    have b1 : bytI (σ.S 0) 1 = ((byt (σ.S 0).data.toList 1).toNat : Int) := rfl
    have e22 : x22 = decide ((byt (σ.S 0).data.toList 1).toNat < 33 ∨ (byt (σ.S 0).data.toList 1).toNat > 126 ∨ byt (σ.S 0).data.toList 2 ≠ 39 ∨ isIns (byt (σ.S 0).data.toList 3) = true) := by
      have t := tab_has (σ.S 0) 3 2
      rw [has_ins] at t
      show (bif x19 then true else bif x20 then true else bif x21 then true else _) = _
      refine (congrArg (fun z => bif x19 then true else bif x20 then true else bif x21 then true else z) t).trans ?_
      rw [e21, show x19 = decide ((byt (σ.S 0).data.toList 1).toNat < 33) from decide_eq_decide.2 (by rw [b1]; omega), show x20 = decide ((byt (σ.S 0).data.toList 1).toNat > 126) from decide_eq_decide.2 (by rw [b1]; omega)]
      show (bif _ then true else bif _ then true else bif _ then true else isIns (byt (σ.S 0).data.toList 3)) = _
      by_cases a : (byt (σ.S 0).data.toList 1).toNat < 33 <;> by_cases b : (byt (σ.S 0).data.toList 1).toNat > 126 <;> by_cases c : byt (σ.S 0).data.toList 2 = 39 <;> simp [a, b, c]
    have e23 : x23 = σ.S 0 := by
      show (bif x19 then σ.S 0 else bif x20 then σ.S 0 else bif x21 then σ.S 0 else σ.S 0) = _
      cases x19 <;> cases x20 <;> cases x21 <;> rfl
    rw [e23]
    refine ⟨⟨trivial, by decide⟩, fun _ _ => ⟨⟨trivial, by decide⟩, fun _ => ⟨⟨trivial, by decide⟩, bytI_in _ _, h256 3⟩⟩, fun h => ?_, fun h => ?_⟩
    · rw [e22] at h
      rw [if_pos (of_decide_eq_true h)] at nt
      have w := nx_no h4 nt
      exact ⟨trivial, rfl, rfl, w.1, w.2⟩
    · rw [e22] at h
      have h := of_decide_eq_false h
      rw [if_neg h] at nt
      obtain ⟨n1, n2, n3, n4, n5⟩ := nx_yes h4 nt
      have hl : 2 < (σ.S 0).data.toList.length := byt_pos fun z => h (.inr (.inr (.inl (by rw [z]; decide))))
      refine ⟨⟨trivial, by decide, by omega⟩, trivial, rfl, rfl, ⟨⟨⟨⟨trivial, n1.symm⟩, ?_⟩, n3.symm⟩, n4.symm⟩, congrArg _ n5.symm⟩
      rw [n2, b1]
      exact i64_in _ (by have := UInt8.toNat_lt (byt (σ.S 0).data.toList 1); omega)
  · rw [e4] at h4; rw [e8] at h8; rw [e10] at h10; rw [e18] at h18; rw [e24] at h24
    have nt : nextT (σ.S 0).data.toList = (quo ((σ.S 0).data.toList.drop 1)).map fun q => (⟨3, 0, q.1⟩, q.2 + 1) := by
      unfold nextT; simp only [h4, h8, Bool.false_eq_true, if_false]
      rw [if_neg (of_decide_eq_false h10), if_neg (of_decide_eq_false h18), if_pos (of_decide_eq_true h24)]
    refine ⟨⟨trivial, hz1, hz⟩, trivial, rfl, rfl, ?_⟩
    cases hq : quo (restB (σ.S 0) 1) with
    | none =>
      rw [show quo ((σ.S 0).data.toList.drop 1) = none from hq] at nt
      have w := nx_no h4 nt
      have e1 : quoO (σ.S 0) 1 = false := by unfold quoO; rw [hq]; rfl
      have e2 : quoK (σ.S 0) 1 = 0 := by unfold quoK; rw [e1]; rfl
      have e3 : quoX [] (σ.S 0) 1 = ByteArray.empty := by unfold quoX; rw [hq]
      have e5 : quoN (σ.S 0) 1 = 0 := by unfold quoN; rw [hq]
      rw [e1, e2, e3, e5]
      exact ⟨w.1, (bs_of _).trans w.2⟩
    | some q =>
      rw [show quo ((σ.S 0).data.toList.drop 1) = some q from hq] at nt
      obtain ⟨n1, n2, n3, n4, n5⟩ := nx_yes h4 nt
      have e1 : quoO (σ.S 0) 1 = true := by unfold quoO; rw [hq]; rfl
      have e2 : quoK (σ.S 0) 1 = 3 := by unfold quoK; rw [e1]; rfl
      have e3 : quoX [] (σ.S 0) 1 = bs q.1 := by unfold quoX; rw [hq]; exact rows_bs q.1
      have e5 : quoN (σ.S 0) 1 = ((q.2 + 1 : Nat) : Int) := by unfold quoN; rw [hq]; show 1 + (q.2 : Int) = _; omega
      rw [e1, e2, e3, e5]
      exact ⟨⟨⟨⟨⟨trivial, n1.symm⟩, n2.symm⟩, n3.symm⟩, n4.symm⟩, congrArg _ n5.symm⟩
  · rw [e4] at h4; rw [e8] at h8; rw [e10] at h10; rw [e18] at h18; rw [e24] at h24; rw [e25] at h25
    have nt : nextT (σ.S 0).data.toList = some (⟨6, 0, []⟩, 1) := by
      unfold nextT; simp only [h4, h8, Bool.false_eq_true, if_false]
      rw [if_neg (of_decide_eq_false h10), if_neg (of_decide_eq_false h18), if_neg (of_decide_eq_false h24), if_pos (of_decide_eq_true h25)]
    obtain ⟨n1, n2, n3, n4, n5⟩ := nx_yes h4 nt
    exact ⟨⟨trivial, by decide, by show (1 : Int) ≤ _; omega⟩, trivial, rfl, rfl, ⟨⟨⟨⟨trivial, n1.symm⟩, n2.symm⟩, n3.symm⟩, n4.symm⟩, congrArg _ n5.symm⟩
  · rw [e4] at h4; rw [e8] at h8; rw [e10] at h10; rw [e18] at h18; rw [e24] at h24; rw [e25] at h25
    have nt : nextT (σ.S 0).data.toList = if (byt (σ.S 0).data.toList 0 = 60 ∨ byt (σ.S 0).data.toList 0 = 62) ∧ byt (σ.S 0).data.toList 1 = byt (σ.S 0).data.toList 0 then some (⟨4, 0, (σ.S 0).data.toList.take 2⟩, 2) else if signs.contains (byt (σ.S 0).data.toList 0) = true then some (⟨4, 0, (σ.S 0).data.toList.take 1⟩, 1) else none := by
      unfold nextT; simp only [h4, h8, Bool.false_eq_true, if_false]
      rw [if_neg (of_decide_eq_false h10), if_neg (of_decide_eq_false h18), if_neg (of_decide_eq_false h24), if_neg (of_decide_eq_false h25)]
    have e29 : x29 = decide (byt (σ.S 0).data.toList 1 = byt (σ.S 0).data.toList 0) := by
      show (bytI (σ.S 0) 1 == bytI (σ.S 0) 0) = _
      rw [Bool.eq_iff_iff, beq_iff_eq, decide_eq_true_iff]
      unfold bytI
      exact ⟨fun h => UInt8.toNat_inj.1 (Int.ofNat.inj h), fun h => by rw [show byt (σ.S 0).data.toList (1 : Int).toNat = byt (σ.S 0).data.toList (0 : Int).toNat from h]⟩
    have e32 : x32 = signs.contains (byt (σ.S 0).data.toList 0) := sign_at _
    have g33 : ¬ ((byt (σ.S 0).data.toList 0 = 60 ∨ byt (σ.S 0).data.toList 0 = 62) ∧ byt (σ.S 0).data.toList 1 = byt (σ.S 0).data.toList 0) → x33 := fun hn => by
      rw [if_neg hn] at nt
      refine ⟨fun h => ?_, fun h => ?_⟩
      · rw [e32] at h
        rw [if_pos h] at nt
        obtain ⟨n1, n2, n3, n4, n5⟩ := nx_yes h4 nt
        exact ⟨⟨trivial, by decide, by show (1 : Int) ≤ _; omega⟩, trivial, rfl, rfl, ⟨⟨⟨⟨trivial, n1.symm⟩, n2.symm⟩, n3.symm⟩, n4.symm⟩, congrArg _ n5.symm⟩
      · rw [e32] at h
        rw [if_neg (by rw [h]; simp)] at nt
        have w := nx_no h4 nt
        exact ⟨trivial, rfl, rfl, w.1, w.2⟩
    have g34 : (byt (σ.S 0).data.toList 0 = 60 ∨ byt (σ.S 0).data.toList 0 = 62) → x34 := fun ho => by
      refine ⟨⟨trivial, by decide⟩, fun h => ?_, fun h => g33 ?_⟩
      · rw [e29] at h
        have hb := of_decide_eq_true h
        rw [if_pos ⟨ho, hb⟩] at nt
        have hl : 1 < (σ.S 0).data.toList.length := byt_pos (by rw [hb]; rcases ho with ho | ho <;> rw [ho] <;> decide)
        obtain ⟨n1, n2, n3, n4, n5⟩ := nx_yes h4 nt
        exact ⟨⟨trivial, by decide, by omega⟩, trivial, rfl, rfl, ⟨⟨⟨⟨trivial, n1.symm⟩, n2.symm⟩, n3.symm⟩, n4.symm⟩, congrArg _ n5.symm⟩
      · rw [e29] at h
        exact fun c => of_decide_eq_false h c.2
    refine ⟨fun h => g34 (.inl ?_), fun h => ⟨fun k => g34 (.inr ?_), fun k => g33 ?_⟩⟩
    · rw [e28] at h; exact of_decide_eq_true h
    · rw [e35] at k; exact of_decide_eq_true k
    · rw [e28] at h; rw [e35] at k
      rintro ⟨c | c, _⟩
      · exact of_decide_eq_false h c
      · exact of_decide_eq_false k c
end Go.Proofs.YtfjldllegmfooaaDoor.Lx
end

section
/- A token's text behind which a blank stands is cut as by itself. No condition. -/
namespace Go.Proofs.YtfjldllegmfooaaDoor.Lx
open Go.RowKit

/-- What may stand behind a token that is whole: nothing, or a blank. -/
def Stop (r : Bs) : Prop := byt r 0 = 0 ∨ byt r 0 = 32
theorem byt_left {w : Bs} (r : Bs) {i : Nat} (h : i < w.length) : byt (w ++ r) i = byt w i := by
  unfold byt; rw [List.getD_eq_getElem?_getD, List.getD_eq_getElem?_getD, List.getElem?_append_left h]
theorem byt_len (w r : Bs) : byt (w ++ r) w.length = byt r 0 := by
  unfold byt; rw [List.getD_eq_getElem?_getD, List.getD_eq_getElem?_getD, List.getElem?_append_right (Nat.le_refl _), Nat.sub_self]
theorem byt_out {w : Bs} {i : Nat} (h : w.length ≤ i) : byt w i = 0 := by
  unfold byt; rw [List.getD_eq_getElem?_getD, List.getElem?_eq_none h]; rfl
theorem byt_ne {w : Bs} {i : Nat} (h : byt w i ≠ 0) : i < w.length := by
  by_cases hh : i < w.length
  · exact hh
  · exact absurd (byt_out (by omega)) h
theorem tw_stop {p : UInt8 → Bool} {r : Bs} (hr : Stop r) (h0 : p 0 = false) (h1 : p 32 = false) : r.takeWhile p = [] := by
  cases r with
  | nil => rfl
  | cons c r =>
    refine List.takeWhile_cons_of_neg ?_
    rcases hr with h | h
    · rw [show c = 0 from h, h0]; simp
    · rw [show c = 32 from h, h1]; simp
theorem tw_app {p : UInt8 → Bool} {w r : Bs} (hr : r.takeWhile p = []) : (w ++ r).takeWhile p = w.takeWhile p := by
  rw [List.takeWhile_append, hr, List.append_nil]
  split
  · rename_i h
    have := List.takeWhile_prefix p (l := w)
    exact (List.IsPrefix.eq_of_length this h).symm
  · rfl
theorem isFst_ne {c : UInt8} (h : isFst c = true) : c ≠ 0 := by rintro rfl; revert h; decide
theorem isIns0 : isIns 0 = false := by decide
theorem isIns32 : isIns 32 = false := by decide
theorem stop_ins {r : Bs} (h : Stop r) : isIns (byt r 0) = false := by
  rcases h with h | h <;> rw [h] <;> decide
theorem stop_ins' {w r : Bs} (h : Stop r) : isIns (byt (w ++ r) w.length) = false := by rw [byt_len]; exact stop_ins h
theorem quo_app : ∀ (k : Nat) (w r : Bs) (b : Bs) (n : Nat), w.length ≤ k → quo w = some (b, n) → quo (w ++ r) = some (b, n)
  | _, [], r, b, n, _, h => by rw [quo.eq_def] at h; cases h
  | 0, _ :: _, _, _, _, hk, _ => by simp at hk
  | k + 1, c :: w, r, b, n, hk, h => by
    rw [List.cons_append]
    rw [quo.eq_def] at h ⊢
    simp only at h ⊢
    split at h
    · rename_i hc; rw [if_pos hc]; exact h
    · rename_i hc
      rw [if_neg hc]
      split at h
      · cases h
      · rename_i hc2
        rw [if_neg hc2]
        split at h
        · rename_i hc3
          rw [if_pos hc3]
          obtain ⟨q, hq, hm⟩ := Option.map_eq_some_iff.1 h
          rw [quo_app k w r q.1 q.2 (by simpa using hk) hq]
          exact congrArg some hm
        · rename_i hc3
          rw [if_neg hc3]
          cases w with
          | nil => cases h
          | cons e w =>
            have hk2 : w.length ≤ k := by simp only [List.length_cons] at hk; omega
            simp only [List.cons_append] at h ⊢
            split at h
            · rename_i he
              rw [if_pos he]
              obtain ⟨q, hq, hm⟩ := Option.map_eq_some_iff.1 h
              rw [quo_app k w r q.1 q.2 hk2 hq]; exact congrArg some hm
            · rename_i he
              rw [if_neg he]
              split at h
              · rename_i he
                rw [if_pos he]
                obtain ⟨q, hq, hm⟩ := Option.map_eq_some_iff.1 h
                rw [quo_app k w r q.1 q.2 hk2 hq]; exact congrArg some hm
              · rename_i he
                rw [if_neg he]
                split at h
                · rename_i he
                  rw [if_pos he]
                  obtain ⟨q, hq, hm⟩ := Option.map_eq_some_iff.1 h
                  rw [quo_app k w r q.1 q.2 hk2 hq]; exact congrArg some hm
                · rename_i he
                  rw [if_neg he]
                  split at h
                  · rename_i he
                    rw [if_pos he]
                    obtain ⟨q, hq, hm⟩ := Option.map_eq_some_iff.1 h
                    rw [quo_app k w r q.1 q.2 hk2 hq]; exact congrArg some hm
                  · rename_i he
                    rw [if_neg he]
                    split at h
                    · rename_i he
                      rw [if_pos he]
                      match w, h, hk2 with
                      | [], h, _ => cases h
                      | [_], h, _ => cases h
                      | x :: y :: w, h, hk2 =>
                        simp only [List.cons_append] at h ⊢
                        have hk3 : w.length ≤ k := by simp only [List.length_cons] at hk2; omega
                        cases hx : hexV x with
                        | none => rw [hx] at h; cases h
                        | some a =>
                          cases hy : hexV y with
                          | none => rw [hx, hy] at h; cases h
                          | some a2 =>
                            rw [hx, hy] at h
                            simp only at h ⊢
                            obtain ⟨q, hq, hm⟩ := Option.map_eq_some_iff.1 h
                            rw [quo_app k w r q.1 q.2 hk3 hq]; exact congrArg some hm
                    · cases h
theorem tw_leB {p : UInt8 → Bool} (w : Bs) : (w.takeWhile p).length ≤ w.length := List.Sublist.length_le (List.takeWhile_sublist _)
theorem numT_app {w r : Bs} (hr : Stop r) {v : Int} (h : numT w = some (v, w.length)) : numT (w ++ r) = some (v, w.length) := by
  have t1 : (w ++ r).takeWhile isDig = w.takeWhile isDig := tw_app (tw_stop hr (by decide) (by decide))
  unfold numT at h ⊢
  simp only at h ⊢
  rw [t1]
  split at h
  · rename_i hc
    have h1 : 1 < w.length := byt_ne (by rw [hc.2]; decide)
    rw [byt_left r (by omega), byt_left r h1, if_pos hc]
    have t2 : ((w ++ r).drop 2).takeWhile isHex = (w.drop 2).takeWhile isHex := by
      rw [List.drop_append_of_le_length (by omega)]
      exact tw_app (tw_stop hr (by decide) (by decide))
    rw [t2]
    split at h
    · cases h
    · rename_i hm
      simp only [Option.some.injEq, Prod.mk.injEq] at h
      obtain ⟨hv, hm2⟩ := h
      rw [hm2] at hm hv ⊢
      rw [stop_ins' hr, if_neg (by intro hh; rcases hh with hh | hh | hh; exact hm (.inl hh); exact hm (.inr (.inl hh)); cases hh), List.take_left, ← hv, List.take_length]
  · rename_i hc
    have hc' : ¬ (byt (w ++ r) 0 = 48 ∧ byt (w ++ r) 1 = 120) := by
      rintro ⟨a, b⟩
      by_cases h1 : 1 < w.length
      · rw [byt_left r (by omega)] at a; rw [byt_left r h1] at b; exact hc ⟨a, b⟩
      · by_cases h0 : w.length = 1
        · have e1 : byt (w ++ r) 1 = byt r 0 := by have := byt_len w r; rwa [h0] at this
          rw [e1] at b
          rcases hr with hr | hr <;> rw [hr] at b <;> exact absurd b (by decide)
        · have : w = [] := List.length_eq_zero_iff.1 (by omega)
          subst this
          rw [List.nil_append] at a
          rcases hr with hr | hr <;> rw [hr] at a <;> exact absurd a (by decide)
    rw [if_neg hc']
    split at h
    · cases h
    · rename_i hm
      simp only [Option.some.injEq, Prod.mk.injEq] at h
      obtain ⟨hv, hm2⟩ := h
      rw [hm2] at hm hv ⊢
      have hb0 : byt (w ++ r) 0 = 48 ∧ w.length > 1 → byt w 0 = 48 ∧ w.length > 1 := fun hh => ⟨by rw [← byt_left r (by omega)]; exact hh.1, hh.2⟩
      rw [List.take_left, stop_ins' hr, if_neg, ← hv, List.take_length]
      rintro (hh | hh | hh)
      · exact hm (.inl (hb0 hh))
      · exact hm (.inr (.inl (by rw [List.take_length]; exact hh)))
      · cases hh
theorem next_app {w r : Bs} (hr : Stop r) {t : Tok} (h : nextT w = some (t, w.length)) : nextT (w ++ r) = some (t, w.length) := by
  have hne : 0 < w.length := by
    cases w with
    | nil => rw [show nextT [] = none from rfl] at h; cases h
    | cons a l => simp
  unfold nextT at h ⊢
  simp only at h ⊢
  rw [byt_left r hne]
  split at h
  · rename_i hc
    rw [if_pos hc, tw_app (tw_stop hr isIns0 isIns32)]
    split at h
    · rename_i hn
      simp only [Option.some.injEq, Prod.mk.injEq] at h
      obtain ⟨ht, hl⟩ := h
      rw [if_pos hn]
      rw [hl] at ht ⊢
      rw [List.take_left, ← ht, List.take_length]
    · cases h
  · rename_i hc
    rw [if_neg hc]
    split at h
    · rename_i hd
      rw [if_pos hd]
      obtain ⟨q, hq, hm⟩ := Option.map_eq_some_iff.1 h
      simp only [Prod.mk.injEq] at hm
      have : numT w = some (q.1, w.length) := by rw [hq, ← hm.2]
      rw [numT_app hr this]
      show some _ = _
      rw [← hm.1]
    · rename_i hd
      rw [if_neg hd]
      split at h
      · rename_i hp
        rw [if_pos hp]
        split at h
        · rename_i hl
          have h1 : 1 < w.length := byt_ne (by intro hh; rw [hh] at hl; revert hl; decide)
          rw [byt_left r h1, if_pos hl]
          have t2 : ((w ++ r).drop 1).takeWhile isReg = (w.drop 1).takeWhile isReg := by
            rw [List.drop_append_of_le_length (by omega)]
            exact tw_app (tw_stop hr (by decide) (by decide))
          rw [t2]
          simp only [Option.some.injEq, Prod.mk.injEq] at h ⊢
          obtain ⟨ht, hm⟩ := h
          rw [hm] at ht ⊢
          exact ⟨by rw [List.take_left, ← ht, List.take_length], rfl⟩
        · cases h
      · rename_i hp
        rw [if_neg hp]
        split at h
        · rename_i hq
          rw [if_pos hq]
          split at h
          · cases h
          · rename_i hx
            simp only [Option.some.injEq, Prod.mk.injEq] at h
            obtain ⟨ht, hl⟩ := h
            have e3 : isIns (byt (w ++ r) 3) = false := by rw [show 3 = w.length from hl]; exact stop_ins' hr
            rw [byt_left r (by omega), byt_left r (by omega), e3, if_neg, ← hl, ht]
            rintro (hh | hh | hh | hh)
            · exact hx (.inl hh)
            · exact hx (.inr (.inl hh))
            · exact hx (.inr (.inr (.inl hh)))
            · cases hh
        · rename_i hq
          rw [if_neg hq]
          split at h
          · rename_i hs
            rw [if_pos hs]
            obtain ⟨q, hq2, hm⟩ := Option.map_eq_some_iff.1 h
            rw [List.drop_append_of_le_length (by omega), quo_app _ (w.drop 1) r q.1 q.2 (Nat.le_refl _) hq2]
            exact congrArg some hm
          · rename_i hs
            rw [if_neg hs]
            split at h
            · rename_i he
              rw [if_pos he]; exact h
            · rename_i he
              rw [if_neg he]
              split at h
              · rename_i hl
                have h1 : 1 < w.length := byt_ne (by rw [hl.2]; rcases hl.1 with h | h <;> rw [h] <;> decide)
                rw [byt_left r h1, if_pos hl]
                simp only [Option.some.injEq, Prod.mk.injEq] at h ⊢
                obtain ⟨ht, hm⟩ := h
                refine ⟨?_, hm⟩
                rw [hm] at ht ⊢
                rw [List.take_left, ← ht, List.take_length]
              · rename_i hl
                split at h
                · rename_i hg
                  simp only [Option.some.injEq, Prod.mk.injEq] at h
                  obtain ⟨ht, hm⟩ := h
                  have e1 : byt (w ++ r) 1 = byt r 0 := by rw [show 1 = w.length from hm]; exact byt_len w r
                  rw [e1, if_neg, if_pos hg]
                  · simp only [Option.some.injEq, Prod.mk.injEq]
                    refine ⟨?_, hm⟩
                    rw [hm] at ht ⊢
                    rw [List.take_left, ← ht, List.take_length]
                  · rintro ⟨a, b⟩
                    rcases hr with hr | hr <;> rw [hr] at b <;> rcases a with a | a <;> rw [a] at b <;> exact absurd b (by decide)
                · cases h
end Go.Proofs.YtfjldllegmfooaaDoor.Lx
end

section
/- Tokens that were printed are cut as they were. No condition. -/
namespace Go.Proofs.YtfjldllegmfooaaDoor.Lx
open Go.RowKit

theorem next_head {l : Bs} {t : Tok} {n : Nat} (h : nextT l = some (t, n)) : byt l 0 ≠ 32 ∧ byt l 0 ≠ 9 ∧ byt l 0 ≠ 35 ∧ byt l 0 ≠ 0 := by
  have key : ∀ c : UInt8, (c = 32 ∨ c = 9 ∨ c = 35 ∨ c = 0) → byt l 0 = c → nextT l = none := by
    intro c hc hl
    unfold nextT
    simp only
    rw [hl]
    rcases hc with rfl | rfl | rfl | rfl <;> rfl
  refine ⟨fun hh => ?_, fun hh => ?_, fun hh => ?_, fun hh => ?_⟩ <;> (rw [key _ (by simp) hh] at h; cases h)
theorem next_pos {l : Bs} {t : Tok} {n : Nat} (h : nextT l = some (t, n)) : 1 ≤ n := by
  have hh := next_head h
  unfold nextT at h
  simp only at h
  have one : ∀ {p : UInt8 → Bool}, p (byt l 0) = true → 1 ≤ (l.takeWhile p).length := fun {p} hp => by
    cases l with
    | nil => exact absurd rfl hh.2.2.2
    | cons a l => rw [List.takeWhile_cons_of_pos (show p a = true from hp)]; simp
  split at h
  · rename_i hc
    split at h
    · simp only [Option.some.injEq, Prod.mk.injEq] at h
      rw [← h.2]
      exact one (by unfold isIns; rw [hc]; rfl)
    · cases h
  · split at h
    · rename_i hd
      obtain ⟨q, hq, hm⟩ := Option.map_eq_some_iff.1 h
      simp only [Prod.mk.injEq] at hm
      rw [← hm.2]
      unfold numT at hq
      simp only at hq
      split at hq
      · split at hq
        · cases hq
        · simp only [Option.some.injEq] at hq; rw [← hq]; simp only; omega
      · split at hq
        · cases hq
        · simp only [Option.some.injEq] at hq; rw [← hq]; exact one hd
    · split at h
      · split at h
        · simp only [Option.some.injEq, Prod.mk.injEq] at h; omega
        · cases h
      · split at h
        · split at h
          · cases h
          · simp only [Option.some.injEq, Prod.mk.injEq] at h; omega
        · split at h
          · obtain ⟨q, hq, hm⟩ := Option.map_eq_some_iff.1 h
            simp only [Prod.mk.injEq] at hm; omega
          · split at h
            · simp only [Option.some.injEq, Prod.mk.injEq] at h; omega
            · split at h
              · simp only [Option.some.injEq, Prod.mk.injEq] at h; omega
              · split at h
                · simp only [Option.some.injEq, Prod.mk.injEq] at h; omega
                · cases h
theorem lineF_fuel : ∀ (k : Nat) (l : Bs), l.length ≤ k → lineF k l = lineF l.length l
  | k, [], _ => by cases k <;> rfl
  | 0, _ :: _, h => by simp at h
  | k + 1, c :: r, h => by
    have hr : r.length ≤ k := by simpa using h
    rw [List.length_cons, lineF, lineF]
    split
    · exact lineF_fuel k r hr
    · split
      · rfl
      · cases hn : nextT (c :: r) with
        | none => rfl
        | some q =>
          obtain ⟨t, n⟩ := q
          have hp := next_pos hn
          have hl : ((c :: r).drop n).length ≤ r.length := by rw [List.length_drop, List.length_cons]; omega
          simp only
          rw [lineF_fuel k _ (by omega), lineF_fuel r.length _ hl]
def lineX (l : Bs) : Option (List Tok) := lineF l.length l
theorem lineX_skip (r : Bs) : lineX (32 :: r) = lineX r := by
  unfold lineX; rw [List.length_cons, lineF, if_pos (.inl rfl)]
theorem lineX_next {l : Bs} {t : Tok} {n : Nat} (h : nextT l = some (t, n)) : lineX l = (lineX (l.drop n)).map (t :: ·) := by
  have hh := next_head h
  have hp := next_pos h
  cases l with
  | nil => exact absurd rfl hh.2.2.2
  | cons c r =>
    unfold lineX
    rw [List.length_cons, lineF, if_neg (fun hx => hx.elim hh.1 hh.2.1), if_neg (show ¬ c = 35 from hh.2.2.1), h]
    simp only
    rw [lineF_fuel r.length _ (by rw [List.length_drop, List.length_cons]; omega)]
/-- Words with blanks between, and their tokens. -/
inductive Line : Bs → List Tok → Prop where
  | one {s : Bs} {t : Tok} (h : nextT s = some (t, s.length)) : Line s [t]
  | more {x : Bs} {q : List Tok} {s : Bs} {t : Tok} (hx : Line x q) (h : nextT s = some (t, s.length)) : Line (x ++ 32 :: s) (q ++ [t])
theorem line_cut {x : Bs} {q : List Tok} (h : Line x q) : ∀ r, Stop r → lineX (x ++ r) = (lineX r).map (q ++ ·) := by
  induction h with
  | one h =>
    intro r hr
    rw [lineX_next (next_app hr h), List.drop_left]; rfl
  | more hx h ih =>
    intro r hr
    rename_i x q s t
    rw [List.append_assoc, List.cons_append, ih _ (.inr rfl), lineX_skip, lineX_next (next_app hr h), List.drop_left, Option.map_map]
    congr 1
    funext z
    simp
theorem line_ne {x : Bs} {q : List Tok} (h : Line x q) : q ≠ [] := by
  cases h <;> simp
theorem quo_ge : ∀ (k : Nat) (l : Bs) (b : Bs) (n : Nat), l.length ≤ k → quo l = some (b, n) → 10 ∉ l.take n
  | _, [], b, n, _, h => by rw [quo.eq_def] at h; cases h
  | 0, _ :: _, _, _, hk, _ => by simp at hk
  | k + 1, c :: r, b, n, hk, h => by
    rw [quo.eq_def] at h
    simp only at h
    have hr : r.length ≤ k := by simpa using hk
    have step : ∀ (q : Bs × Nat) (pre : Bs) (r' : Bs), c :: r = pre ++ r' → 10 ∉ pre → r'.length ≤ k → quo r' = some q → n = q.2 + pre.length → 10 ∉ (c :: r).take n := by
      intro q pre r' e hp hl hq hn
      rw [e, hn, Nat.add_comm, List.take_append, List.mem_append]
      rintro (hm | hm)
      · exact hp (List.mem_of_mem_take hm)
      · rw [Nat.add_sub_cancel_left] at hm
        exact quo_ge k r' q.1 q.2 hl hq hm
    split at h
    · rename_i hc
      simp only [Option.some.injEq, Prod.mk.injEq] at h
      rw [← h.2, hc]
      simp
    · split at h
      · cases h
      · rename_i hc2
        have hc10 : c ≠ 10 := by rintro rfl; exact hc2 (by decide)
        split at h
        · obtain ⟨q, hq, hm⟩ := Option.map_eq_some_iff.1 h
          simp only [Prod.mk.injEq] at hm
          exact step q [c] r rfl (by simpa using fun hh => hc10 hh.symm) hr hq (by simp [← hm.2])
        · cases r with
          | nil => cases h
          | cons e r =>
            have hr2 : r.length ≤ k := by simp only [List.length_cons] at hr; omega
            simp only at h
            have two : ∀ q, e ≠ 10 → quo r = some q → n = q.2 + 2 → 10 ∉ (c :: e :: r).take n := fun q he hq hn =>
              step q [c, e] r rfl (by simp only [List.mem_cons, List.not_mem_nil, or_false, not_or]; exact ⟨fun hh => hc10 hh.symm, fun hh => he hh.symm⟩) hr2 hq hn
            split at h
            · rename_i he
              obtain ⟨q, hq, hm⟩ := Option.map_eq_some_iff.1 h
              simp only [Prod.mk.injEq] at hm
              exact two q (by rcases he with rfl | rfl <;> decide) hq hm.2.symm
            · split at h
              · rename_i he
                obtain ⟨q, hq, hm⟩ := Option.map_eq_some_iff.1 h
                simp only [Prod.mk.injEq] at hm
                exact two q (by rw [he]; decide) hq hm.2.symm
              · split at h
                · rename_i he
                  obtain ⟨q, hq, hm⟩ := Option.map_eq_some_iff.1 h
                  simp only [Prod.mk.injEq] at hm
                  exact two q (by rw [he]; decide) hq hm.2.symm
                · split at h
                  · rename_i he
                    obtain ⟨q, hq, hm⟩ := Option.map_eq_some_iff.1 h
                    simp only [Prod.mk.injEq] at hm
                    exact two q (by rw [he]; decide) hq hm.2.symm
                  · split at h
                    · rename_i he
                      match r, h, hr2 with
                      | [], h, _ => cases h
                      | [_], h, _ => cases h
                      | x :: y :: r, h, hr2 =>
                        simp only at h
                        have hr3 : r.length ≤ k := by simp only [List.length_cons] at hr2; omega
                        have hx10 : hexV 10 = none := rfl
                        cases hx : hexV x with
                        | none => rw [hx] at h; cases h
                        | some a =>
                          cases hy : hexV y with
                          | none => rw [hx, hy] at h; cases h
                          | some a2 =>
                            rw [hx, hy] at h
                            simp only at h
                            obtain ⟨q, hq, hm⟩ := Option.map_eq_some_iff.1 h
                            simp only [Prod.mk.injEq] at hm
                            refine step q [c, e, x, y] r rfl ?_ hr3 hq hm.2.symm
                            intro hm10
                            rcases List.mem_cons.1 hm10 with hh | hm10
                            · exact hc10 hh.symm
                            · rcases List.mem_cons.1 hm10 with hh | hm10
                              · rw [he] at hh; exact absurd hh (by decide)
                              · rcases List.mem_cons.1 hm10 with hh | hm10
                                · rw [← hh, hx10] at hx; cases hx
                                · rw [← List.mem_singleton.1 hm10, hx10] at hy; cases hy
                    · cases h
theorem tw_nl {p : UInt8 → Bool} (hp : p 10 = false) (l : Bs) : 10 ∉ l.take (l.takeWhile p).length := fun h => by
  have := take_while_all l 10 h
  rw [hp] at this; cases this
theorem next_nl {s : Bs} {t : Tok} (h : nextT s = some (t, s.length)) : 10 ∉ s := by
  have hh := next_head h
  have full : ∀ {p : UInt8 → Bool}, p 10 = false → (s.takeWhile p).length = s.length → 10 ∉ s := fun {p} hp he => by
    have := tw_nl hp s
    rwa [he, List.take_length] at this
  unfold nextT at h
  simp only at h
  split at h
  · split at h
    · simp only [Option.some.injEq, Prod.mk.injEq] at h
      exact full (p := isIns) (by decide) h.2
    · cases h
  · split at h
    · obtain ⟨q, hq, hm⟩ := Option.map_eq_some_iff.1 h
      simp only [Prod.mk.injEq] at hm
      unfold numT at hq
      simp only at hq
      split at hq
      · rename_i hx
        split at hq
        · cases hq
        · rename_i hm2
          simp only [Option.some.injEq] at hq
          rw [← hq] at hm
          have hm' := hm.2
          simp only at hm'
          match s, hx, hm', hh with
          | [], hx, _, _ => exact absurd hx.1 (by decide)
          | [c], hx, _, _ => exact absurd (show (0 : UInt8) = 120 from hx.2) (by decide)
          | c :: x :: r, hx, hm', _ =>
            have hr : (r.takeWhile isHex).length = r.length := by
              have : (2 + (r.takeWhile isHex).length) = r.length + 2 := hm'
              omega
            have h3 := tw_nl (p := isHex) (by decide) r
            rw [hr, List.take_length] at h3
            have c1 : c = 48 := hx.1
            have c2 : x = 120 := hx.2
            rw [c1, c2]
            simp only [List.mem_cons, not_or]
            exact ⟨by decide, by decide, h3⟩
      · split at hq
        · cases hq
        · simp only [Option.some.injEq] at hq
          rw [← hq] at hm
          exact full (p := isDig) (by decide) hm.2
    · split at h
      · rename_i hp
        split at h
        · simp only [Option.some.injEq, Prod.mk.injEq] at h
          have hl := h.2
          match s, hp, hl with
          | [], hp, _ => exact absurd hp (by decide)
          | c :: r, hp, hl =>
            have hr : (r.takeWhile isReg).length = r.length := by
              have : 1 + (r.takeWhile isReg).length = r.length + 1 := hl
              omega
            have h3 := tw_nl (p := isReg) (by decide) r
            rw [hr, List.take_length] at h3
            have c1 : c = 37 := hp
            rw [c1]
            simp only [List.mem_cons, not_or]
            exact ⟨by decide, h3⟩
        · cases h
      · split at h
        · rename_i hq
          split at h
          · cases h
          · rename_i hx
            simp only [Option.some.injEq, Prod.mk.injEq] at h
            have hl := h.2
            match s, hq, hx, hl with
            | [c, x, d], hq, hx, _ =>
              have c1 : c = 39 := hq
              have c2 : ¬ (x.toNat < 33) := fun hh => hx (.inl hh)
              have c3 : d = 39 := by
                by_cases hd : d = 39
                · exact hd
                · exact absurd (.inr (.inr (.inl hd))) hx
              rw [c1, c3]
              simp only [List.mem_cons, List.not_mem_nil, or_false, not_or]
              refine ⟨by decide, fun hh => c2 (by rw [← hh]; decide), by decide⟩
        · split at h
          · rename_i hs
            obtain ⟨q, hq, hm⟩ := Option.map_eq_some_iff.1 h
            simp only [Prod.mk.injEq] at hm
            have := quo_ge _ _ q.1 q.2 (Nat.le_refl _) hq
            match s, hs, hm.2, this with
            | [], hs, _, _ => exact absurd hs (by decide)
            | c :: r, hs, hl, this =>
              have hl' : q.2 = r.length := by have : q.2 + 1 = r.length + 1 := hl; omega
              have c1 : c = 34 := hs
              rw [c1]
              rw [hl'] at this
              have h3 : 10 ∉ r := by
                have e : ((c :: r).drop 1).take r.length = r := List.take_length
                rwa [e] at this
              simp only [List.mem_cons, not_or]
              exact ⟨by decide, h3⟩
          · split at h
            · rename_i he
              simp only [Option.some.injEq, Prod.mk.injEq] at h
              match s, he, h.2 with
              | [c], he, _ => have c1 : c = 59 := he; rw [c1]; decide
            · split at h
              · rename_i hl
                simp only [Option.some.injEq, Prod.mk.injEq] at h
                match s, hl, h.2 with
                | [c, d], hl, _ =>
                  have c1 : c = 60 ∨ c = 62 := hl.1
                  have c2 : d = c := hl.2
                  rw [c2]
                  rcases c1 with rfl | rfl <;> decide
              · split at h
                · rename_i hg
                  simp only [Option.some.injEq, Prod.mk.injEq] at h
                  match s, hg, h.2 with
                  | [c], hg, _ =>
                    have hg' : signs.contains c = true := hg
                    have := signs_in hg'
                    intro hm
                    rw [← List.mem_singleton.1 hm] at this
                    exact absurd this (by decide)
                · cases h
theorem line_nl {x : Bs} {q : List Tok} (h : Line x q) : 10 ∉ x := by
  induction h with
  | one h => exact next_nl h
  | more hx h ih =>
    intro hm
    rcases List.mem_append.1 hm with hm | hm
    · exact ih hm
    · rcases List.mem_cons.1 hm with hm | hm
      · exact absurd hm (by decide)
      · exact next_nl h hm

/-- What a printer writes: W tells each token's text. -/
def printF (W : Tok → Option Bs) : List Tok → Bool → Option Bs
  | [], begun => some (if begun then [10] else [])
  | t :: ts, begun =>
    if t.kind = 6 then (if t.n = 0 ∧ t.text = [] then (printF W ts false).map (10 :: ·) else none)
    else match W t with
      | none => none
      | some s => (printF W ts true).map ((if begun then 32 :: s else s) ++ ·)
def want : List Tok → Bool → List Tok
  | [], atEnd => if atEnd then [] else [endT]
  | t :: ts, atEnd => if t.kind = 6 then (if atEnd then want ts true else t :: want ts true) else t :: want ts false
def toksL : List Bs → Option (List Tok)
  | [] => some []
  | l :: ls => match lineT l with
    | none => none
    | some ts => (toksL ls).map (ts ++ ·)
theorem toksL_lines : ∀ (ls : List Bs) (n : Nat) (T : List Tok), toksL ls = some T → ∃ r, linesT n ls = .ok r ∧ r.map (·.2) = T
  | [], n, T, h => by
    simp only [toksL, Option.some.injEq] at h
    exact ⟨[], rfl, h⟩
  | l :: ls, n, T, h => by
    rw [toksL] at h
    cases hl : lineT l with
    | none => rw [hl] at h; cases h
    | some ts =>
      rw [hl] at h
      simp only at h
      obtain ⟨T', hT, rfl⟩ := Option.map_eq_some_iff.1 h
      obtain ⟨r, hr, hm⟩ := toksL_lines ls (n + 1) T' hT
      refine ⟨ts.map (fun t => (n, t)) ++ r, by rw [linesT, hl]; simp only [hr], ?_⟩
      rw [List.map_append, hm, List.map_map]
      congr 1
      exact List.map_id' _
theorem lineT_line {x : Bs} {q : List Tok} (h : Line x q) : lineT x = some (q ++ [endT]) := by
  have h1 := line_cut h [] (.inl rfl)
  rw [List.append_nil] at h1
  unfold lineT
  have h2 : lineF x.length x = some q := by
    show lineX x = _
    rw [h1]
    show some (q ++ []) = _
    rw [List.append_nil]
  rw [h2]
  cases q with
  | nil => exact absurd rfl (line_ne h)
  | cons a q => rfl
theorem lines_nil : lines [] = [] := rfl
theorem end_eq {t : Tok} (h : t.kind = 6) (h2 : t.n = 0 ∧ t.text = []) : t = endT := by
  cases t; simp only at h h2; rw [h, h2.1, h2.2]; rfl
theorem print_cut {W : Tok → Option Bs} (hW : ∀ t s, W t = some s → nextT s = some (t, s.length)) : ∀ (ts : List Tok),
    (∀ a, printF W ts false = some a → toksL (lines a) = some (want ts true)) ∧
    (∀ a x q, printF W ts true = some a → Line x q → toksL (lines (x ++ a)) = some (q ++ want ts false))
  | [] => by
    refine ⟨fun a h => ?_, fun a x q h hx => ?_⟩
    · simp only [printF, Option.some.injEq] at h
      subst h
      rfl
    · simp only [printF, Option.some.injEq] at h
      subst h
      show toksL (lines (x ++ 10 :: [])) = _
      rw [lines_app, split_plain x (line_nl hx), lines_nil, List.append_nil, toksL, lineT_line hx]
      simp only [toksL, want, Option.map_some, List.append_nil]
      rfl
  | t :: ts => by
    obtain ⟨ih1, ih2⟩ := print_cut hW ts
    refine ⟨fun a h => ?_, fun a x q h hx => ?_⟩
    · rw [printF] at h
      rw [want]
      split at h
      · rename_i hk
        rw [if_pos hk]
        split at h
        · obtain ⟨a', ha, rfl⟩ := Option.map_eq_some_iff.1 h
          rw [if_pos rfl]
          show toksL (lines ([] ++ 10 :: a')) = _
          rw [lines_app]
          show toksL ([[]] ++ lines a') = _
          rw [List.singleton_append, toksL]
          show (toksL (lines a')).map ([] ++ ·) = _
          rw [ih1 a' ha]; rfl
        · cases h
      · rename_i hk
        rw [if_neg hk]
        cases hw : W t with
        | none => rw [hw] at h; cases h
        | some s =>
          rw [hw] at h
          simp only at h
          obtain ⟨a', ha, rfl⟩ := Option.map_eq_some_iff.1 h
          rw [if_neg (by simp)]
          exact ih2 a' s [t] ha (.one (hW t s hw))
    · rw [printF] at h
      rw [want]
      split at h
      · rename_i hk
        rw [if_pos hk]
        split at h
        · rename_i he
          obtain ⟨a', ha, rfl⟩ := Option.map_eq_some_iff.1 h
          rw [if_neg (by simp), end_eq hk he, lines_app, split_plain x (line_nl hx), List.singleton_append, toksL, lineT_line hx]
          simp only
          rw [ih1 a' ha]
          simp only [Option.map_some, List.append_assoc]
          rfl
        · cases h
      · rename_i hk
        rw [if_neg hk]
        cases hw : W t with
        | none => rw [hw] at h; cases h
        | some s =>
          rw [hw] at h
          simp only at h
          obtain ⟨a', ha, rfl⟩ := Option.map_eq_some_iff.1 h
          rw [if_pos trivial]
          have := ih2 a' (x ++ 32 :: s) (q ++ [t]) ha (.more hx (hW t s hw))
          rw [List.append_assoc] at this
          rw [this, List.append_assoc]; rfl
/-- What was printed is cut as it was, unless there are too many lines. -/
theorem back_cut {W : Tok → Option Bs} (hW : ∀ t s, W t = some s → nextT s = some (t, s.length)) {ts : List Tok} {a : Bs} (h : printF W ts false = some a) (hl : a.length ≤ 65536) :
    (allT a = .error (0, 6) ∧ (lines a).length > 4000) ∨ ∃ r, allT a = .ok r ∧ r.map (·.2) = want ts true := by
  unfold allT
  rw [if_neg (by omega)]
  by_cases hn : (lines a).length > 4000
  · rw [if_pos hn]; exact .inl ⟨rfl, hn⟩
  · rw [if_neg hn]
    obtain ⟨r, hr, hm⟩ := toksL_lines (lines a) 1 _ ((print_cut hW ts).1 a h)
    rw [hr]
    exact .inr ⟨r, rfl, hm⟩
end Go.Proofs.YtfjldllegmfooaaDoor.Lx
end

section
/- The tokens of a line, and of a text: contracts. No condition. -/
namespace Go.Proofs.YtfjldllegmfooaaDoor.Lx
open Go.RowKit Go.IntWalk Go.Proofs.YtfjldllegmfooaaDoor.X

/-- A token's cells. -/
def tokK : List PK := [.int .i64, .int .i64, .int .i64, .str]
def tokR (n : Int) (t : Tok) : List Value := [.int .i64 t.kind, .int .i64 n, .int .i64 t.n, .string (bs t.text)]
/-- What is left of a line when its tokens were read. -/
def leftF : Nat → Bs → Bs
  | _, [] => []
  | 0, l => l
  | k + 1, c :: r =>
    if c = 32 ∨ c = 9 then leftF k r
    else if c = 35 then c :: r
    else match nx (c :: r) with
      | (_, _, _, m, ok) => if ok = true then leftF k ((c :: r).drop m) else (c :: r).drop m
def tksO (s : ByteArray) : Bool := (lineF s.data.toList.length s.data.toList).isSome
def tksR (xs : List (List Value)) (n : Int) (s : ByteArray) : List (List Value) := match lineF s.data.toList.length s.data.toList with
  | none => []
  | some q => xs ++ q.map (tokR n)
def tksL (s : ByteArray) : ByteArray := bs (leftF s.data.toList.length s.data.toList)
def cTksL : Con where
  ps := [.i .i64 1, .p 0 0, .r 4 32 tokK]
  bl := scanB 0
  top := 8
  pre := fun σ => (σ.R 4).length + (σ.S 0).size ≤ 65536
  post := fun σ => .ite (tksO (σ.S 0))
    (.leaf (.exit 0) [(1, .gi .i64 (σ.I 1)), (6, .p 0 0), (7, .gr 8 32 tokK (tksR (σ.R 4) (σ.I 1) (σ.S 0)))] [(0, [(0, .gs (tksL (σ.S 0)))])] [4])
    (.leaf .ret [(1, .gi .i64 (σ.I 1)), (6, .p 0 0), (4, .c (.slice none 0 0)), (5, .gb false)] [(0, [(0, .gs (tksL (σ.S 0)))])] [4])
noncomputable def bTksL : Code := loopAt Tryd.prog 3 "lexer.go:207"
noncomputable def lTksL : LCon := { c := cTksL, sl := [1, 6, 7], nt := Tryd.f36.ntmps, hv := nubN (writes bTksL) [], meas := fun σ => (σ.S 0).size, mvr := [4], mvc := [(0, [0])] }
noncomputable def LtksL : Lib := { Lnext with ls := (3, "lexer.go:207", lTksL) :: Lnext.ls }
def lnO (s : ByteArray) : Bool := (lineT s.data.toList).isSome
def lnR (n : Int) (s : ByteArray) : List (List Value) := ((lineT s.data.toList).getD []).map (tokR n)
def cTks : Con where
  ps := [.s 0, .i .i64 1]
  bl := []
  top := 2
  pre := fun σ => (σ.S 0).size ≤ 65536
  post := fun σ => .leaf .ret [(0, .t [.gr 4 32 tokK (lnR (σ.I 1) (σ.S 0)), .gb (lnO (σ.S 0))])] [] []
noncomputable def Ltks : Lib := { LtksL with cs := (36, cTks) :: LtksL.cs }
end Go.Proofs.YtfjldllegmfooaaDoor.Lx
end

section
/- Written by vc.py: what is to be shown, read out. No condition. -/
set_option maxRecDepth 1000000
set_option maxHeartbeats 0
namespace Go.Proofs.YtfjldllegmfooaaDoor.Lx
open Go.RowKit Go.Proofs.YtfjldllegmfooaaDoor.X
theorem tksl_round (σ : Dt) (α : At') (rest : Nat → Value) : (lTksL.goal Tryd.prog Lnext.mk' 1000 bTksL σ α rest) = (
let x0 := !(σ.S 0).toList == [];
let x1 := (↑((σ.S 0).data.getD 0 (0 : UInt8)).toNat : Int);
let x2 := x1 == (32 : Int);
let x3 := bif x2 then x2 else x1 == (9 : Int);
let x4 := (σ.R 4).length = (σ.R 4).length;
let x5 := tksR (σ.R 4) (σ.I 1) (σ.S 0);
let x6 := asSt ([kCells], []) = ([kCells], []);
let x7 := x1 == (35 : Int);
let x8 := True ∧ σ.I 1 = σ.I 1;
let x9 := true = true ∧ (tksO (σ.S 0) = true → Ex.exit 0 = Ex.exit 0 ∧ true = true ∧ (x8 ∧ x4 ∧ σ.R 4 = x5) ∧ σ.S 0 = tksL (σ.S 0)) ∧ (tksO (σ.S 0) = false → Ex.ret = Ex.exit 0 ∧ true = true ∧ False);
let x10 := cutR (σ.S 0) (nxL (σ.S 0));
let x11 := σ.R 4 ++ [[Value.int IntKind.i64 (nxK (σ.S 0)), Value.int IntKind.i64 (σ.I 1), Value.int IntKind.i64 (nxN (σ.S 0)), Value.string (nxX (σ.S 0))]];
let x12 := x11.length;
let x13 := x10.size;
true = true ∧ (x0 = true → ((0 : Int) ≤ (0 : Int) ∧ (0 : Int) < (↑(σ.S 0).size : Int)) ∧ (x3 = true → (True ∧ (0 : Int) ≤ (1 : Int) ∧ (1 : Int) ≤ (↑(σ.S 0).size : Int)) ∧ true = true ∧ true = true ∧ (True ∧ x4) ∧ (σ.R 4).length + (cutR (σ.S 0) (1 : Int)).size ≤ 65536 ∧ (cutR (σ.S 0) (1 : Int)).size
    < (σ.S 0).size ∧ Po.ite (tksO (cutR (σ.S 0) (1 : Int))) (Po.leaf (Ex.exit 0) [(1, Pt.gi IntKind.i64 (σ.I 1)), (6, Pt.p 0 0), (7, Pt.gr 8 (32 : TypeId) [PK.int IntKind.i64, PK.int IntKind.i64, PK.int IntKind.i64, PK.str] (tksR (σ.R 4) (σ.I 1) (cutR (σ.S 0) (1 : Int))))] [(0, [(0,
    Pt.gs (tksL (cutR (σ.S 0) (1 : Int))))])] [4]) (Po.leaf Ex.ret [(1, Pt.gi IntKind.i64 (σ.I 1)), (6, Pt.p 0 0), (4, Pt.c (Value.slice none 0 0)), (5, Pt.gb false)] [(0, [(0, Pt.gs (tksL (cutR (σ.S 0) (1 : Int))))])] [4]) = Po.ite (tksO (σ.S 0)) (Po.leaf (Ex.exit 0) [(1, Pt.gi IntKind.i64 (σ.I
    1)), (6, Pt.p 0 0), (7, Pt.gr 8 (32 : TypeId) [PK.int IntKind.i64, PK.int IntKind.i64, PK.int IntKind.i64, PK.str] x5)] [(0, [(0, Pt.gs (tksL (σ.S 0)))])] [4]) (Po.leaf Ex.ret [(1, Pt.gi IntKind.i64 (σ.I 1)), (6, Pt.p 0 0), (4, Pt.c (Value.slice none 0 0)), (5, Pt.gb false)] [(0,
    [(0, Pt.gs (tksL (σ.S 0)))])] [4]) ∧ x6) ∧ (x3 = false → (x7 = true → x9) ∧ (x7 = false → (True ∧ 1 ≤ (σ.S 0).size ∧ (σ.S 0).size ≤ 65536) ∧ ((!nxO (σ.S 0)) = true → true = true ∧ (tksO (σ.S 0) = true → Ex.exit 0 = Ex.ret ∧ true = true ∧ False) ∧ (tksO (σ.S 0) = false → Ex.ret = Ex.ret ∧ true =
    true ∧ (x8 ∧ false = false) ∧ x10 = tksL (σ.S 0))) ∧ ((!nxO (σ.S 0)) = false → (x4 ∧ True ∧ x12 ≤ 9223372036854775807 ∧ x12 * 40 ≤ 140737488355328) ∧ true = true ∧ true = true ∧ (True ∧ x12 = x12) ∧ x12 + x13 ≤ 65536 ∧ x13 < (σ.S 0).size ∧ Po.ite (tksO x10) (Po.leaf (Ex.exit 0) [(1, Pt.gi
    IntKind.i64 (σ.I 1)), (6, Pt.p 0 0), (7, Pt.gr 8 (32 : TypeId) [PK.int IntKind.i64, PK.int IntKind.i64, PK.int IntKind.i64, PK.str] (tksR x11 (σ.I 1) x10))] [(0, [(0, Pt.gs (tksL x10))])] [4]) (Po.leaf Ex.ret [(1, Pt.gi IntKind.i64 (σ.I 1)), (6, Pt.p 0 0), (4, Pt.c (Value.slice
    none 0 0)), (5, Pt.gb false)] [(0, [(0, Pt.gs (tksL x10))])] [4]) = Po.ite (tksO (σ.S 0)) (Po.leaf (Ex.exit 0) [(1, Pt.gi IntKind.i64 (σ.I 1)), (6, Pt.p 0 0), (7, Pt.gr 8 (32 : TypeId) [PK.int IntKind.i64, PK.int IntKind.i64, PK.int IntKind.i64, PK.str] x5)] [(0, [(0, Pt.gs (tksL
    (σ.S 0)))])] [4]) (Po.leaf Ex.ret [(1, Pt.gi IntKind.i64 (σ.I 1)), (6, Pt.p 0 0), (4, Pt.c (Value.slice none 0 0)), (5, Pt.gb false)] [(0, [(0, Pt.gs (tksL (σ.S 0)))])] [4]) ∧ x6)))) ∧ (x0 = false → x9)) := by kernel_rfl

theorem tks_goal (σ : Dt) (α : At') : (cTks.goal Tryd.prog LtksL.mk' 1000 Tryd.f36 σ α) = (
let x0 := tksR [] (σ.I 1) (σ.S 0);
let x1 := x0.length;
let x2 := (↑x1 : Int);
let x3 := decide (x2 > (0 : Int));
let x4 := x1 = x1;
let x5 := x0 ++ [[Value.int IntKind.i64 (6 : Int), Value.int IntKind.i64 (σ.I 1), Value.int IntKind.i64 (0 : Int), Value.string (ByteArray.mk (#[]))]];
let x6 := x5.length;
((True ∧ 0 = 0) ∧ 0 + (σ.S 0).size ≤ 65536) ∧ (tksO (σ.S 0) = true → (x3 = true → (x4 ∧ True ∧ x6 ≤ 9223372036854775807 ∧ x6 * 40 ≤ 140737488355328) ∧ True ∧ Ex.ret = Ex.ret ∧ true = true ∧ (True ∧ x6 = x6 ∧ x5 = lnR (σ.I 1) (σ.S 0)) ∧ true = lnO (σ.S 0)) ∧ (x3 = false → True ∧ Ex.ret = Ex.ret ∧
    true = true ∧ (True ∧ x4 ∧ x0 = lnR (σ.I 1) (σ.S 0)) ∧ true = lnO (σ.S 0))) ∧ (tksO (σ.S 0) = false → True ∧ Ex.ret = Ex.ret ∧ true = true ∧ (True ∧ 0 = 0 ∧ [] = lnR (σ.I 1) (σ.S 0)) ∧ false = lnO (σ.S 0))) := by kernel_rfl

end Go.Proofs.YtfjldllegmfooaaDoor.Lx
end

section
/- The tokens of a line: shown. No condition. -/
set_option maxRecDepth 100000
namespace Go.Proofs.YtfjldllegmfooaaDoor.Lx
open Go.RowKit Go.IntWalk Go.Proofs.YtfjldllegmfooaaDoor.X

theorem nx_ok {l : Bs} (h : (nx l).2.2.2.2 = true) : nextT l = some (⟨(nx l).1, (nx l).2.1, (nx l).2.2.1⟩, (nx l).2.2.2.1) := by
  unfold nx at h ⊢
  by_cases hf : isFst (byt l 0) = true
  · rw [if_pos hf] at h ⊢
    have h := of_decide_eq_true h
    unfold nextT
    simp only [hf, if_true]
    rw [if_pos h]
  · rw [if_neg hf] at h ⊢
    cases hn : nextT l with
    | none => rw [hn] at h; cases h
    | some q => rfl
theorem nx_bad {l : Bs} (h : (nx l).2.2.2.2 = false) : nextT l = none := by
  unfold nx at h
  by_cases hf : isFst (byt l 0) = true
  · rw [if_pos hf] at h
    have h := of_decide_eq_false h
    unfold nextT
    simp only [hf, if_true]
    rw [if_neg h]
  · rw [if_neg hf] at h
    cases hn : nextT l with
    | none => rfl
    | some q => rw [hn] at h; cases h
theorem leftF_fuel : ∀ (k : Nat) (l : Bs), l.length ≤ k → leftF k l = leftF l.length l
  | k, [], _ => by cases k <;> rfl
  | 0, _ :: _, h => by simp at h
  | k + 1, c :: r, h => by
    have hr : r.length ≤ k := by simpa using h
    rw [List.length_cons, leftF, leftF]
    split
    · exact leftF_fuel k r hr
    · split
      · rfl
      · dsimp only
        cases ho : (nx (c :: r)).2.2.2.2 with
        | false => rw [if_neg (by simp), if_neg (by simp)]
        | true =>
          rw [if_pos rfl, if_pos rfl]
          have hp := next_pos (nx_ok ho)
          have hp : 1 ≤ (nx (c :: r)).2.2.2.1 := hp
          have hl : ((c :: r).drop (nx (c :: r)).2.2.2.1).length ≤ r.length := by rw [List.length_drop, List.length_cons]; omega
          generalize (c :: r).drop (nx (c :: r)).2.2.2.1 = d at hl
          rw [leftF_fuel k _ (by omega), leftF_fuel r.length _ hl]
def leftX (l : Bs) : Bs := leftF l.length l
theorem tk_nil : lineX [] = some [] ∧ leftX [] = [] := ⟨rfl, rfl⟩
theorem tk_skip {l : Bs} (h0 : l ≠ []) (h : byt l 0 = 32 ∨ byt l 0 = 9) : lineX l = lineX (l.drop 1) ∧ leftX l = leftX (l.drop 1) := by
  cases l with
  | nil => exact absurd rfl h0
  | cons c r =>
    have h : c = 32 ∨ c = 9 := h
    unfold lineX leftX
    rw [List.length_cons, lineF, leftF, if_pos h, if_pos h]
    exact ⟨rfl, rfl⟩
theorem tk_note {l : Bs} (h : byt l 0 = 35) : lineX l = some [] ∧ leftX l = l := by
  cases l with
  | nil => exact ⟨rfl, rfl⟩
  | cons c r =>
    have h : c = 35 := h
    subst h
    unfold lineX leftX
    exact ⟨by rw [List.length_cons, lineF, if_neg (by decide), if_pos rfl], by rw [List.length_cons, leftF, if_neg (by decide), if_pos rfl]⟩
theorem tk_bad {l : Bs} (h0 : l ≠ []) (h1 : ¬ (byt l 0 = 32 ∨ byt l 0 = 9)) (h2 : byt l 0 ≠ 35) (h : (nx l).2.2.2.2 = false) : lineX l = none ∧ leftX l = l.drop (nx l).2.2.2.1 := by
  cases l with
  | nil => exact absurd rfl h0
  | cons c r =>
    have h1 : ¬ (c = 32 ∨ c = 9) := h1
    have h2 : ¬ c = 35 := h2
    unfold lineX leftX
    rw [List.length_cons, lineF, leftF, if_neg h1, if_neg h1, if_neg h2, if_neg h2, nx_bad h]
    dsimp only
    rw [h]
    exact ⟨rfl, rfl⟩
theorem tk_next {l : Bs} (h0 : l ≠ []) (h1 : ¬ (byt l 0 = 32 ∨ byt l 0 = 9)) (h2 : byt l 0 ≠ 35) (h : (nx l).2.2.2.2 = true) :
    lineX l = (lineX (l.drop (nx l).2.2.2.1)).map ((⟨(nx l).1, (nx l).2.1, (nx l).2.2.1⟩ : Tok) :: ·) ∧ leftX l = leftX (l.drop (nx l).2.2.2.1) ∧ 1 ≤ (nx l).2.2.2.1 := by
  refine ⟨lineX_next (nx_ok h), ?_, next_pos (nx_ok h)⟩
  have hp := next_pos (nx_ok h)
  cases l with
  | nil => exact absurd rfl h0
  | cons c r =>
    have h1 : ¬ (c = 32 ∨ c = 9) := h1
    have h2 : ¬ c = 35 := h2
    unfold leftX
    rw [List.length_cons, leftF, if_neg h1, if_neg h2]
    dsimp only
    rw [h, if_pos rfl]
    have hp : 1 ≤ (nx (c :: r)).2.2.2.1 := hp
    have hl : ((c :: r).drop (nx (c :: r)).2.2.2.1).length ≤ r.length := by rw [List.length_drop, List.length_cons]; omega
    exact leftF_fuel r.length _ hl
theorem cutR_data (s : ByteArray) (n : Nat) : (cutR s (n : Int)).data.toList = s.data.toList.drop n := by unfold cutR; rw [bs_data, Int.toNat_natCast]
theorem cutR_size (s : ByteArray) (n : Nat) : (cutR s (n : Int)).size = s.size - n := by rw [← data_len, cutR_data, List.length_drop, data_len]
theorem tokR_eq (s : ByteArray) (i : Int) : tokR i ⟨(nx s.data.toList).1, (nx s.data.toList).2.1, (nx s.data.toList).2.2.1⟩ = [Value.int IntKind.i64 (nxK s), Value.int IntKind.i64 i, Value.int IntKind.i64 (nxN s), Value.string (nxX s)] := rfl
theorem good_tksL : Lib.Good Tryd.prog LtksL := lib_loop good_next 3 "lexer.go:207" (by kernel_rfl) lTksL 1000 fun σ α rest hp => by
  refine (tksl_round σ α rest).mpr ?_
  have hp : (σ.R 4).length + (σ.S 0).size ≤ 65536 := hp
  intro x0 x1 x2 x3 x4 x5 x6 x7 x8 x9 x10 x11 x12 x13
  have hL := data_len (σ.S 0)
  have e0 : x0 = !decide ((σ.S 0).data.toList = []) := by
    show (!((σ.S 0).toList == [])) = _
    rw [ByteArray.toList_eq]; congr 1
    rw [Bool.eq_iff_iff, beq_iff_eq, decide_eq_true_iff]
  have e1 : x1 = ((byt (σ.S 0).data.toList 0).toNat : Int) := by show ((_ : Nat) : Int) = _; rw [getD_byt]
  have eb : ∀ n : Nat, n < 256 → (x1 == (n : Int)) = decide (byt (σ.S 0).data.toList 0 = UInt8.ofNat n) := fun n hn => by
    rw [e1, Bool.eq_iff_iff, beq_iff_eq, decide_eq_true_iff]
    constructor
    · intro h; have h := Int.ofNat.inj h; rw [← h, UInt8.ofNat_toNat]
    · intro h; rw [h, UInt8.toNat_ofNat']; congr 1; omega
  have e3 : x3 = decide (byt (σ.S 0).data.toList 0 = 32 ∨ byt (σ.S 0).data.toList 0 = 9) := by
    have a := eb 32 (by decide)
    have b := eb 9 (by decide)
    show (bif x1 == 32 then x1 == 32 else x1 == 9) = _
    rw [show (x1 == 32) = _ from a, show (x1 == 9) = _ from b]
    by_cases h : byt (σ.S 0).data.toList 0 = 32 <;> by_cases h' : byt (σ.S 0).data.toList 0 = 9 <;> simp [h, h']
  have e7 : x7 = decide (byt (σ.S 0).data.toList 0 = 35) := eb 35 (by decide)
  have g9 : lineX (σ.S 0).data.toList = some [] → leftX (σ.S 0).data.toList = (σ.S 0).data.toList → x9 := fun h1 h2 => by
    have t1 : tksO (σ.S 0) = true := by show (lineX _).isSome = _; rw [h1]; rfl
    have t2 : x5 = σ.R 4 := by
      show (match lineX (σ.S 0).data.toList with | none => _ | some q => _) = _
      rw [h1]; simp
    have t3 : tksL (σ.S 0) = σ.S 0 := by show bs (leftX _) = _; rw [h2]; exact bs_of _
    refine ⟨rfl, fun _ => ⟨rfl, rfl, ⟨⟨trivial, rfl⟩, rfl, t2.symm⟩, t3.symm⟩, fun h => ?_⟩
    rw [t1] at h; cases h
  refine ⟨rfl, fun h0 => ?_, fun h0 => ?_⟩
  · rw [e0] at h0
    have hne : (σ.S 0).data.toList ≠ [] := by simpa using h0
    have hpos : 1 ≤ (σ.S 0).size := by
      rw [← hL]; exact List.length_pos_iff.2 hne
    refine ⟨⟨Int.le_refl _, by omega⟩, fun h3 => ?_, fun h3 => ⟨fun h7 => ?_, fun h7 => ⟨⟨trivial, hpos, by omega⟩, fun ho => ?_, fun ho => ?_⟩⟩⟩
    · rw [e3] at h3
      obtain ⟨s1, s2⟩ := tk_skip hne (of_decide_eq_true h3)
      have c1 := cutR_data (σ.S 0) 1
      have c2 := cutR_size (σ.S 0) 1
      have t1 : tksO (cutR (σ.S 0) (1 : Int)) = tksO (σ.S 0) := by
        show (lineX _).isSome = (lineX _).isSome
        rw [show (cutR (σ.S 0) (1 : Int)).data.toList = _ from c1, s1]
      have t2 : tksR (σ.R 4) (σ.I 1) (cutR (σ.S 0) (1 : Int)) = x5 := by
        show (match lineX _ with | none => _ | some q => _) = (match lineX _ with | none => _ | some q => _)
        rw [show (cutR (σ.S 0) (1 : Int)).data.toList = _ from c1, s1]
      have t3 : tksL (cutR (σ.S 0) (1 : Int)) = tksL (σ.S 0) := by
        show bs (leftX _) = bs (leftX _)
        rw [show (cutR (σ.S 0) (1 : Int)).data.toList = _ from c1, s2]
      have c2 : (cutR (σ.S 0) (1 : Int)).size = (σ.S 0).size - 1 := c2
      refine ⟨⟨trivial, by decide, by omega⟩, rfl, rfl, ⟨trivial, rfl⟩, by omega, by omega, ?_, rfl⟩
      rw [t1, t2, t3]
    · rw [e7] at h7
      obtain ⟨s1, s2⟩ := tk_note (of_decide_eq_true h7)
      exact g9 s1 s2
    · rw [e3] at h3; rw [e7] at h7
      obtain ⟨s1, s2⟩ := tk_bad hne (of_decide_eq_false h3) (of_decide_eq_false h7) (by revert ho; show (!nxO _) = true → nxO _ = false; cases nxO (σ.S 0) <;> simp)
      have t1 : tksO (σ.S 0) = false := by show (lineX _).isSome = _; rw [s1]; rfl
      have t3 : tksL (σ.S 0) = x10 := by
        show bs (leftX _) = bs _
        rw [s2]; unfold nxL; rw [Int.toNat_natCast]
      refine ⟨rfl, fun h => ?_, fun _ => ⟨rfl, rfl, ⟨⟨trivial, rfl⟩, rfl⟩, t3.symm⟩⟩
      rw [t1] at h; cases h
    · rw [e3] at h3; rw [e7] at h7
      obtain ⟨s1, s2, s3⟩ := tk_next hne (of_decide_eq_false h3) (of_decide_eq_false h7) (by revert ho; show (!nxO _) = false → nxO _ = true; cases nxO (σ.S 0) <;> simp)
      have c1 : x10.data.toList = (σ.S 0).data.toList.drop (nx (σ.S 0).data.toList).2.2.2.1 := cutR_data (σ.S 0) _
      have c2 : x13 = (σ.S 0).size - (nx (σ.S 0).data.toList).2.2.2.1 := cutR_size (σ.S 0) _
      have t1 : tksO x10 = tksO (σ.S 0) := by
        show (lineX _).isSome = (lineX _).isSome
        rw [c1, s1, Option.isSome_map]
      have hl : x12 = (σ.R 4).length + 1 := by show (σ.R 4 ++ [_]).length = _; simp
      have t3 : tksL x10 = tksL (σ.S 0) := by
        show bs (leftX _) = bs (leftX _)
        rw [c1, s2]
      refine ⟨⟨rfl, trivial, by omega, by omega⟩, rfl, rfl, ⟨trivial, rfl⟩, by omega, by omega, ?_, rfl⟩
      rw [t1, t3]
      have t2 : tksR x11 (σ.I 1) x10 = x5 := by
        show (match lineX _ with | none => _ | some q => _) = (match lineX _ with | none => _ | some q => _)
        rw [c1, s1]
        cases hq : lineX ((σ.S 0).data.toList.drop (nx (σ.S 0).data.toList).2.2.2.1) with
        | none => rfl
        | some q =>
          show (σ.R 4 ++ [_]) ++ q.map (tokR (σ.I 1)) = σ.R 4 ++ (_ :: q).map (tokR (σ.I 1))
          rw [List.append_assoc]; rfl
      rw [t2]
  · rw [e0] at h0
    have hn : (σ.S 0).data.toList = [] := by simpa using h0
    exact g9 (by rw [hn]; rfl) (by rw [hn]; rfl)
theorem lineF_len : ∀ (k : Nat) (l : Bs) (q : List Tok), lineF k l = some q → q.length ≤ k
  | k, [], q, h => by
    have : q = [] := by cases k <;> simpa [lineF] using h.symm
    rw [this]; simp
  | 0, _ :: _, q, h => by simp [lineF] at h
  | k + 1, c :: r, q, h => by
    rw [lineF] at h
    split at h
    · have := lineF_len k r q h; omega
    · split at h
      · simp only [Option.some.injEq] at h; subst h; simp
      · split at h
        · cases h
        · rename_i t0 n hn
          obtain ⟨q', hq, rfl⟩ := Option.map_eq_some_iff.1 h
          have := lineF_len k _ q' hq
          simp only [List.length_cons]; omega
def endsT : List Tok → List Tok
  | [] => []
  | a :: q => a :: q ++ [endT]
theorem lineT_X {l : Bs} {q : List Tok} (h : lineX l = some q) : lineT l = some (endsT q) := by
  unfold lineT
  rw [show lineF _ _ = _ from h]
  cases q <;> rfl
theorem lineT_N {l : Bs} (h : lineX l = none) : lineT l = none := by
  unfold lineT
  rw [show lineF _ _ = _ from h]; rfl
theorem good_tks : Lib.Good Tryd.prog Ltks := lib_con good_tksL Tryd.func36 cTks 1000 fun σ α hp => by
  rw [tks_goal]
  have hp : (σ.S 0).size ≤ 65536 := hp
  intro x0 x1 x2 x3 x4 x5 x6
  have hL := data_len (σ.S 0)
  refine ⟨⟨⟨trivial, rfl⟩, by omega⟩, fun h => ?_, fun h => ?_⟩
  · have h : (lineX (σ.S 0).data.toList).isSome = true := h
    obtain ⟨q, hq⟩ := Option.isSome_iff_exists.1 h
    have hlen := lineF_len _ _ _ hq
    have e0 : x0 = q.map (tokR (σ.I 1)) := by
      show (match lineX (σ.S 0).data.toList with | none => _ | some q => _) = _
      rw [hq]; rfl
    have e1 : x1 = q.length := by show x0.length = _; rw [e0, List.length_map]
    have el := lineT_X hq
    have eo : lnO (σ.S 0) = true := by unfold lnO; rw [el]; rfl
    have er : lnR (σ.I 1) (σ.S 0) = (endsT q).map (tokR (σ.I 1)) := by unfold lnR; rw [el]; rfl
    have e3 : x3 = decide (q ≠ []) := decide_eq_decide.2 (by show x2 > 0 ↔ _; rw [show x2 = ((q.length : Nat) : Int) from congrArg _ e1]; cases q <;> simp)
    have e6 : x6 = q.length + 1 := by show (x0 ++ [_]).length = _; rw [e0]; simp
    refine ⟨fun h3 => ?_, fun h3 => ?_⟩
    · rw [e3] at h3
      have hne : q ≠ [] := of_decide_eq_true h3
      refine ⟨⟨rfl, trivial, by omega, by omega⟩, trivial, rfl, rfl, ⟨trivial, rfl, ?_⟩, eo.symm⟩
      rw [er]
      show x0 ++ [_] = _
      rw [e0]
      cases q with
      | nil => exact absurd rfl hne
      | cons a q => rw [endsT, List.map_append]; rfl
    · rw [e3] at h3
      have hn : q = [] := by simpa using h3
      refine ⟨trivial, rfl, rfl, ⟨trivial, rfl, ?_⟩, eo.symm⟩
      rw [er, e0, hn]; rfl
  · have h : (lineX (σ.S 0).data.toList).isSome = false := h
    have hq : lineX (σ.S 0).data.toList = none := by simpa using h
    have el := lineT_N hq
    exact ⟨trivial, rfl, rfl, ⟨trivial, rfl, by unfold lnR; rw [el]; rfl⟩, by unfold lnO; rw [el]; rfl⟩
end Go.Proofs.YtfjldllegmfooaaDoor.Lx
end

section
/- The tokens of a text: contracts. No condition. -/
namespace Go.Proofs.YtfjldllegmfooaaDoor.Lx
open Go.RowKit Go.IntWalk Go.Proofs.YtfjldllegmfooaaDoor.X

def strsOf (xs : List (List Value)) : List Bs := xs.map fun r => (asS (r.getD 0 undef)).data.toList
def bulk (ls : List Bs) : Nat := (ls.map fun l => l.length + 1).sum
def toksR (r : List (Nat × Tok)) : List (List Value) := r.map fun q => tokR q.1 q.2
/-- The tokens of the lines from number i on. -/
def lsT (xs : List (List Value)) (i : Int) : Except Nat (List (Nat × Tok)) := linesT (i.toNat + 1) ((strsOf xs).drop i.toNat)
def lsO (xs : List (List Value)) (i : Int) : Bool := match lsT xs i with
  | .ok _ => true
  | .error _ => false
def lsR (ys xs : List (List Value)) (i : Int) : List (List Value) := match lsT xs i with
  | .ok r => ys ++ toksR r
  | .error _ => []
def lsN (xs : List (List Value)) (i : Int) : Int := match lsT xs i with
  | .ok _ => 0
  | .error n => n
def cAllL : Con where
  ps := [.r 4 32 tokK, .r 0 9 [.str], .i .i64 9, .i .i64 8]
  bl := []
  top := 10
  pre := fun σ => (σ.R 0).length ≤ 65537 ∧ 0 ≤ σ.I 8 ∧ σ.I 9 = (σ.R 0).length ∧ σ.I 8 ≤ σ.I 9 ∧ (σ.R 4).length + bulk ((strsOf (σ.R 0)).drop (σ.I 8).toNat) ≤ 65537
  post := fun σ => .ite (lsO (σ.R 0) (σ.I 8))
    (.leaf (.exit 0) [(30, .k 0 (σ.R 0).length), (31, .gi .i64 (σ.I 9)), (2, .gr 10 32 tokK (lsR (σ.R 4) (σ.R 0) (σ.I 8)))] [] [4])
    (.leaf .ret [(30, .k 0 (σ.R 0).length), (31, .gi .i64 (σ.I 9)), (2, .c (.slice none 0 0)), (3, .gi .i64 (lsN (σ.R 0) (σ.I 8))), (4, .gi .i64 100)] [] [4])
noncomputable def bAllL : Code := loopAt Tryd.prog 9 "lexer.go:240"
noncomputable def lAllL : LCon := { c := cAllL, sl := [2, 30, 31, 32], nt := Tryd.f12.ntmps, hv := nubN (writes bAllL) [], meas := fun σ => (σ.I 9 - σ.I 8).toNat, mvr := [4] }
noncomputable def LallL : Lib := { Ltks with ls := (9, "lexer.go:240", lAllL) :: Ltks.ls }
def allR (s : ByteArray) : List (List Value) := match allT s.data.toList with
  | .ok r => toksR r
  | .error _ => []
def allL (s : ByteArray) : Int := match allT s.data.toList with
  | .ok _ => 0
  | .error q => q.1
def allE (s : ByteArray) : Int := match allT s.data.toList with
  | .ok _ => 0
  | .error q => q.2
def cAll : Con where
  ps := [.s 0]
  bl := []
  top := 0
  pre := fun _ => True
  post := fun σ => .leaf .ret [(0, .t [.gr 0 32 tokK (allR (σ.S 0)), .gi .i64 (allL (σ.S 0)), .gi .i64 (allE (σ.S 0))])] [] []
noncomputable def Lall : Lib := { LallL with cs := (12, cAll) :: LallL.cs }
end Go.Proofs.YtfjldllegmfooaaDoor.Lx
end

section
/- Written by vc.py: what is to be shown, read out. No condition. -/
set_option maxRecDepth 1000000
set_option maxHeartbeats 0
namespace Go.Proofs.YtfjldllegmfooaaDoor.Lx
open Go.RowKit Go.Proofs.YtfjldllegmfooaaDoor.X
theorem alll_round (σ : Dt) (α : At') (rest : Nat → Value) : (lAllL.goal Tryd.prog Ltks.mk' 1000 bAllL σ α rest) = (
let x0 := decide (σ.I 8 < σ.I 9);
let x1 := asS (((σ.R 0).getD (σ.I 8).toNat []).getD 0 (Value.tuple #[]));
let x2 := !lnO x1;
let x3 := lsO (σ.R 0) (σ.I 8) = true;
let x4 := lsO (σ.R 0) (σ.I 8) = false;
let x5 := (σ.R 0).length = (σ.R 0).length;
let x6 := (True ∧ x5) ∧ σ.I 9 = σ.I 9;
let x7 := IntKind.i64.wrap (σ.I 8 + (1 : Int));
let x8 := x5 ∧ σ.R 0 = σ.R 0;
let x9 := (σ.R 4).length = (σ.R 4).length;
let x10 := lnR x7 x1;
let x11 := x10.length;
let x12 := σ.R 4 ++ List.take x11 x10;
let x13 := x12.length;
let x14 := lsR (σ.R 4) (σ.R 0) (σ.I 8);
true = true ∧ (x0 = true → ((0 : Int) ≤ σ.I 8 ∧ σ.I 8 < (↑(σ.R 0).length : Int) ∧ (σ.R 0).length ≤ (σ.R 0).length) ∧ (σ.I 8).toNat < (σ.R 0).length ∧ (True ∧ x1.size ≤ 65536) ∧ (x2 = true → true = true ∧ (x3 → Ex.exit 0 = Ex.ret ∧ true = true ∧ False) ∧ (x4 → Ex.ret = Ex.ret ∧ true = true ∧ ((x6 ∧
    x7 = lsN (σ.R 0) (σ.I 8)) ∧ (100 : Int) = (100 : Int)) ∧ x8)) ∧ (x2 = false → (x9 ∧ x11 ≤ x11 ∧ x13 ≤ 9223372036854775807 ∧ x13 * 40 ≤ 140737488355328) ∧ true = true ∧ true = true ∧ ((True ∧ x13 = x13) ∧ x5) ∧ ((σ.R 0).length ≤ 65537 ∧ (0 : Int) ≤ x7 ∧ σ.I 9 = (↑(σ.R 0).length : Int) ∧ x7 ≤ σ.I
    9 ∧ x13 + bulk (List.drop x7.toNat (strsOf (σ.R 0))) ≤ 65537) ∧ (σ.I 9 - x7).toNat < (σ.I 9 - σ.I 8).toNat ∧ Po.ite (lsO (σ.R 0) x7) (Po.leaf (Ex.exit 0) [(30, Pt.k 0 (σ.R 0).length), (31, Pt.gi IntKind.i64 (σ.I 9)), (2, Pt.gr 10 (32 : TypeId) [PK.int IntKind.i64, PK.int
    IntKind.i64, PK.int IntKind.i64, PK.str] (lsR x12 (σ.R 0) x7))] [] [4]) (Po.leaf Ex.ret [(30, Pt.k 0 (σ.R 0).length), (31, Pt.gi IntKind.i64 (σ.I 9)), (2, Pt.c (Value.slice none 0 0)), (3, Pt.gi IntKind.i64 (lsN (σ.R 0) x7)), (4, Pt.gi IntKind.i64 (100 : Int))] [] [4]) = Po.ite (lsO (σ.R 0) (σ.I
    8)) (Po.leaf (Ex.exit 0) [(30, Pt.k 0 (σ.R 0).length), (31, Pt.gi IntKind.i64 (σ.I 9)), (2, Pt.gr 10 (32 : TypeId) [PK.int IntKind.i64, PK.int IntKind.i64, PK.int IntKind.i64, PK.str] x14)] [] [4]) (Po.leaf Ex.ret [(30, Pt.k 0 (σ.R 0).length), (31, Pt.gi IntKind.i64 (σ.I 9)), (2,
    Pt.c (Value.slice none 0 0)), (3, Pt.gi IntKind.i64 (lsN (σ.R 0) (σ.I 8))), (4, Pt.gi IntKind.i64 (100 : Int))] [] [4]) ∧ asSt ([], [(0, (9 : TypeId), [PK.str], σ.R 0)]) = ([], [(0, (9 : TypeId), [PK.str], σ.R 0)]))) ∧ (x0 = false → true = true ∧ (x3 → Ex.exit 0 = Ex.exit 0 ∧
    true = true ∧ (x6 ∧ x9 ∧ σ.R 4 = x14) ∧ x8) ∧ (x4 → Ex.ret = Ex.exit 0 ∧ true = true ∧ False))) := by kernel_rfl

theorem all_goal (σ : Dt) (α : At') : (cAll.goal Tryd.prog LallL.mk' 1000 Tryd.f12 σ α) = (
let x0 := decide ((↑(σ.S 0).size : Int) > (65536 : Int));
let x1 := True ∧ 0 = 0 ∧ [] = allR (σ.S 0);
let x2 := True ∧ Ex.ret = Ex.ret ∧ true = true ∧ (x1 ∧ (0 : Int) = allL (σ.S 0)) ∧ (6 : Int) = allE (σ.S 0);
let x3 := (↑(split (σ.S 0).data.toList).length : Int);
let x4 := IntKind.i64.wrap (x3 - (1 : Int));
let x5 := (0 : Int) ≤ x4;
let x6 := x4.toNat;
let x7 := (asS (((rowsS (split (σ.S 0).data.toList)).getD x6 []).getD 0 (Value.tuple #[]))).toList == [];
let x8 := bif x7 then x6 else (split (σ.S 0).data.toList).length;
let x9 := (↑x8 : Int);
let x10 := decide (x9 > (4000 : Int));
let x11 := bif x7 then List.take x6 (rowsS (split (σ.S 0).data.toList)) else rowsS (split (σ.S 0).data.toList);
let x12 := x11.length;
let x13 := lsO x11 (0 : Int);
let x14 := lsR [] x11 (0 : Int);
let x15 := x14.length;
(x0 = true → x2) ∧ (x0 = false → ((σ.S 0).size < 4294967281 ∧ [(10 : UInt8)] = [(10 : UInt8)]) ∧ (x5 ∧ x4 < x3 ∧ (split (σ.S 0).data.toList).length ≤ (rowsS (split (σ.S 0).data.toList)).length) ∧ x6 < (rowsS (split (σ.S 0).data.toList)).length ∧ (x7 = true → x5 ∧ x4 ≤ (↑(rowsS (split (σ.S
    0).data.toList)).length : Int)) ∧ (x10 = true → x2) ∧ (x10 = false → (((True ∧ 0 = 0) ∧ x8 = x12) ∧ x12 ≤ 65537 ∧ (0 : Int) ≤ (0 : Int) ∧ x9 = (↑x12 : Int) ∧ (0 : Int) ≤ x9 ∧ 0 + bulk (List.drop 0 (strsOf x11)) ≤ 65537) ∧ (x13 = true → True ∧ Ex.ret = Ex.ret ∧ true = true ∧ ((True ∧ x15 = x15 ∧
    x14 = allR (σ.S 0)) ∧ (0 : Int) = allL (σ.S 0)) ∧ (0 : Int) = allE (σ.S 0)) ∧ (x13 = false → True ∧ Ex.ret = Ex.ret ∧ true = true ∧ (x1 ∧ lsN x11 (0 : Int) = allL (σ.S 0)) ∧ (100 : Int) = allE (σ.S 0))))) := by kernel_rfl

end Go.Proofs.YtfjldllegmfooaaDoor.Lx
end

section
/- The tokens of a text: shown. No condition. -/
set_option maxRecDepth 100000
namespace Go.Proofs.YtfjldllegmfooaaDoor.Lx
open Go.RowKit Go.IntWalk Go.Proofs.YtfjldllegmfooaaDoor.X

theorem getD_in {α : Type} (l : List α) (d : α) {i : Nat} (h : i < l.length) : l.getD i d = l[i] := by rw [List.getD_eq_getElem?_getD, List.getElem?_eq_getElem h]; rfl
theorem rows_at (ls : List Bs) {i : Nat} (h : i < ls.length) : asS (((rowsS ls).getD i []).getD 0 undef) = bs ls[i] := by
  unfold rowsS
  rw [getD_in (ls.map fun l => [Value.string (bs l)]) [] (by rw [List.length_map]; exact h), List.getElem_map]; rfl
theorem strs_at {xs : List (List Value)} {i : Nat} (h : i < xs.length) : (strsOf xs).drop i = (asS ((xs.getD i []).getD 0 undef)).data.toList :: (strsOf xs).drop (i + 1) := by
  unfold strsOf
  rw [List.drop_eq_getElem_cons (by rw [List.length_map]; exact h), List.getElem_map, getD_in xs [] h]
theorem bulk_cons (l : Bs) (ls : List Bs) : bulk (l :: ls) = l.length + 1 + bulk ls := by simp [bulk]
theorem bulk_app (a b : List Bs) : bulk (a ++ b) = bulk a + bulk b := by simp [bulk]
theorem lineT_len {l : Bs} {ts : List Tok} (h : lineT l = some ts) : ts.length ≤ l.length + 1 := by
  cases hq : lineX l with
  | none => rw [lineT_N hq] at h; cases h
  | some q =>
    rw [lineT_X hq] at h
    simp only [Option.some.injEq] at h
    subst h
    have := lineF_len _ _ _ hq
    cases q with
    | nil => simp [endsT]
    | cons a q => simp [endsT] at this ⊢; omega
theorem lsT_stop {xs : List (List Value)} {i : Int} (h : ¬ i.toNat < xs.length) : lsT xs i = .ok [] := by
  unfold lsT
  rw [List.drop_of_length_le (by unfold strsOf; rw [List.length_map]; omega)]; rfl
theorem lsT_bad {xs : List (List Value)} {i : Int} (h : i.toNat < xs.length) (hb : lineT (asS ((xs.getD i.toNat []).getD 0 undef)).data.toList = none) : lsT xs i = .error (i.toNat + 1) := by
  unfold lsT
  rw [strs_at h, linesT, hb]
theorem lsT_next {xs : List (List Value)} {i : Int} (h0 : 0 ≤ i) (h : i.toNat < xs.length) {ts : List Tok} (hb : lineT (asS ((xs.getD i.toNat []).getD 0 undef)).data.toList = some ts) :
    lsT xs i = match lsT xs (i + 1) with
      | .error m => .error m
      | .ok r => .ok (ts.map (fun t => (i.toNat + 1, t)) ++ r) := by
  unfold lsT
  rw [strs_at h, linesT, hb, show (i + 1).toNat = i.toNat + 1 by omega]
  first | done | (cases linesT (i.toNat + 1 + 1) ((strsOf xs).drop (i.toNat + 1)) <;> rfl)
theorem good_allL : Lib.Good Tryd.prog LallL := lib_loop good_tks 9 "lexer.go:240" (by kernel_rfl) lAllL 1000 fun σ α rest hp => by
  refine (alll_round σ α rest).mpr ?_
  obtain ⟨hm, h0, h9, h1, hb⟩ := (show (σ.R 0).length ≤ 65537 ∧ 0 ≤ σ.I 8 ∧ σ.I 9 = (σ.R 0).length ∧ σ.I 8 ≤ σ.I 9 ∧ (σ.R 4).length + bulk ((strsOf (σ.R 0)).drop (σ.I 8).toNat) ≤ 65537 from hp)
  intro x0 x1 x2 x3 x4 x5 x6 x7 x8 x9 x10 x11 x12 x13 x14
  refine ⟨rfl, fun h => ?_, fun h => ?_⟩
  · have hlt : σ.I 8 < σ.I 9 := of_decide_eq_true h
    have hlt' : (σ.I 8).toNat < (σ.R 0).length := by omega
    have e7 : x7 = σ.I 8 + 1 := i64_in _ (by omega)
    have hd := strs_at hlt'
    rw [hd, bulk_cons, data_len] at hb
    have hx1 : x1.size = (asS (((σ.R 0).getD (σ.I 8).toNat []).getD 0 undef)).size := rfl
    have hz : x1.size ≤ 65536 := by omega
    refine ⟨⟨h0, by omega, Nat.le_refl _⟩, hlt', ⟨trivial, hz⟩, fun h2 => ?_, fun h2 => ?_⟩
    · have hq : lineT x1.data.toList = none := by
        have : (!lnO x1) = true := h2
        unfold lnO at this; simpa using this
      have ht := lsT_bad hlt' hq
      refine ⟨rfl, fun h => ?_, fun _ => ⟨rfl, rfl, ⟨⟨⟨⟨trivial, rfl⟩, rfl⟩, ?_⟩, rfl⟩, rfl, rfl⟩⟩
      · have h : lsO (σ.R 0) (σ.I 8) = true := h
        unfold lsO at h; rw [ht] at h; cases h
      · show x7 = lsN _ _
        unfold lsN; rw [ht, e7]
        show _ = (((σ.I 8).toNat + 1 : Nat) : Int); omega
    · have hs : (lineT x1.data.toList).isSome = true := by
        have : (!lnO x1) = false := h2
        unfold lnO at this; simpa using this
      obtain ⟨ts, hq⟩ := Option.isSome_iff_exists.1 hs
      have ht := lsT_next h0 hlt' hq
      have hlen := lineT_len hq
      rw [data_len] at hlen
      have e10 : x10 = ts.map (tokR x7) := by show lnR _ _ = _; unfold lnR; rw [hq]; rfl
      have e11 : x11 = ts.length := by show x10.length = _; rw [e10, List.length_map]
      have e12 : x12 = σ.R 4 ++ ts.map (tokR x7) := by show σ.R 4 ++ List.take x11 x10 = _; rw [e10, e11, List.take_of_length_le (by simp)]
      have e13 : x13 = (σ.R 4).length + ts.length := by show x12.length = _; rw [e12]; simp
      have hz' : x1.size + 1 + bulk ((strsOf (σ.R 0)).drop ((σ.I 8).toNat + 1)) + (σ.R 4).length ≤ 65537 := by omega
      have e7' : x7.toNat = (σ.I 8).toNat + 1 := by omega
      have f1 : lsO (σ.R 0) x7 = lsO (σ.R 0) (σ.I 8) := by
        unfold lsO; rw [ht, e7]; cases lsT (σ.R 0) (σ.I 8 + 1) <;> rfl
      have f2 : lsN (σ.R 0) x7 = lsN (σ.R 0) (σ.I 8) := by
        unfold lsN; rw [ht, e7]; cases lsT (σ.R 0) (σ.I 8 + 1) <;> rfl
      have f3 : lsR x12 (σ.R 0) x7 = x14 := by
        show _ = lsR _ _ _
        unfold lsR; rw [ht, e12, e7]
        cases lsT (σ.R 0) (σ.I 8 + 1) with
        | error m => rfl
        | ok r =>
          show (σ.R 4 ++ ts.map (tokR (σ.I 8 + 1))) ++ toksR r = σ.R 4 ++ toksR (ts.map (fun t => ((σ.I 8).toNat + 1, t)) ++ r)
          unfold toksR
          rw [List.map_append, List.map_map, List.append_assoc]
          congr 2
          refine List.map_congr_left fun t _ => ?_
          show tokR (σ.I 8 + 1) t = tokR (((σ.I 8).toNat + 1 : Nat) : Int) t
          rw [show (((σ.I 8).toNat + 1 : Nat) : Int) = σ.I 8 + 1 by omega]
      refine ⟨⟨rfl, Nat.le_refl _, by omega, by omega⟩, rfl, rfl, ⟨⟨trivial, rfl⟩, rfl⟩, ⟨hm, by omega, h9, by omega, by rw [e7']; omega⟩, by omega, by rw [f1, f2, f3], rfl⟩
  · have hge : ¬ σ.I 8 < σ.I 9 := of_decide_eq_false h
    have ht : lsT (σ.R 0) (σ.I 8) = .ok [] := lsT_stop (by omega)
    refine ⟨rfl, fun _ => ⟨rfl, rfl, ⟨⟨⟨trivial, rfl⟩, rfl⟩, rfl, ?_⟩, rfl, rfl⟩, fun h => ?_⟩
    · show _ = lsR _ _ _
      unfold lsR; rw [ht]; simp [toksR]
    · have h : lsO (σ.R 0) (σ.I 8) = false := h
      unfold lsO at h; rw [ht] at h; cases h
theorem strs_rows (ls : List Bs) : strsOf (rowsS ls) = ls := by
  unfold strsOf rowsS
  rw [List.map_map]
  refine (List.map_congr_left fun l _ => ?_).trans (List.map_id ls)
  rfl
theorem split_bulk : ∀ l : Bs, bulk (split l) = l.length + 1
  | [] => rfl
  | c :: r => by
    have ih := split_bulk r
    rw [split]
    split
    · rw [bulk_cons, ih]; simp; omega
    · cases hs : split r with
      | nil => exact absurd hs (split_ne r)
      | cons w ws =>
        rw [hs, bulk_cons] at ih
        simp only [bulk_cons, List.length_cons]; omega
theorem bulk_ge (ls : List Bs) : ls.length ≤ bulk ls := by
  induction ls with
  | nil => simp
  | cons l ls ih => rw [bulk_cons, List.length_cons]; omega
theorem bulk_take (ls : List Bs) (n : Nat) : bulk (ls.take n) ≤ bulk ls := by
  have := bulk_app (ls.take n) (ls.drop n)
  rw [List.take_append_drop] at this; omega
theorem good_all : Lib.Good Tryd.prog Lall := lib_con good_allL Tryd.func12 cAll 1000 fun σ α hp => by
  rw [all_goal]
  intro x0 x1 x2 x3 x4 x5 x6 x7 x8 x9 x10 x11 x12 x13 x14 x15
  have hL := data_len (σ.S 0)
  have hb := split_bulk (σ.S 0).data.toList
  have hne := split_ne (σ.S 0).data.toList
  have hpos : 1 ≤ (split (σ.S 0).data.toList).length := List.length_pos_iff.2 hne
  have hge := bulk_ge (split (σ.S 0).data.toList)
  have hrl : (rowsS (split (σ.S 0).data.toList)).length = (split (σ.S 0).data.toList).length := by unfold rowsS; rw [List.length_map]
  have g2 : allT (σ.S 0).data.toList = .error (0, 6) → x2 := fun h => by
    refine ⟨trivial, rfl, rfl, ⟨⟨trivial, rfl, ?_⟩, ?_⟩, ?_⟩
    · show [] = allR _; unfold allR; rw [h]
    · show 0 = allL _; unfold allL; rw [h]; rfl
    · show 6 = allE _; unfold allE; rw [h]; rfl
  refine ⟨fun h => g2 ?_, fun h => ?_⟩
  · have h : (σ.S 0).size > 65536 := by have := of_decide_eq_true h; omega
    unfold allT; rw [if_pos (by omega)]
  · have hs : (σ.S 0).size ≤ 65536 := by have := of_decide_eq_false h; omega
    have e4 : x4 = x3 - 1 := i64_in _ (by omega)
    have e6 : x6 = (split (σ.S 0).data.toList).length - 1 := by show x4.toNat = _; omega
    have e11 : x11 = rowsS (lines (σ.S 0).data.toList) := by
      have ek : x7 = decide ((split (σ.S 0).data.toList).getLast? = some []) := by
        show ((asS (((rowsS (split (σ.S 0).data.toList)).getD x6 []).getD 0 undef)).toList == []) = _
        have e : (asS (((rowsS (split (σ.S 0).data.toList)).getD x6 []).getD 0 undef)).data.toList = (split (σ.S 0).data.toList).getLast hne := by
          rw [List.getLast_eq_getElem, e6, rows_at _ (by omega)]; rfl
        rw [ByteArray.toList_eq, e, List.getLast?_eq_some_getLast hne, Bool.eq_iff_iff, beq_iff_eq, decide_eq_true_iff]
        simp
      rw [lines_eq]
      show (bif x7 then List.take x6 _ else _) = _
      rw [ek]
      by_cases hk : (split (σ.S 0).data.toList).getLast? = some []
      · rw [if_pos hk, decide_eq_true hk, e6, List.dropLast_eq_take]
        unfold rowsS; rw [← List.map_take]; rfl
      · rw [if_neg hk, decide_eq_false hk]; rfl
    have e12 : x12 = (lines (σ.S 0).data.toList).length := by show x11.length = _; rw [e11]; unfold rowsS; rw [List.length_map]
    have e8 : x8 = x12 := by
      show (bif x7 then x6 else _) = (bif x7 then List.take x6 _ else _).length
      cases x7 with
      | true => show x6 = (List.take x6 _).length; rw [List.length_take]; omega
      | false => exact hrl.symm
    have hlb : bulk (lines (σ.S 0).data.toList) ≤ 65537 := by
      rw [lines_eq]
      split
      · rw [List.dropLast_eq_take]; have := bulk_take (split (σ.S 0).data.toList) ((split (σ.S 0).data.toList).length - 1); omega
      · omega
    have hlg := bulk_ge (lines (σ.S 0).data.toList)
    have es : strsOf x11 = lines (σ.S 0).data.toList := by rw [e11, strs_rows]
    have eT : lsT x11 0 = linesT 1 (lines (σ.S 0).data.toList) := by unfold lsT; rw [es]; rfl
    refine ⟨⟨by omega, rfl⟩, ⟨by omega, by omega, by omega⟩, by omega, fun _ => ⟨by omega, by omega⟩, fun h10 => g2 ?_, fun h10 => ?_⟩
    · have h10 : x9 > 4000 := of_decide_eq_true h10
      unfold allT; rw [if_neg (by omega), if_pos (by omega)]
    · have h10 : ¬ x9 > 4000 := of_decide_eq_false h10
      have ea : allT (σ.S 0).data.toList = match lsT x11 0 with | .error n => .error (n, 100) | .ok r => .ok r := by
        unfold allT; rw [if_neg (by omega), if_neg (by omega), eT]
        first | done | (cases linesT 1 (lines (σ.S 0).data.toList) <;> rfl)
      refine ⟨⟨⟨⟨trivial, rfl⟩, e8⟩, by omega, Int.le_refl _, by omega, by omega, by rw [List.drop_zero, es]; omega⟩, fun ho => ?_, fun ho => ?_⟩
      · have ho : lsO x11 0 = true := ho
        unfold lsO at ho
        cases hq : lsT x11 0 with
        | error m => rw [hq] at ho; cases ho
        | ok r =>
          rw [hq] at ea
          refine ⟨trivial, rfl, rfl, ⟨⟨trivial, rfl, ?_⟩, ?_⟩, ?_⟩
          · show lsR [] x11 0 = allR _; unfold allR lsR; rw [ea, hq]; rfl
          · show 0 = allL _; unfold allL; rw [ea]
          · show 0 = allE _; unfold allE; rw [ea]
      · have ho : lsO x11 0 = false := ho
        unfold lsO at ho
        cases hq : lsT x11 0 with
        | ok r => rw [hq] at ho; cases ho
        | error m =>
          rw [hq] at ea
          refine ⟨trivial, rfl, rfl, ⟨⟨trivial, rfl, ?_⟩, ?_⟩, ?_⟩
          · show [] = allR _; unfold allR; rw [ea]
          · show lsN x11 0 = allL _; unfold allL lsN; rw [ea, hq]
          · show 100 = allE _; unfold allE; rw [ea]; rfl
end Go.Proofs.YtfjldllegmfooaaDoor.Lx
end

section
/- A contract with two ways out, where it is known which way is gone; a law whose arguments are given. No condition. -/
namespace Go.Proofs.YtfjldllegmfooaaDoor.X
open Go.RowKit

/-- One way out of a contract. -/
def Con.way (c : Con) (b : Dt → Bool) (v : Bool) (x : Dt → Po) : Con := { c with pre := fun σ => c.pre σ ∧ b σ = v, post := x }
theorem instT_way (c : Con) (b : Dt → Bool) (v : Bool) (x : Dt → Po) (m : M) : ∀ p : Po, (c.way b v x).instT m p = c.instT m p
  | .leaf _ _ _ _ => rfl
  | .ite q y z => by simp only [Con.instT, instT_way c b v x m y, instT_way c b v x m z]
theorem lib_way {P : Program} {L : Lib} (hL : Lib.Good P L) {g : FuncId} {c : Con} (hfind : ∀ rom, cspec (L.mk' rom) g = some (c.call rom)) (b : Dt → Bool) (v : Bool) (x y : Dt → Po)
    (hpost : ∀ σ, c.post σ = bif v then .ite (b σ) (x σ) (y σ) else .ite (b σ) (y σ) (x σ)) (hwf : ∀ σ, c.wf σ = true) : Lib.Good P { L with cs := (g, c.way b v x) :: L.cs } :=
  lib_cs hL fun rom ags h nx t ht => by
    unfold Con.call at ht
    obtain ⟨m, hm, ht⟩ := Option.bind_eq_some_iff.1 ht
    cases hw : (c.way b v x).wf m.dt with
    | false => rw [hw] at ht; cases ht
    | true =>
      rw [hw] at ht
      simp only [cond_true, Option.some.injEq] at ht
      subst ht
      have h1 := (hL rom).cs g (c.call rom) (hfind rom) ags h nx (.req (m.p ∧ c.pre m.dt) (c.instT m (c.post m.dt))) (by
        unfold Con.call
        rw [show view rom c.ps c.bl ags h nx [] = some m from hm]
        simp only [Option.bind_some, hwf, cond_true])
      rw [instT_way]
      rw [hpost] at h1
      refine ⟨?_, fun F w0 β w K hR hH ha hn hs => ?_⟩
      · cases v with
        | true => exact h1.1.1
        | false => exact h1.1.2
      · refine h1.2 F w0 β w K hR hH ha hn ?_
        obtain ⟨⟨hp, hpre, hb⟩, hs⟩ := hs
        refine ⟨⟨hp, hpre⟩, ?_⟩
        cases v with
        | true => exact ⟨fun _ => hs, fun h => by (rw [hb] at h; cases h)⟩
        | false => exact ⟨fun h => by (rw [hb] at h; cases h), fun _ => hs⟩
/-- A law that hands back true, for these arguments. -/
theorem law_calls1 {P : Program} {L : Lib} (hL : Lib.Good P L) {g : FuncId} {fn : Func} (hf : P.funcs[g]? = some fn) (n : Nat) (ags : List ArgK)
    (vs cs : List Value) (hv : okArgs ags vs cs) (h : SatB P L n fn (argsV (dtL cs) at0 ags 0)) (w : World) (hgl : GlW w := by intro q hq; cases hq) :
    Calls P g vs.toArray w fun e w' => e = .returned (.bool true) ∧ Below w.heap.size w w' := by
  obtain ⟨h1, h2⟩ := argsV_ok at0 cs ags 0 vs cs hv fun j _ => by rw [Nat.zero_add]; rfl
  exact calls_true (hL _) (fun _ _ _ _ h => h) hf n _ vs h1 h2 w hgl h.sat
end Go.Proofs.YtfjldllegmfooaaDoor.X
end

section
/- LexerClean: live, and the loops' contracts. No condition. -/
namespace Go.Proofs.YtfjldllegmfooaaDoor.Lx
open Go.RowKit Go.IntWalk Go.Proofs.YtfjldllegmfooaaDoor.X

noncomputable def LnumW : Lib := Lib.selfs Tryd.prog 100 Lall [15]
theorem good_numW : Lib.Good Tryd.prog LnumW := lib_selfs good_all 100 _
def trueS : List Value → Option Value
  | [] => some (.bool true)
  | _ => none
noncomputable def Llive : Lib := { LnumW with fs := (16, trueS) :: LnumW.fs }

def cCl2 : Con where
  ps := [.p 0 0, .i .i64 5]
  bl := [(0, 32, [.i .i64 1, .i .i64 2, .i .i64 3, .s 4])]
  top := 1
  pre := fun σ => 0 ≤ σ.I 5 ∧ σ.I 5 ≤ (σ.S 4).size ∧ (σ.S 4).size ≤ 65536 ∧ (σ.I 1 ≠ 3 → ∀ c ∈ (σ.S 4).data.toList, 33 ≤ c.toNat ∧ c.toNat ≤ 126)
  post := fun _ => .leaf (.exit 2) [(7, .p 0 0)] [] []
noncomputable def bCl2 : Code := loopAt Tryd.prog 11 "law.go:141"
noncomputable def lCl2 : LCon := { c := cCl2, sl := [7, 8], nt := Tryd.f5.ntmps, hv := nubN (writes bCl2) [], meas := fun σ => ((σ.S 4).size - σ.I 5).toNat }
noncomputable def LCl2 : Lib := { Llive with ls := (11, "law.go:141", lCl2) :: Llive.ls }
/-- What All hands back is clean. -/
def Clean (xs : List (List Value)) : Prop := ∃ r : List (Nat × Tok), xs = toksR r ∧ chainOk r ∧ xs.length ≤ 65537 ∧ ∀ q ∈ r, TokOk q.2 ∧ q.1 ≤ 65537 ∧ q.2.text.length ≤ 65536
def cCl1 : Con where
  ps := [.r 0 32 tokK, .i .i64 5]
  bl := []
  top := 4
  pre := fun σ => Clean (σ.R 0) ∧ 0 ≤ σ.I 5 ∧ σ.I 5 ≤ (σ.R 0).length
  post := fun σ => .leaf (.exit 0) [(3, .k 0 (σ.R 0).length)] [] []
noncomputable def bCl1 : Code := loopAt Tryd.prog 5 "law.go:136"
noncomputable def lCl1 : LCon := { c := cCl1, sl := [3, 6], nt := Tryd.f5.ntmps, hv := nubN (writes bCl1) [], meas := fun σ => ((σ.R 0).length - σ.I 5).toNat }
noncomputable def LCl1 : Lib := { LCl2 with ls := (5, "law.go:136", lCl1) :: LCl2.ls }
def aCl : List ArgK := [(false, [.str])]
end Go.Proofs.YtfjldllegmfooaaDoor.Lx
end

section
/- Written by vc.py: what is to be shown, read out. No condition. -/
set_option maxRecDepth 1000000
set_option maxHeartbeats 0
namespace Go.Proofs.YtfjldllegmfooaaDoor.Lx
open Go.RowKit Go.Proofs.YtfjldllegmfooaaDoor.X
theorem live_goal  : ((run Tryd.prog (LnumW.mk' fun _ _ _ _ => False) 2000 Tryd.f16 []).sat (hands Tryd.prog Tryd.f16 (.bool true))) = (
(True ∧ True) ∧ (true = true → true = true → true = true → ((0 : Int) ≤ (0 : Int) ∧ (0 : Int) < (9 : Int) ∧ 9 ≤ 9) ∧ 0 < 9 ∧ (true = true → ((0 : Int) ≤ (5 : Int) ∧ (5 : Int) < (9 : Int) ∧ 9 ≤ 9) ∧ 5 < 9 ∧ (true = true → ((0 : Int) ≤ (7 : Int) ∧ (7 : Int) < (9 : Int) ∧ 9 ≤ 9) ∧ 7 < 9 ∧ (true = true
    → ((0 : Int) ≤ (8 : Int) ∧ (8 : Int) < (9 : Int) ∧ 9 ≤ 9) ∧ 8 < 9)))) ∧ True ∧ Value.bool true = Value.bool true) := by kernel_rfl

theorem cl2_round (σ : Dt) (α : At') (rest : Nat → Value) : (lCl2.goal Tryd.prog Llive.mk' 2000 bCl2 σ α rest) = (
let x0 := σ.I 5 < (↑(σ.S 4).size : Int);
let x1 := bif decide x0 then σ.I 1 != (3 : Int) else false;
let x2 := (0 : Int) ≤ σ.I 5 ∧ x0;
let x3 := (↑((σ.S 4).data.getD (σ.I 5).toNat (0 : UInt8)).toNat : Int);
let x4 := decide (x3 ≤ (32 : Int));
let x5 := bif x4 then true else decide (x3 > (126 : Int));
let x6 := IntKind.i64.wrap (σ.I 5 + (1 : Int));
true = true ∧ (x1 = true → x2 ∧ (x4 = false → x2) ∧ (x5 = true → true = true ∧ Ex.exit 2 = Ex.ret ∧ true = true ∧ False) ∧ (x5 = false → true = true ∧ true = true ∧ True ∧ ((0 : Int) ≤ x6 ∧ x6 ≤ (↑(σ.S 4).size : Int) ∧ (σ.S 4).size ≤ 65536 ∧ (σ.I 1 ≠ (3 : Int) → ∀ (c : UInt8), c ∈ (σ.S
    4).data.toList → 33 ≤ c.toNat ∧ c.toNat ≤ 126)) ∧ ((↑(σ.S 4).size : Int) - x6).toNat < ((↑(σ.S 4).size : Int) - σ.I 5).toNat ∧ Po.leaf (Ex.exit 2) [(7, Pt.p 0 0)] [] [] = Po.leaf (Ex.exit 2) [(7, Pt.p 0 0)] [] [] ∧ asSt ([[Pt.gi IntKind.i64 (σ.I 1), Pt.gi IntKind.i64 (σ.I 2), Pt.gi IntKind.i64
    (σ.I 3), Pt.gs (σ.S 4)]], []) = ([[Pt.gi IntKind.i64 (σ.I 1), Pt.gi IntKind.i64 (σ.I 2), Pt.gi IntKind.i64 (σ.I 3), Pt.gs (σ.S 4)]], []))) ∧ (x1 = false → true = true ∧ Ex.exit 2 = Ex.exit 2 ∧ true = true ∧ (((True ∧ σ.I 1 = σ.I 1) ∧ σ.I 2 = σ.I 2) ∧ σ.I 3 = σ.I 3) ∧ σ.S 4 = σ.S 4)) := by kernel_rfl

theorem cl1_round (σ : Dt) (α : At') (rest : Nat → Value) : (lCl1.goal Tryd.prog LCl2.mk' 2000 bCl1 σ α rest) = (
let x0 := σ.I 5 < (↑(σ.R 0).length : Int);
let x1 := decide x0;
let x2 := (σ.R 0).length ≤ (σ.R 0).length;
let x3 := asI (((σ.R 0).getD (σ.I 5).toNat []).getD 0 (Value.tuple #[]));
let x4 := decide (x3 < (1 : Int));
let x5 := decide (x3 > (6 : Int));
let x6 := decide (σ.I 5 > (0 : Int));
let x8 := IntKind.i64.wrap (σ.I 5 - (1 : Int));
let x9 := (0 : Int) ≤ x8 ∧ x8 < (↑(σ.R 0).length : Int) ∧ x2;
let x10 := x8.toNat;
let x11 := x10 < (σ.R 0).length;
let x12 := asI (((σ.R 0).getD (σ.I 5).toNat []).getD 1 (Value.tuple #[]));
let x13 := asI (((σ.R 0).getD x10 []).getD 1 (Value.tuple #[]));
let x14 := decide (x12 < x13);
let x15 := x12 != x13;
let x16 := bif x6 then bif x15 then asI (((σ.R 0).getD x10 []).getD 0 (Value.tuple #[])) != (6 : Int) else false else false;
let x17 := bif x4 then true else bif x5 then true else bif x6 then bif x14 then true else x16 else x16;
let x18 := asS (((σ.R 0).getD (σ.I 5).toNat []).getD 3 (Value.tuple #[]));
let x19 := x18.size;
let x20 := (σ.R 0).length = (σ.R 0).length;
let x21 := True ∧ x20;
let x22 := IntKind.i64.wrap (σ.I 5 + (1 : Int));
true = true ∧ (x1 = true → ((0 : Int) ≤ σ.I 5 ∧ x0 ∧ x2) ∧ (σ.I 5).toNat < (σ.R 0).length ∧ (x4 = false → x5 = false → (x6 = true → x9 ∧ x11 ∧ (x14 = false → x6 = true → x9 ∧ x11 ∧ (x15 = true → x9 ∧ x11))) ∧ (x6 = false → x6 = true → x9 ∧ x11 ∧ (x15 = true → x9 ∧ x11))) ∧ (x17 = true → true = true ∧ Ex.exit 0 = Ex.ret
    ∧ true = true ∧ False) ∧ (x17 = false → (True ∧ (0 : Int) ≤ (0 : Int) ∧ (0 : Int) ≤ (↑x19 : Int) ∧ x19 ≤ 65536 ∧ (x3 ≠ (3 : Int) → ∀ (c : UInt8), c ∈ x18.data.toList → 33 ≤ c.toNat ∧ c.toNat ≤ 126)) ∧ true = true ∧ true = true ∧ x21 ∧ (Clean (σ.R 0) ∧ (0 : Int) ≤ x22 ∧ x22 ≤ (↑(σ.R 0).length :
    Int)) ∧ ((↑(σ.R 0).length : Int) - x22).toNat < ((↑(σ.R 0).length : Int) - σ.I 5).toNat ∧ Po.leaf (Ex.exit 0) [(3, Pt.k 0 (σ.R 0).length)] [] [] = Po.leaf (Ex.exit 0) [(3, Pt.k 0 (σ.R 0).length)] [] [] ∧ asSt ([], [(0, (32 : TypeId), [PK.int IntKind.i64, PK.int IntKind.i64, PK.int
    IntKind.i64, PK.str], σ.R 0)]) = ([], [(0, (32 : TypeId), [PK.int IntKind.i64, PK.int IntKind.i64, PK.int IntKind.i64, PK.str], σ.R 0)]))) ∧ (x1 = false → true = true ∧ Ex.exit 0 = Ex.exit 0 ∧ true = true ∧ x21 ∧ x20 ∧ σ.R 0 = σ.R 0)) := by kernel_rfl

theorem clean_goal (σ : Dt) (α : At') : ((run Tryd.prog (LCl1.mk' fun _ _ _ _ => False) 3000 Tryd.f5 (argsV σ α aCl 0)).sat (hands Tryd.prog Tryd.f5 (.bool true))) = (
let x0 := allE (σ.S 0) != (0 : Int);
let x1 := (↑(allR (σ.S 0)).length : Int) == (0 : Int);
let x2 := IntKind.i64.wrap ((↑(allR (σ.S 0)).length : Int) - (1 : Int));
let x3 := x2.toNat;
(True ∧ True) ∧ (x0 = false → ((True ∧ (allR (σ.S 0)).length = (allR (σ.S 0)).length) ∧ Clean (allR (σ.S 0)) ∧ (0 : Int) ≤ (0 : Int) ∧ (0 : Int) ≤ (↑(allR (σ.S 0)).length : Int)) ∧ (x1 = false → ((0 : Int) ≤ x2 ∧ x2 < (↑(allR (σ.S 0)).length : Int) ∧ (allR (σ.S 0)).length ≤ (allR (σ.S 0)).length) ∧
    x3 < (allR (σ.S 0)).length)) ∧ True ∧ Value.bool (bif x0 then bif x1 then bif allE (σ.S 0) != (100 : Int) then true else bif decide (allL (σ.S 0) > (0 : Int)) then true else false else false else bif x1 then true else bif asI (((allR (σ.S 0)).getD x3 []).getD 0 (Value.tuple #[])) == (6 : Int)
    then true else false) = Value.bool true) := by kernel_rfl

end Go.Proofs.YtfjldllegmfooaaDoor.Lx
end
