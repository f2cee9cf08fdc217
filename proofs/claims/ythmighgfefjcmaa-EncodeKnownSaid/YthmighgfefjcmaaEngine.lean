/- A reader of the translation's code: it runs a body over values whose forms are known and whose contents need not be. Definitions; what they are good for is shown in the texts behind this one. No condition. -/
import Derived.WalkKit
import Derived.Laws.StructEq
namespace Go.Proofs.Ythmighgfefjcmaa.X
open Go.RowKit

/-- What a piece that touches no memory answers, in whatever world. -/
def ep {α : Type} (P : Program) : Sem α → Option α
  | .pure a => some a
  | .program k => ep P (k P)
  | .mark _ k => ep P k
  | _ => none

theorem ep_run {α : Type} {P : Program} (s : Sem α) (a : α) (h : ep P s = some a) (w : World) : s.run P w = .ok a w := by
  induction s with
  | pure b => simp only [ep, Option.some.injEq] at h; subst h; rfl
  | program k ih => exact ih P h
  | mark m k ih => exact ih h
  | _ => simp [ep] at h

/-- Values: known whole (c), of a known form (v), the place of a variable of one's own (p: which block, where in it), a slice of one (sl), a slice of a row that grows (s: the block, the number that is its room, how many), a function value (f), a struct or array in parts (a), a tuple in parts (t), unknown (u). -/
inductive V where
  | c (x : Value)
  | v (x : Value)
  | p (j off : Nat)
  | sl (j off n cap : Nat)
  | s (j c n : Nat)
  | m (j : Nat)
  | f (g : FuncId) (xs ys : List V)
  | a (xs : List V)
  | t (xs : List V)
  | u
  deriving Inhabited

mutual
def den (β : Nat → Nat) : V → Value
  | .c x => x
  | .v x => x
  | .p j o => .pointer (some ⟨β j, o, none⟩)
  | .sl j o n cap => .slice (some ⟨β j, o, none⟩) n cap
  | .s j c n => .slice (some ⟨β j, 0, none⟩) n (β c)
  | .m j => .map (some (β j))
  | .f g xs ys => .func (.func g) (denL β xs).toArray (denL β ys).toArray
  | .a xs => .agg (denL β xs).toArray
  | .t xs => .tuple (denL β xs).toArray
  | .u => undef
termination_by structural x => x
def denL (β : Nat → Nat) : List V → List Value
  | [] => []
  | x :: xs => den β x :: denL β xs
termination_by structural x => x
end

mutual
/-- The blocks that a value names. -/
def refs : V → List Nat
  | .c _ => []
  | .v _ => []
  | .p j _ => [j]
  | .sl j _ _ _ => [j]
  | .s j c _ => [j, c]
  | .m j => [j]
  | .f _ xs ys => refsL xs ++ refsL ys
  | .a xs => refsL xs
  | .t xs => refsL xs
  | .u => []
termination_by structural x => x
def refsL : List V → List Nat
  | [] => []
  | x :: xs => refs x ++ refsL xs
termination_by structural x => x
end

mutual
/-- A value without places of one's own. -/
def val : V → Option Value
  | .c x => some x
  | .v x => some x
  | .f g xs ys => (valL xs).bind fun as => (valL ys).bind fun bs => some (.func (.func g) as.toArray bs.toArray)
  | .a xs => (valL xs).bind fun as => some (.agg as.toArray)
  | .t xs => (valL xs).bind fun as => some (.tuple as.toArray)
  | .p _ _ => none
  | .sl _ _ _ _ => none
  | .s _ _ _ => none
  | .m _ => none
  | .u => none
termination_by structural x => x
def valL : List V → Option (List Value)
  | [] => some []
  | x :: xs => (val x).bind fun a => (valL xs).bind fun as => some (a :: as)
termination_by structural x => x
end

mutual
def isC : V → Bool
  | .c _ => true
  | .a xs => isCL xs
  | .t xs => isCL xs
  | _ => false
termination_by structural x => x
def isCL : List V → Bool
  | [] => true
  | x :: xs => bif isC x then isCL xs else false
termination_by structural x => x
end

def mk (closed : Bool) (x : Value) : V := bif closed then .c x else .v x

/-- What a block is: known whole; a row with room (its number c, an element's cells); a number; given up. -/
inductive Kd where
  | exact
  | row (c sz : Nat)
  | num
  | map (kd : IntKind)
  | dead

structure Blk where
  ty : TypeId
  cs : List V
  k : Kd

def Kd.live : Kd → Bool
  | .exact => true
  | .row _ _ => true
  | .map _ => true
  | _ => false
/-- Is it a row of cells? -/
def Kd.flat : Kd → Bool
  | .exact => true
  | .row _ _ => true
  | _ => false
def Kd.refs : Kd → List Nat
  | .row c _ => [c]
  | _ => []

abbrev Hp := List (Nat × Blk)

def lookB : Hp → Nat → Option Blk
  | [], _ => none
  | (k, b) :: l, j => bif Nat.beq k j then some b else lookB l j

structure St where
  env : List (Nat × V)
  n : Nat
  h : Hp
  nx : Nat

inductive Ex where
  | normal | ret | exit (id : Nat)

inductive T where
  | leaf (e : Ex) (s : St)
  | ite (b : Bool) (x y : T)
  | req (p : Prop) (x : T)
  | fail

def T.bind : T → (Ex → St → T) → T
  | .leaf e s, f => f e s
  | .ite b x y, f => .ite b (x.bind f) (y.bind f)
  | .req p x, f => .req p (x.bind f)
  | .fail, _ => .fail

def T.sat (K : Ex → St → Prop) : T → Prop
  | .leaf e s => K e s
  | .ite b x y => (b = true → x.sat K) ∧ (b = false → y.sat K)
  | .req p x => p ∧ x.sat K
  | .fail => False

def look : List (Nat × V) → Nat → V
  | [], _ => .u
  | (k, x) :: l, t => bif Nat.beq k t then x else look l t

/-- The newest entry of a slot, turned; it must lie ahead of the last m entries. -/
def setN (m : Nat) : List (Nat × V) → Nat → V → Option (List (Nat × V))
  | [], _, _ => none
  | (k, x) :: l, t, y => bif Nat.ble (l.length + 1) m then none else bif Nat.beq k t then some ((k, y) :: l) else (setN m l t y).bind fun r => some ((k, x) :: r)

def ev (s : St) : Operand → V
  | .tmp t => look s.env t
  | .const x => .c x
  | .global _ => .u
  | .func f => .c (.func (.func f) #[] #[])

def evL (s : St) (xs : List Operand) : List V := xs.map (ev s)

/-- The cells of a value. -/
def cells : V → Option (List V)
  | .c (.agg xs) => some (xs.toList.map .c)
  | .v (.agg xs) => some (xs.toList.map .v)
  | .a xs => some xs
  | .c x => some [.c x]
  | .v x => some [.v x]
  | .p j o => some [.p j o]
  | .sl j o n cap => some [.sl j o n cap]
  | .s j c n => some [.s j c n]
  | .m j => some [.m j]
  | .f g xs ys => some [.f g xs ys]
  | .t _ => none
  | .u => none

def oneC : V → Bool
  | .c x => x.oneCell'
  | .v x => x.oneCell'
  | .p _ _ => true
  | .sl _ _ _ _ => true
  | .s _ _ _ => true
  | .m _ => true
  | .f _ _ _ => true
  | _ => false

def aggT (P : Program) (t : TypeId) : Option Bool :=
  match P.underlying t with
  | some (.struct _) => some true
  | some (.array _ _) => some true
  | some _ => some false
  | none => none

/-- A part of cells, as a value of a type. -/
def partV (P : Program) (t : TypeId) (cs : List V) (off : Nat) : Option V :=
  match aggT P t, P.info? t with
  | some true, some i => bif Nat.ble (off + i.size) cs.length then some (.a ((cs.drop off).take i.size)) else none
  | some false, some _ => cs[off]?
  | _, _ => none

def fieldOf (P : Program) (t : TypeId) (i : Nat) : Option Field :=
  match P.underlying t with
  | some (.struct fs) => fs[i]?
  | _ => none

def eqFlds (P : Program) (rec : TypeId → Value → Value → Option Bool) (xs ys : Array Value) : List Field → Option Bool
  | [] => some true
  | f :: fs =>
    bif f.name == "_" then none else
    (ep P (part f.type xs f.offset)).bind fun a => (ep P (part f.type ys f.offset)).bind fun b =>
    (rec f.type a b).bind fun r => (eqFlds P rec xs ys fs).bind fun q => some (r && q)

/-- '==' of structs of plain parts. -/
def eqB (P : Program) : Nat → TypeId → Value → Value → Option Bool
  | 0, _, _, _ => none
  | d + 1, t, x, y =>
    match P.underlying t, x, y with
    | some (.int _), .int k a, .int k' b => match decEq k k' with | .isTrue _ => some (a == b) | .isFalse _ => none
    | some .bool, .bool a, .bool b => some (a == b)
    | some .string, .string a, .string b => some (a.toList == b.toList)
    | some (.struct fs), .agg xs, .agg ys => bif P.stoodInHeld t then none else eqFlds P (eqB P d) xs ys fs.toList
    | _, _, _ => none

def binV (P : Program) (op : BinOp) (t : TypeId) (x y : Operand) (a b : Value) : Option Value :=
  match a, b with
  | .agg _, .agg _ =>
    bif P.eqGuardType P.depth t then none else
    match op with
    | .eql => (eqB P 20 t a b).bind fun r => some (.bool r)
    | .neq => (eqB P 20 t a b).bind fun r => some (.bool (!r))
    | _ => none
  | _, _ => ep P (do eqGuard op t x y a b; binOp op t a b)

def mergeB (q : Bool) (a b : V) : V :=
  match val a, val b with
  | some (.bool x), some (.bool y) => .v (.bool (bif q then x else y))
  | some (.int k x), some (.int k' y) => match decEq k k' with | .isTrue _ => .v (.int k (bif q then x else y)) | .isFalse _ => .u
  | some (.string x), some (.string y) => .v (.string (bif q then x else y))
  | _, _ => .u

def setL (cs : List V) (off : Nat) (xs : List V) : List V := cs.take off ++ xs ++ cs.drop (off + xs.length)

/-- The parts of a struct or array literal laid over its zero cells. -/
def fillV (place : Nat → Option (Nat × Nat)) (cs : List V) : List (Nat × V) → Option (List V)
  | [] => some cs
  | (i, x) :: rest =>
    (place i).bind fun (off, size) => (cells x).bind fun xs =>
    bif Nat.beq xs.length size && Nat.ble (off + size) cs.length then fillV place (setL cs off xs) rest else none

def repL : Nat → List V → List V
  | 0, _ => []
  | n + 1, xs => xs ++ repL n xs

def placesOf (P : Program) : List Field → Option (List (Nat × Nat))
  | [] => some []
  | f :: fs => (P.info? f.type).bind fun j => (placesOf P fs).bind fun r => some ((f.offset, j.size) :: r)

def notU : V → Bool
  | .u => false
  | _ => true

/-- What an operation comes to: its value, what it lays in memory, what it asks. -/
abbrev Res := Option (V × Hp × Option Prop)

/-- The first n elements (of sz cells) of a slice. -/
def elems (h : Hp) (sz : Nat) : V → Option (Nat × List V)
  | .c (.slice none 0 _) => some (0, [])
  | .sl j o n _ => (lookB h j).bind fun b => bif b.k.flat && Nat.ble (o + n * sz) b.cs.length then some (n, (b.cs.drop o).take (n * sz)) else none
  | .s j _ n => (lookB h j).bind fun b => bif b.k.flat && Nat.ble (n * sz) b.cs.length then some (n, b.cs.take (n * sz)) else none
  | _ => none

/-- A row that may be appended to: how many elements it has, its cells, and what is laid to give it up. -/
def rowOf (h : Hp) (e : TypeId) (sz : Nat) : V → Option (Nat × List V × Hp)
  | .c (.slice none 0 0) => some (0, [], [])
  | .sl j 0 n cap => (lookB h j).bind fun b => match b.k with
    | .exact => bif Nat.beq n cap && Nat.beq b.cs.length (n * sz) && Nat.beq b.ty e && Nat.ble n maxLen then some (n, b.cs, [(j, ⟨b.ty, [], .dead⟩)]) else none
    | _ => none
  | .s j c n => (lookB h j).bind fun b => match b.k with
    | .row c' sz' => bif Nat.beq c c' && Nat.beq sz sz' && Nat.beq b.cs.length (n * sz) && Nat.beq b.ty e then some (n, b.cs, [(j, ⟨b.ty, [], .dead⟩)]) else none
    | _ => none
  | _ => none

def appendV (P : Program) (s : St) (k : Nat) (x y : V) (t : TypeId) : Res :=
  match P.underlying t with
  | some (.slice e) => (P.info? e).bind fun i => i.zero.bind fun z =>
      bif Nat.ble 1 i.size && Nat.beq z.cells.size i.size then
        (elems s.h i.size y).bind fun (m, news) => (rowOf s.h e i.size x).bind fun (n, old, kill) =>
          bif Nat.beq m 0 then some (x, [], none) else
          bif Nat.ble (n + m) maxLen && Nat.ble ((n + m) * i.bytes) 140737488355328 && news.all oneC then
            some (.s k (k + 1) (n + m), [(k, ⟨e, old ++ news, .row (k + 1) i.size⟩), (k + 1, ⟨e, [], .num⟩)] ++ kill, none)
          else none
      else none
  | _ => none

/-- A builtin: those that touch no memory; the length of a slice of one's own; append. -/
def builtinV (P : Program) (s : St) (k : Nat) (b : Builtin) (args : List Operand) (ts : Array TypeId) (ty : TypeId) (cs : Array Bool) : Res :=
  match b, args with
  | .append, [x, y] => match ts.toList with
    | [t, t'] => bif Nat.beq t t' then appendV P s k (ev s x) (ev s y) t else none
    | _ => none
  | _, _ =>
  match valL (evL s args) with
  | some as => match ep P (builtin b ts ty cs as.toArray) with
    | some (.value r) => some (mk (isCL (evL s args)) r, [], none)
    | _ => none
  | none => match b, args with
    | .len, [x] => match (ts[0]?).bind P.underlying with
      | some (.slice _) => match ev s x with
        | .sl _ _ n _ => some (.c (.int .i64 n), [], none)
        | .s _ _ n => some (.c (.int .i64 n), [], none)
        | _ => none
      | _ => none
    | _, _ => none

def natOf : V → Option Nat
  | .c (.int _ (.ofNat k)) => some k
  | _ => none

def asStr : V → Option ByteArray
  | .c (.string s) => some s
  | .v (.string s) => some s
  | _ => none
def asInt' : V → Option Int
  | .c (.int _ n) => some n
  | .v (.int _ n) => some n
  | _ => none

def byteAt (s : ByteArray) (i : Int) : Int := ((s.data.getD i.toNat 0).toNat : Int)

/-- x[lo:hi] of a string. -/
def cutStr (b : ByteArray) (lo hi : Option Int) : Option (Value × Prop) :=
  match lo, hi with
  | none, none => some (.string (b.extract 0 b.size), True)
  | some l, none => some (.string (b.extract l.toNat b.size), 0 ≤ l ∧ l ≤ b.size)
  | none, some h => some (.string (b.extract 0 h.toNat), 0 ≤ h ∧ h ≤ b.size)
  | some l, some h => some (.string (b.extract l.toNat h.toNat), (0 ≤ h ∧ h ≤ b.size) ∧ 0 ≤ l ∧ l ≤ h)

/-- The numbers of a row of bytes. -/
def bytesOf : List V → Option (List Int)
  | [] => some []
  | .c (.int .u8 n) :: l => (bytesOf l).bind fun r => some (n :: r)
  | .v (.int .u8 n) :: l => (bytesOf l).bind fun r => some (n :: r)
  | _ => none

def strOf (l : List Int) : ByteArray := ⟨(l.map fun n => UInt8.ofNat n.toNat).toArray⟩

/-- The keys of a map's cells, all of one kind. -/
def keysM (kd : IntKind) : List V → Option (List Int)
  | [] => some []
  | .c (.int kd' n) :: _ :: l => match decEq kd kd' with
    | .isTrue _ => (keysM kd l).bind fun r => some (n :: r)
    | .isFalse _ => none
  | _ => none

/-- What a map has at a key. -/
def lookM (closed : Bool) (q : Int) (zero : V) : List V → V
  | .c (.int _ n) :: x :: l => bif closed then (match decEq q n with | .isTrue _ => x | .isFalse _ => lookM closed q zero l) else mergeB (q == n) x (lookM closed q zero l)
  | _ => zero

def intOf' (kd : IntKind) : V → Option Int
  | .c (.int kd' n) => match decEq kd kd' with | .isTrue _ => some n | .isFalse _ => none
  | .v (.int kd' n) => match decEq kd kd' with | .isTrue _ => some n | .isFalse _ => none
  | _ => none

def mapKind (P : Program) (t : TypeId) : Option (IntKind × TypeId) :=
  match P.underlying t with
  | some (.map kt e) => match P.underlying kt with
    | some (.int kd) => some (kd, e)
    | _ => none
  | _ => none

/-- One operation that calls nothing; k, k + 1: keys for what it makes. -/
def step (P : Program) (s : St) (k : Nat) (o : Oper) : Res :=
  match o.op with
  | .move x => some (ev s x, [], none)
  | .assign x => some (ev s x, [], none)
  | .pick c a b =>
    match ev s c with
    | .c (.bool q) => match q with | true => some (ev s a, [], none) | false => some (ev s b, [], none)
    | .v (.bool q) => some (mergeB q (ev s a) (ev s b), [], none)
    | _ => none
  | .binOp op t x y _ =>
    (val (ev s x)).bind fun a => (val (ev s y)).bind fun b => (binV P op t x y a b).bind fun r => some (mk (isC (ev s x) && isC (ev s y)) r, [], none)
  | .unOp op _ x => (val (ev s x)).bind fun a => (ep P (Op.unary op a)).bind fun r => some (mk (isC (ev s x)) r, [], none)
  | .convert src dst x =>
    match val (ev s x) with
    | some a => (ep P (convert src dst a)).bind fun r => some (mk (isC (ev s x)) r, [], none)
    | none => match P.underlying src, P.underlying dst with
      | some (.slice e), some .string => match P.underlying e with
        | some (.int .u8) => (elems s.h 1 (ev s x)).bind fun q => (bytesOf q.2).bind fun l => some (mk (isCL q.2) (.string (strOf l)), [], none)
        | _ => none
      | _, _ => none
  | .field t x i =>
    (fieldOf P t i).bind fun f => match ev s x with
      | .a cs => (partV P f.type cs f.offset).bind fun r => some (r, [], none)
      | .c (.agg xs) => (partV P f.type (xs.toList.map .c) f.offset).bind fun r => some (r, [], none)
      | .v (.agg xs) => (partV P f.type (xs.toList.map .v) f.offset).bind fun r => some (r, [], none)
      | _ => none
  | .extract x i =>
    match ev s x with
    | .t xs => xs[i]?.bind fun r => some (r, [], none)
    | .c (.tuple xs) => xs[i]?.bind fun r => some (.c r, [], none)
    | .v (.tuple xs) => xs[i]?.bind fun r => some (.v r, [], none)
    | _ => none
  | .nilCheck x =>
    match ev s x with
    | .p j o => some (.p j o, [], none)
    | .f g xs ys => some (.f g xs ys, [], none)
    | .c (.func (.func g) xs ys) => some (.c (.func (.func g) xs ys), [], none)
    | _ => none
  | .makeFunc (.func g) xs ys => bif (evL s xs.toList).all notU && (evL s ys.toList).all notU then some (.f g (evL s xs.toList) (evL s ys.toList), [], none) else none
  | .box t x => (cells (ev s x)).bind fun cs => some (.p k 0, [(k, ⟨t, cs, .exact⟩)], none)
  | .alloc t => (P.info? t).bind fun i => i.zero.bind fun z => some (.p k 0, [(k, ⟨t, z.cells.toList.map .c, .exact⟩)], none)
  | .build t parts =>
    (P.info? t).bind fun i => i.zero.bind fun z => match P.underlying t with
      | some (.struct fs) => (placesOf P fs.toList).bind fun ps => (fillV (fun k => ps[k]?) (z.cells.toList.map .c) (parts.toList.map fun q => (q.1, ev s q.2))).bind fun cs => some (.a cs, [], none)
      | some (.array _ e) => (P.info? e).bind fun j => (fillV (fun k => some (k * j.size, j.size)) (z.cells.toList.map .c) (parts.toList.map fun q => (q.1, ev s q.2))).bind fun cs => some (.a cs, [], none)
      | _ => none
  | .buildSlice t len parts =>
    match P.underlying t with
    | some (.slice e) => (P.info? e).bind fun j => j.zero.bind fun z =>
        bif Nat.ble 1 (len * j.size) && Nat.ble (len * j.size) 16777216 && Nat.beq z.cells.size j.size then
          (fillV (fun k => some (k * j.size, j.size)) (repL len (z.cells.toList.map .c)) (parts.toList.map fun q => (q.1, ev s q.2))).bind fun cs =>
            some (.sl k 0 len len, [(k, ⟨e, cs, .exact⟩)], none)
        else none
    | _ => none
  | .indexAddr t x ix =>
    (natOf (ev s ix)).bind fun i => match P.underlying t, ev s x with
      | some (.slice e), .sl j o n _ => bif Nat.blt i n then (P.info? e).bind fun q => some (.p j (o + i * q.size), [], none) else none
      | some (.slice e), .s j _ n => bif Nat.blt i n then (P.info? e).bind fun q => some (.p j (0 + i * q.size), [], none) else none
      | some (.array len e), .p j o => bif Nat.blt i len then (P.info? e).bind fun q => some (.p j (o + i * q.size), [], none) else none
      | _, _ => none
  | .load t x =>
    match ev s x with
    | .p j o => (lookB s.h j).bind fun b => bif b.k.flat then (partV P t b.cs o).bind fun r => some (r, [], none) else none
    | _ => none
  | .store t x y =>
    match ev s x with
    | .p j o => (lookB s.h j).bind fun b => (cells (ev s y)).bind fun cs => (P.info? t).bind fun i =>
        bif Nat.beq cs.length i.size && Nat.ble (o + cs.length) b.cs.length && cs.all oneC && b.k.flat then
          some (.c undef, [(j, ⟨b.ty, setL b.cs o cs, b.k⟩)], none) else none
    | _ => none
  | .fieldAddr t x i =>
    match ev s x with
    | .p j o => (fieldOf P t i).bind fun f => (P.info? f.type).bind fun q => bif Nat.beq q.size 0 then none else some (.p j (o + f.offset), [], none)
    | _ => none
  | .index t x ix =>
    match P.underlying t with
    | some (.array len e) => (natOf (ev s ix)).bind fun i => match ev s x with
      | .a cs => bif Nat.blt i len then (P.info? e).bind fun q => (partV P e cs (i * q.size)).bind fun r => some (r, [], none) else none
      | .c (.agg xs) => bif Nat.blt i len then (P.info? e).bind fun q => (partV P e (xs.toList.map .c) (i * q.size)).bind fun r => some (r, [], none) else none
      | .v (.agg xs) => bif Nat.blt i len then (P.info? e).bind fun q => (partV P e (xs.toList.map .v) (i * q.size)).bind fun r => some (r, [], none) else none
      | _ => none
    | some .string => (asStr (ev s x)).bind fun b => (asInt' (ev s ix)).bind fun i => some (mk (isC (ev s x) && isC (ev s ix)) (.int .u8 (byteAt b i)), [], bif isC (ev s x) && isC (ev s ix) && decide (0 ≤ i) && decide (i < b.size) then none else some (0 ≤ i ∧ i < b.size))
    | _ => none
  | .slice t x lo hi mx =>
    match mx with
    | some _ => none
    | none => match P.underlying t with
      | some .string =>
        (asStr (ev s x)).bind fun b => match lo.map (fun q => asInt' (ev s q)), hi.map (fun q => asInt' (ev s q)) with
          | some none, _ => none
          | _, some none => none
          | l, h => (cutStr b (l.bind id) (h.bind id)).bind fun r => some (.v r.1, [], some r.2)
      | some (.slice e) => (P.info? e).bind fun q => match lo, hi.map (fun r => natOf (ev s r)), ev s x with
        | none, some (some m), .s j c n => bif Nat.ble m n then (lookB s.h j).bind fun b => match b.k with
            | .row c' sz => bif Nat.beq c c' && Nat.beq sz q.size && Nat.ble (n * sz) b.cs.length && Nat.ble 1 sz then some (.s j c m, [], none) else none
            | _ => none
          else none
        | _, _, _ => none
      | _ => none
  | .makeMap t none => (mapKind P t).bind fun q => some (.m k, [(k, ⟨t, [], .map q.1⟩)], none)
  | .insert t x y z =>
    match ev s x with
    | .m j => (mapKind P t).bind fun q => (lookB s.h j).bind fun b => match b.k with
      | .map kd => match decEq kd q.1 with
        | .isTrue _ => (intOf' kd (ev s y)).bind fun n => (keysM kd b.cs).bind fun ks =>
            bif isC (ev s y) && ks.all (fun m => !(decide (m = n))) && oneC (ev s z) && notU (ev s z) then
              some (.c undef, [(j, ⟨b.ty, b.cs ++ [.c (.int kd n), ev s z], .map kd⟩)], none) else none
        | .isFalse _ => none
      | _ => none
    | _ => none
  | .lookup t x y false =>
    match ev s x with
    | .m j => (mapKind P t).bind fun q => (lookB s.h j).bind fun b => match b.k with
      | .map kd => match decEq kd q.1 with
        | .isTrue _ => (intOf' kd (ev s y)).bind fun n => (keysM kd b.cs).bind fun _ => (P.info? q.2).bind fun i => i.zero.bind fun z =>
            some (lookM (isC (ev s y)) n (.c z) b.cs, [], none)
        | .isFalse _ => none
      | _ => none
    | _ => none
  | .call c =>
    match c.callee with
    | .builtin b => builtinV P s k b c.args.toList c.argTypes o.type (c.args.map fun | .const _ => true | _ => false)
    | _ => none
  | _ => none

def put (s : St) (d : Option Tmp) (x : V) : St :=
  match d with
  | none => s
  | some t => { s with env := (t, x) :: s.env }

/-- The contracts of functions that only compute: what each answers. -/
abbrev Specs := List (FuncId × (List Value → Option Value))

def spec : Specs → FuncId → Option (List Value → Option Value)
  | [], _ => none
  | (g, r) :: l, f => bif Nat.beq g f then some r else spec l f

def target : V → Option (FuncId × List V × List V)
  | .c (.func (.func g) xs ys) => some (g, xs.toList.map .c, ys.toList.map .c)
  | .f g xs ys => some (g, xs, ys)
  | _ => none

/-- What a function hands back. -/
def resOne (P : Program) (s : St) : ResultVar → Option V
  | .tmp t => match look s.env t with
    | .u => none
    | x => some x
  | .cell a t => match look s.env a with
    | .p j o => (lookB s.h j).bind fun b => bif b.k.flat then partV P t b.cs o else none
    | _ => none

def resL (P : Program) (s : St) : List ResultVar → Option (List V)
  | [] => some []
  | r :: l => (resOne P s r).bind fun x => (resL P s l).bind fun xs => some (x :: xs)

def res (P : Program) (fn : Func) (s : St) : Option V :=
  (resL P s fn.results.toList).bind fun xs => match xs with
    | [x] => some x
    | xs => some (.t xs)

def enterEnv (xs : List V) : Nat → List (Nat × V)
  | k => go xs k
where
  go : List V → Nat → List (Nat × V)
    | [], _ => []
    | x :: xs, k => (k, x) :: go xs (k + 1)

/-- May ways through a region be joined behind it: nothing old is written in it, and its calls are of contracts. -/
def calm (φ : Specs) (o : Oper) : Bool :=
  match o.op with
  | .store .. => false
  | .insert .. => false
  | .call c => match c.callee with
    | .builtin .append => false
    | .builtin _ => true
    | .value (.func g) => (spec φ g).isSome
    | _ => false
  | _ => true

def mergeE (q : Bool) : Nat → List (Nat × V) → List (Nat × V) → Option (List (Nat × V))
  | 0, l, _ => some l
  | k + 1, (t, x) :: l, (t', y) :: l' => bif Nat.beq t t' then (mergeE q k l l').bind fun r => some ((t, mergeB q x y) :: r) else none
  | _ + 1, _, _ => none

/-- The conditions ahead of a tree. -/
def T.strip : T → Option Prop × T
  | .req p t => match t.strip with
    | (none, t') => (some p, t')
    | (some q, t') => (some (p ∧ q), t')
  | t => (none, t)

def both (b : Bool) : Option Prop → Option Prop → T → T
  | none, none, t => t
  | some p, none, t => .req (b = true → p) t
  | none, some q, t => .req (b = false → q) t
  | some p, some q, t => .req ((b = true → p) ∧ (b = false → q)) t

def T.merge (s0 : St) : T → T
  | .ite b x y =>
    match (x.merge s0).strip, (y.merge s0).strip with
    | (p, .leaf .normal s1), (q, .leaf .normal s2) =>
      bif Nat.beq s1.env.length s2.env.length then
        match mergeE b (s1.env.length - s0.env.length) s1.env s2.env with
        | some e => both b p q (.leaf .normal ⟨e, s0.n, s0.h, s0.nx⟩)
        | none => .ite b (x.merge s0) (y.merge s0)
      else .ite b (x.merge s0) (y.merge s0)
    | _, _ => .ite b (x.merge s0) (y.merge s0)
  | .req p t => .req p (t.merge s0)
  | t => t

inductive Task where
  | code (c : Code)
  | rounds (c : Code)
  | ops (l : List Oper) (all : Array Oper) (m : Nat)

def dstOk (s : St) (d : Option Tmp) : Bool :=
  match d with
  | none => true
  | some t => Nat.blt t s.n

def valueCall (o : Op) : Option (Operand × Array Operand) :=
  match o with
  | .call c => match c.callee with
    | .value x => some (x, c.args)
    | _ => none
  | _ => none

def lay (s : St) (d : Hp) : St := { s with h := d ++ s.h, nx := s.nx + 2 }

def ask (p : Option Prop) (t : T) : T :=
  match p with
  | none => t
  | some p => .req p t

/-- The blocks that some blocks lead to. -/
def restr (h : Hp) : Nat → List Nat → Hp → Option Hp
  | 0, _, _ => none
  | n + 1, todo, acc =>
    match todo with
    | [] => some acc
    | j :: rest =>
      match lookB acc j with
      | some _ => restr h n rest acc
      | none =>
        match lookB h j with
        | none => none
        | some b => restr h n (refsL b.cs ++ b.k.refs ++ rest) ((j, b) :: acc)

def keysOf (d : Hp) : List Nat := d.map (·.1)

/-- Memory without what is shadowed. -/
def squash : Hp → List Nat → Hp
  | [], _ => []
  | (k, b) :: l, seen => bif seen.any (Nat.beq k) then squash l seen else (k, b) :: squash l (k :: seen)

/-- One operation in a region whose order is open; what it calls sees the blocks alone that it is handed. -/
def oneT (P : Program) (φ : Specs) (ih : Task → St → T) (s : St) (k : Nat) (o : Oper) (K : V → Hp → Nat → T) : T :=
  match valueCall o.op with
  | none =>
    match step P s k o with
    | some (v, d, p) => ask p (K v d (k + 2))
    | none => .fail
  | some (x, args) =>
    match target (ev s x) with
    | none => .fail
    | some (g, xs, ys) =>
      bif (xs ++ evL s args.toList ++ ys).all notU then
      match P.funcs[g]? with
      | none => .fail
      | some fn =>
        bif fn.name == "runtime.NumGoroutine" then .fail else
        match fn.body with
        | none => .fail
        | some c =>
          match spec φ g with
          | some r => match valL (xs ++ evL s args.toList ++ ys) with
            | some vs => match r vs with
              | some z => K (mk (isCL (xs ++ evL s args.toList ++ ys)) z) [] k
              | none => .fail
            | none => .fail
          | none => match restr s.h 4096 (refsL (xs ++ evL s args.toList ++ ys)) [] with
            | none => .fail
            | some h0 => bif (keysOf h0).all (fun j => Nat.blt j k) then
                (ih (.code c) ⟨enterEnv (xs ++ evL s args.toList ++ ys) 0, Nat.max (xs ++ evL s args.toList ++ ys).length fn.ntmps, h0, k⟩).bind fun e s1 => match e with
                  | .exit _ => .fail
                  | _ => match X.res P fn s1 with
                    | some z => bif Nat.ble k s1.nx && (keysOf s1.h).all (fun j => (keysOf h0).any (Nat.beq j) || (Nat.ble k j && Nat.blt j s1.nx)) then K z (squash s1.h []) s1.nx else .fail
                    | none => .fail
              else .fail
      else .fail

/-- The blocks that an operation looks into. -/
def tch (s : St) (o : Oper) : List Nat :=
  match o.op with
  | .load _ x => refs (ev s x)
  | .store _ x _ => refs (ev s x)
  | .convert _ _ x => refs (ev s x)
  | .slice _ x _ _ _ => refs (ev s x)
  | .insert _ x _ _ => refs (ev s x)
  | .lookup _ x _ _ => refs (ev s x)
  | .call c => match c.callee with
    | .builtin .append => refsL (evL s c.args.toList)
    | .value x => match target (ev s x) with
      | some (_, xs, ys) => match restr s.h 4096 (refsL (xs ++ evL s c.args.toList ++ ys)) [] with
        | some h0 => keysOf h0
        | none => []
      | none => []
    | _ => []
  | _ => []

/-- Where a load looks. -/
def placeOf (s : St) (o : Oper) : Option (TypeId × Nat × Nat) :=
  match o.op with
  | .load t x => match ev s x with
    | .p j o => some (t, j, o)
    | _ => none
  | _ => none

/-- What was done at an operation: its answer, what it laid, which blocks it looked into, which keys it had, whether it was done; where it loaded from. -/
structure Rec where
  o : Oper
  v : V
  d : Hp
  tc : List Nat
  k0 : Nat
  k1 : Nat
  on : Bool
  pt : Option (TypeId × Nat × Nat)

def after (s : St) (r : Rec) : St := put { s with h := r.d ++ s.h } r.o.dst r.v

/-- Is an operation done? -/
def guardOf (all : Array Oper) (s : St) (o : Oper) : Option Bool :=
  match o.guard with
  | none => some true
  | some (j, want) =>
    match (all[j]?).bind (·.dst) with
    | none => none
    | some tg =>
      match look s.env tg with
      | .c (.bool q) => some (q == want)
      | .c (.tuple _) => some false
      | _ => none

/-- A region's operations in the order of the text. -/
def traceT (P : Program) (φ : Specs) (ih : Task → St → T) (all : Array Oper) : Nat → List Oper → St → (List Rec → Nat → T) → T
  | k, [], _, K => K [] k
  | k, o :: l, s, K =>
    bif dstOk s o.dst then
      match guardOf all s o with
      | none => .fail
      | some false => traceT P φ ih all k l (after s ⟨o, .c undef, [], [], k, k, false, none⟩) fun tr k' => K (⟨o, .c undef, [], [], k, k, false, none⟩ :: tr) k'
      | some true => oneT P φ ih s k o fun v d k1 =>
          traceT P φ ih all k1 l (after s ⟨o, v, d, tch s o, k, k1, true, placeOf s o⟩) fun tr k' => K (⟨o, v, d, tch s o, k, k1, true, placeOf s o⟩ :: tr) k'
    else .fail

def app (D : Nat → Bool) : Nat → List Rec → St → St
  | _, [], s => s
  | i, r :: l, s => app D (i + 1) l (bif D i then after s r else s)

/-- The edges that bind in any order. -/
def bound (o : Oper) : List Edge := o.after.toList.filter (Region.binds .any)

/-- What must have been before each operation, as a number's bits. -/
def masks : List Oper → List Nat → Option (List Nat)
  | [], acc => some acc
  | o :: l, acc =>
    bif (bound o).all (fun e => Nat.blt e.on acc.length) then
      masks l (acc ++ [(bound o).foldl (fun m e => m ||| 2 ^ e.on ||| acc.getD e.on 0) 0])
    else none

def opTmps (all : Array Oper) (o : Oper) : List Nat :=
  (match o.guard with
   | some (j, _) => ((all[j]?).bind (·.dst)).toList
   | none => []) ++ o.op.operands.toList.filterMap fun | .tmp t => some t | _ => none

/-- Is i behind j in every order? -/
def behind (i j : Nat) (mi : Nat) : Bool := Nat.blt j i && mi.testBit j

def inRange (r : Rec) (b : Nat) : Bool := Nat.ble r.k0 b && Nat.blt b r.k1

def okPair (all : Array Oper) (i j : Nat) (ri rj : Rec) (mi mj : Nat) : Bool :=
  (match ri.o.dst, rj.o.dst with
   | some a, some b => !(Nat.beq a b)
   | _, _ => true) &&
  (match rj.o.dst with
   | none => true
   | some t => !((opTmps all ri.o).any (Nat.beq t)) || behind i j mi || behind j i mj) &&
  (keysOf rj.d).all fun b => (!(ri.tc.any (Nat.beq b)) || behind i j mi || behind j i mj || (ri.pt.isSome && !(keysOf ri.d).any (Nat.beq b))) && (!(inRange ri b) || behind j i mj)

def okAll (all : Array Oper) (tr : List Rec) (ms : List Nat) : Bool :=
  tr.zipIdx.all fun (ri, i) =>
    ((keysOf ri.d).all fun b => ri.tc.any (Nat.beq b) || inRange ri b) &&
    tr.zipIdx.all fun (rj, j) => Nat.beq i j || okPair all i j ri rj (ms.getD i 0) (ms.getD j 0)

/-- Are two atoms that are known whole the same? -/
def eqAt : Value → Value → Bool
  | .int k a, .int k' b => match decEq k k' with | .isTrue _ => (match decEq a b with | .isTrue _ => true | .isFalse _ => false) | .isFalse _ => false
  | .bool a, .bool b => (match decEq a b with | .isTrue _ => true | .isFalse _ => false)
  | .string a, .string b => (match decEq a.data.toList b.data.toList with | .isTrue _ => true | .isFalse _ => false)
  | .pointer none, .pointer none => true
  | .slice none n c, .slice none n' c' => Nat.beq n n' && Nat.beq c c'
  | _, _ => false

mutual
def eqV : V → V → Bool
  | .c x, y => match y with | .c y => eqAt x y | _ => false
  | .p j o, y => match y with | .p j' o' => Nat.beq j j' && Nat.beq o o' | _ => false
  | .sl j o n cap, y => match y with | .sl j' o' n' cap' => Nat.beq j j' && Nat.beq o o' && Nat.beq n n' && Nat.beq cap cap' | _ => false
  | .s j c n, y => match y with | .s j' c' n' => Nat.beq j j' && Nat.beq c c' && Nat.beq n n' | _ => false
  | .m j, y => match y with | .m j' => Nat.beq j j' | _ => false
  | .a xs, y => match y with | .a ys => eqVL xs ys | _ => false
  | _, _ => false
termination_by structural x => x
def eqVL : List V → List V → Bool
  | [], ys => match ys with | [] => true | _ => false
  | x :: xs, ys => match ys with | y :: ys => eqV x y && eqVL xs ys | [] => false
termination_by structural x => x
end

/-- What a load from a block answers. -/
def loadB (P : Program) (t : TypeId) (o : Nat) (b : Option Blk) : Option V :=
  b.bind fun b => bif b.k.flat then partV P t b.cs o else none

/-- One load, from a block as it may have been. -/
def mayBe (P : Program) (t : TypeId) (o : Nat) (v : V) (b : Option Blk) (rest : T) : T :=
  match loadB P t o b with
  | none => .fail
  | some x => bif eqV x v then rest else .req (x = v) rest

/-- A load that is not ordered with all writers of its block: from each of the writers' blocks it answers the same. -/
def alts (P : Program) (t : TypeId) (b o : Nat) (v : V) (i mi : Nat) (ms : List Nat) (rest : T) : List (Rec × Nat) → T
  | [] => rest
  | (rj, j) :: l =>
    bif (keysOf rj.d).any (Nat.beq b) && !(behind j i (ms.getD j 0)) && !(Nat.beq i j) then mayBe P t o v (lookB rj.d b) (alts P t b o v i mi ms rest l)
    else alts P t b o v i mi ms rest l

/-- Is there a writer of the block that is not ordered with the load? -/
def open_ (b i mi : Nat) (ms : List Nat) (tr : List (Rec × Nat)) : Bool :=
  tr.any fun (rj, j) => (keysOf rj.d).any (Nat.beq b) && !(behind j i (ms.getD j 0)) && !(behind i j mi)

def loads (P : Program) (s : St) (tr0 : List (Rec × Nat)) (ms : List Nat) (rest : T) : List (Rec × Nat) → T
  | [] => rest
  | (ri, i) :: l =>
    match ri.pt with
    | none => loads P s tr0 ms rest l
    | some (t, b, o) =>
      bif open_ b i (ms.getD i 0) ms tr0 then
        mayBe P t o ri.v (lookB s.h b) (alts P t b o ri.v i (ms.getD i 0) ms (loads P s tr0 ms rest l) tr0)
      else loads P s tr0 ms rest l

/-- A region whose order is open, where the order makes no difference. -/
def drawn (P : Program) (φ : Specs) (ih : Task → St → T) (ops : Array Oper) (s : St) : T :=
  bif P.follows .mixedOrders then
    match masks ops.toList [] with
    | none => .fail
    | some ms =>
      traceT P φ ih ops s.nx ops.toList s fun tr k =>
        bif okAll ops tr ms && Nat.ble s.nx k then
          loads P s tr.zipIdx ms (.leaf .normal (app (fun _ => true) 0 tr { s with nx := k })) tr.zipIdx
        else .fail
  else .fail

/-- One operation, by whatever road; then k. -/
def oper (P : Program) (φ : Specs) (ih : Task → St → T) (o : Oper) (s : St) (k : St → T) : T :=
  bif dstOk s o.dst then
    match valueCall o.op with
    | some (x, args) =>
      match target (ev s x) with
      | none => .fail
      | some (g, xs, ys) =>
        let as := xs ++ evL s args.toList ++ ys
        bif as.all notU then
        match P.funcs[g]? with
        | none => .fail
        | some fn =>
          bif fn.name == "runtime.NumGoroutine" then .fail else
          match fn.body with
          | none => .fail
          | some c =>
            match spec φ g with
            | some r => match valL as with
              | some vs => match r vs with
                | some z => k (put s o.dst (mk (isCL as) z))
                | none => .fail
              | none => .fail
            | none =>
              (ih (.code c) ⟨enterEnv as 0, Nat.max as.length fn.ntmps, s.h, s.nx⟩).bind fun e s' =>
                match e with
                | .exit _ => .fail
                | _ => match res P fn s' with
                  | some z => k (put ⟨s.env, s.n, s'.h, s'.nx⟩ o.dst z)
                  | none => .fail
        else .fail
    | none =>
      match step P s s.nx o with
      | some (x, d, p) => ask p (k (put (lay s d) o.dst x))
      | none => .fail
  else .fail

def F (P : Program) (φ : Specs) (ih : Task → St → T) : Task → St → T
  | .code c, s =>
    match c with
    | .skip => .leaf .normal s
    | .label _ => .leaf .normal s
    | .region _ ops draw =>
      bif draw then drawn P φ ih ops s else
      bif ops.toList.any (fun o => o.guard.isSome) && ops.toList.all (calm φ) then (ih (.ops ops.toList ops s.env.length) s).merge s
      else ih (.ops ops.toList ops s.env.length) s
    | .seq a b => (ih (.code a) s).bind fun e s' => match e with
      | .normal => ih (.code b) s'
      | e => .leaf e s'
    | .cond c a b =>
      match ev s c with
      | .c (.bool q) => match q with | true => ih (.code a) s | false => ih (.code b) s
      | .v (.bool q) => .ite q (ih (.code a) s) (ih (.code b) s)
      | _ => .fail
    | .block id b => (ih (.code b) s).bind fun e s' => match e with
      | .exit i => bif Nat.beq i id then .leaf .normal s' else .leaf (.exit i) s'
      | e => .leaf e s'
    | .scope b => ih (.code b) s
    | .loop b => ih (.rounds b) s
    | .exit i => .leaf (.exit i) s
    | .ret => .leaf .ret s
    | _ => .fail
  | .rounds b, s => (ih (.code b) s).bind fun e s' => match e with
    | .normal => ih (.rounds b) s'
    | e => .leaf e s'
  | .ops [] _ _, s => .leaf .normal s
  | .ops (o :: rest) all m, s =>
    match o.guard with
    | none => oper P φ ih o s fun s' => ih (.ops rest all m) s'
    | some (j, want) =>
      match (all[j]?).bind (·.dst) with
      | none => .fail
      | some tg =>
        match look s.env tg with
        | .c (.bool q) => match q == want with
          | true => oper P φ ih o s fun s' => ih (.ops rest all m) s'
          | false => bif dstOk s o.dst then ih (.ops rest all m) (put s o.dst (.c undef)) else .fail
        | .c (.tuple _) => bif dstOk s o.dst then ih (.ops rest all m) (put s o.dst (.c undef)) else .fail
        | .v (.bool q) => match setN m s.env tg (.c (.bool true)), setN m s.env tg (.c (.bool false)) with
          | some e1, some e2 => .ite q (ih (.ops (o :: rest) all m) ⟨e1, s.n, s.h, s.nx⟩) (ih (.ops (o :: rest) all m) ⟨e2, s.n, s.h, s.nx⟩)
          | _, _ => .fail
        | _ => .fail

def X (P : Program) (φ : Specs) : Nat → Task → St → T
  | 0 => fun _ _ => .fail
  | n + 1 => F P φ (X P φ n)

/-- What a body that only computes hands back, ways joined. -/
def T.resM (P : Program) (fn : Func) : T → Option Value
  | .leaf e s => match e with
    | .exit _ => none
    | _ => (X.res P fn s).bind val
  | .ite b x y => match x.resM P fn, y.resM P fn with
    | some (.bool p), some (.bool q) => some (.bool (bif b then p else q))
    | some (.int k p), some (.int k' q) => match decEq k k' with | .isTrue _ => some (.int k (bif b then p else q)) | .isFalse _ => none
    | some (.string p), some (.string q) => some (.string (bif b then p else q))
    | some p, some q => some (bif b then p else q)
    | _, _ => none
  | .req _ _ => none
  | .fail => none

def run (P : Program) (φ : Specs) (n : Nat) (fn : Func) (args : List V) : T :=
  match fn.body with
  | some c => X P φ n (.code c) ⟨enterEnv args 0, Nat.max args.length fn.ntmps, [], 0⟩
  | none => .fail

/-- A function that only computes, taken as its own contract: what the reader finds. -/
def self (P : Program) (n : Nat) (φ : Specs) (g : FuncId) : Specs :=
  match P.funcs[g]? with
  | some fn => (g, fun vs => (run P φ n fn (vs.map .v)).resM P fn) :: φ
  | none => φ
def selfs (P : Program) (n : Nat) (φ : Specs) : List FuncId → Specs
  | [] => φ
  | g :: gs => selfs P n (self P n φ g) gs

end Go.Proofs.Ythmighgfefjcmaa.X
