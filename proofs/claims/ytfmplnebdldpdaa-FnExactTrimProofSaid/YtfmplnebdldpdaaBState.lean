/- An abstract machine over trees: slots, boxes, rows; what each operation does, and what code does. No worlds. -/
import Derived.Test.YtfmplnebdldpdaaBTree
namespace Go.Proofs.Ytfmplnebdldpdaa
open Go.RowKit
/-- what a cell holds: a tree (a slice in it is read only), a row that the call has made (by its key), the nil slice, or nothing that is known -/
inductive AV where
  | c (x : CT)
  | row (k : Nat)
  | nil (e m : Nat)
  | dead
inductive SV where
  | any
  | und
  | p (agg : Bool) (cs : List AV)
  | tup (xs : List (Bool × List AV))
  | bp (k off : Nat)
  | rp (k m i off : Nat)
  | ep (e : List CT) (off : Nat)
  | fn (f : FuncId)
inductive Ob where
  | gone
  | box (t : TypeId) (cs : List AV)
  | row (e m : Nat) (xs : List (List CT)) (deep : Bool)
def upd {α : Type} (f : Nat → α) (k : Nat) (v : α) : Nat → α := fun j => if j = k then v else f j
structure St where
  sl : Nat → SV
  ob : Nat → Ob
  n : Nat
def St.put (st : St) (d : Option Nat) (v : SV) : St := match d with | none => st | some t => { st with sl := upd st.sl t v }
def updAll (ob : Nat → Ob) : List (Nat × Ob) → Nat → Ob
  | [] => ob
  | p :: r => updAll (upd ob p.1 p.2) r
def St.app (st : St) (u : List (Nat × Ob)) : St := { st with ob := updAll st.ob u }
/-- types: a field of a struct; a type of one cell, a struct, a slice -/
structure FI where
  off : Nat
  size : Nat
  agg : Bool
inductive TI where
  | atom (z : AV)
  | strct (fs : List FI) (n : Nat) (z : List AV)
  | slice (e m bytes : Nat) (z : List AV)
def zeroOf : Option TI → Option (List AV)
  | some (.atom z) => some [z]
  | some (.strct _ _ z) => some z
  | some (.slice e m _ _) => some [.nil e m]
  | none => none
def strOk (s : ByteArray) : Bool := Nat.ble s.data.toList.length 9223372036854775807
def cvT (ti : Option TI) : Value → SV
  | .int k n => .p false [.c (.int k n)]
  | .bool b => .p false [.c (.bool b)]
  | .string s => if strOk s then .p false [.c (.str s)] else .any
  | .slice none 0 0 => match ti with | some (.slice e m _ _) => .p false [.nil e m] | _ => .any
  | _ => .any
section
variable (tt : Nat → Option TI)
def St.ev (st : St) (t : Nat) : Operand → SV
  | .tmp s => st.sl s
  | .const v => cvT (tt t) v
  | .func f => .fn f
  | .global _ => .any
def bitV (op : BinOp) (k : IntKind) (x y : Int) : Option Int :=
  match op with
  | .and => some (k.wrap (BitVec.ofInt k.bits x &&& BitVec.ofInt k.bits y).toNat)
  | .or => some (k.wrap (BitVec.ofInt k.bits x ||| BitVec.ofInt k.bits y).toNat)
  | .xor => some (k.wrap (BitVec.ofInt k.bits x ^^^ BitVec.ofInt k.bits y).toNat)
  | .andNot => some (k.wrap (BitVec.ofInt k.bits x &&& ~~~ BitVec.ofInt k.bits y).toNat)
  | _ => none
def intV (op : BinOp) (k : IntKind) (x y : Int) : Option CT :=
  match op with
  | .add => some (.int k (k.wrap (x + y)))
  | .sub => some (.int k (k.wrap (x - y)))
  | .mul => some (.int k (k.wrap (x * y)))
  | .quo => if y = 0 then none else some (.int k (k.wrap (x.tdiv y)))
  | .rem => if y = 0 then none else some (.int k (x.tmod y))
  | .eql => some (.bool (x == y))
  | .neq => some (.bool (x != y))
  | .lss => some (.bool (decide (x < y)))
  | .leq => some (.bool (decide (x ≤ y)))
  | .gtr => some (.bool (decide (y < x)))
  | .geq => some (.bool (decide (y ≤ x)))
  | .shl => if y < 0 then none else some (.int k (k.wrap (x * 2 ^ (min y.toNat k.bits))))
  | .shr => if y < 0 then none else some (.int k (x.fdiv (2 ^ (min y.toNat k.bits))))
  | op => (bitV op k x y).map (.int k)
def sLt (x y : ByteArray) : Bool := Op.bytesLess x.toList y.toList
def sEq (x y : ByteArray) : Bool := decide (x = y)
def strV (op : BinOp) (x y : ByteArray) : Option CT :=
  match op with
  | .add => if x.size + y.size ≤ 9223372036854775807 then some (.str (x ++ y)) else none
  | .eql => some (.bool (sEq x y))
  | .neq => some (.bool (!sEq x y))
  | .lss => some (.bool (sLt x y))
  | .leq => some (.bool (sLt x y || sEq x y))
  | .gtr => some (.bool (!(sLt x y || sEq x y)))
  | .geq => some (.bool (!sLt x y))
  | _ => none
def binV (t : Option TI) (op : BinOp) : SV → SV → Option SV
  | .p false [.c (.int k x)], .p false [.c (.int k' y)] => if k = k' ∨ op = .shl ∨ op = .shr then (intV op k x y).map fun z => .p false [.c z] else none
  | .p false [.c (.str x)], .p false [.c (.str y)] => (strV op x y).map fun z => .p false [.c z]
  | .p false [.c (.bool x)], .p false [.c (.bool y)] =>
    match t, op with
    | some (.atom (.c (.bool _))), .eql => some (.p false [.c (.bool (x == y))])
    | some (.atom (.c (.bool _))), .neq => some (.p false [.c (.bool (!(x == y)))])
    | _, _ => none
  | _, _ => none
def unV (op : UnOp) : SV → Option SV
  | .p false [.c (.bool b)] => match op with | .not => some (.p false [.c (.bool (!b))]) | _ => none
  | .p false [.c (.int k n)] => match op with | .neg => some (.p false [.c (.int k (k.wrap (0 - n)))]) | _ => none
  | _ => none
def convV (s t : Option TI) : SV → Option SV
  | .p false [.c (.int _ n)] => match s, t with | some _, some (.atom (.c (.int k _))) => some (.p false [.c (.int k (k.wrap n))]) | _, _ => none
  | _ => none
def isSlice : Option TI → Bool
  | some (.slice _ _ _ _) => true
  | _ => false
def isStr : Option TI → Bool
  | some (.atom (.c (.str _))) => true
  | _ => false
def lenV (st : St) (t : Option TI) : SV → Option SV
  | .p false [.c (.sl _ _ xs)] => if isSlice t = true then some (.p false [.c (.int .i64 xs.length)]) else none
  | .p false [.c (.str s)] => if isStr t = true then some (.p false [.c (.int .i64 s.size)]) else none
  | .p false [.nil _ _] => if isSlice t = true then some (.p false [.c (.int .i64 0)]) else none
  | .p false [.row k] => match st.ob k with | .row _ _ xs _ => if isSlice t = true then some (.p false [.c (.int .i64 xs.length)]) else none | _ => none
  | _ => none
def idxAddr (st : St) (m : Nat) : SV → SV → Option SV
  | .p false [.c (.sl _ m' xs)], .p false [.c (.int _ i)] => if 0 ≤ i ∧ m = m' then (xs[i.toNat]?).map fun e => .ep e 0 else none
  | .p false [.row k], .p false [.c (.int _ i)] => match st.ob k with
    | .row _ m' xs _ => if 0 ≤ i ∧ i < xs.length ∧ m = m' then some (.rp k m i.toNat 0) else none
    | _ => none
  | _, _ => none
def idxStr (t : Option TI) : SV → SV → Option SV
  | .p false [.c (.str s)], .p false [.c (.int _ i)] => if 0 ≤ i ∧ isStr t = true then (s[i.toNat]?).map fun b => .p false [.c (.int .u8 b.toNat)] else none
  | _, _ => none
/-- so many of the cells from one on, as a value of the type -/
def cut (t : Option TI) (cs : List AV) (off : Nat) : Option SV :=
  match t with
  | some (.strct _ n _) => if off + n ≤ cs.length then some (.p true ((cs.drop off).take n)) else none
  | some _ => (cs[off]?).map fun x => .p false [x]
  | none => none
def loadV (st : St) (t : Option TI) : SV → Option SV
  | .bp k off => match st.ob k with | .box _ cs => cut t cs off | _ => none
  | .rp k m i off => match st.ob k with | .row _ m' xs _ => (xs[i]?).bind fun e => if m = m' then cut t (e.map .c) off else none | _ => none
  | .ep e off => cut t (e.map .c) off
  | _ => none
def splice {α : Type} (cs : List α) (off : Nat) (vs : List α) : List α := cs.take off ++ (vs ++ cs.drop (off + vs.length))
def flatC : AV → Option CT
  | .c (.sl _ _ _) => none
  | .c x => some x
  | _ => none
def flatCs : List AV → Option (List CT)
  | [] => some []
  | x :: r => (flatC x).bind fun a => (flatCs r).map fun b => a :: b
def sizeTI : Option TI → Nat
  | some (.strct _ n _) => n
  | some _ => 1
  | none => 0
def storeV (st : St) (t : Option TI) : SV → SV → Option (List (Nat × Ob))
  | .bp k off, .p _ vs => match st.ob k with
    | .box tb cs => if vs.length = sizeTI t ∧ 0 < vs.length ∧ off + vs.length ≤ cs.length then some [(k, .box tb (splice cs off vs))] else none
    | _ => none
  | .rp k m i off, .p _ vs => match st.ob k with
    | .row e m' xs d => (xs[i]?).bind fun x => (flatCs vs).bind fun ys => if m = m' ∧ vs.length = sizeTI t ∧ 0 < vs.length ∧ off + vs.length ≤ m then some [(k, .row e m (xs.set i (splice x off ys)) d)] else none
    | _ => none
  | _, _ => none
def ptrAdd (d : Nat) : SV → Option SV
  | .bp k off => some (.bp k (off + d))
  | .rp k m i off => some (.rp k m i (off + d))
  | .ep e off => some (.ep e (off + d))
  | _ => none
def fieldV (fs : List FI) (f : Nat) : SV → Option SV
  | .p true cs => (fs[f]?).bind fun i => if i.agg then (if i.off + i.size ≤ cs.length then some (.p true ((cs.drop i.off).take i.size)) else none) else (cs[i.off]?).map fun x => .p false [x]
  | _ => none
def fillS (fs : List FI) (cs : List AV) : List (Nat × SV) → Option (List AV)
  | [] => some cs
  | (i, .p _ vs) :: r => (fs[i]?).bind fun f => if vs.length = f.size ∧ f.off + vs.length ≤ cs.length then fillS fs (splice cs f.off vs) r else none
  | _ :: _ => none
/-- the constant nil at a field reads as the field's zero value -/
def partS (st : St) (fs : List FI) (z : List AV) (p : Nat × Operand) : Nat × SV :=
  match p.2 with
  | .const (.slice none 0 0) => (p.1, match (fs[p.1]?).bind fun f => z[f.off]? with | some (.nil e m) => .p false [.nil e m] | _ => .any)
  | x => (p.1, st.ev tt 0 x)
/-- a cell as a tree: the rows that are used up, and whether all that it leads to is the call's own -/
def avT (st : St) : AV → Option (CT × List Nat × Bool)
  | .c (.sl e m xs) => some (.sl e m xs, [], false)
  | .c x => some (x, [], true)
  | .nil e m => if 0 < m then some (.sl e m [], [], true) else none
  | .row k => match st.ob k with | .row e m xs d => some (.sl e m xs, [k], d) | _ => none
  | .dead => none
def avTs (st : St) : List AV → Option (List CT × List Nat × Bool)
  | [] => some ([], [], true)
  | x :: r => (avT st x).bind fun a => (avTs st r).map fun b => (a.1 :: b.1, a.2.1 ++ b.2.1, a.2.2 && b.2.2)
def elemsS (st : St) (m : Nat) : List SV → Option (List (List CT) × List Nat × Bool)
  | [] => some ([], [], true)
  | .p _ cs :: r => if cs.length = m then (avTs st cs).bind fun a => (elemsS st m r).map fun b => (a.1 :: b.1, a.2.1 ++ b.2.1, a.2.2 && b.2.2) else none
  | _ :: _ => none
def goneAll (ks : List Nat) : List (Nat × Ob) := ks.map fun k => (k, Ob.gone)
def CT.flat : CT → Bool
  | .sl _ _ _ => false
  | _ => true
def flatEs (xs : List (List CT)) : Bool := xs.all fun e => e.all CT.flat
def appSrc (st : St) : SV → Option (List (List CT) × List Nat × Bool)
  | .p false [.c (.sl _ _ ys)] => some (ys, [], flatEs ys)
  | .p false [.nil _ _] => some ([], [], true)
  | .p false [.row j] => match st.ob j with | .row _ _ ys d => some (ys, [j], d) | _ => none
  | _ => none
def appDst (st : St) : SV → Option (List (List CT) × List Nat × Bool)
  | .p false [.nil _ _] => some ([], [], true)
  | .p false [.row k] => match st.ob k with | .row _ _ xs d => some (xs, [k], d) | _ => none
  | _ => none
def dstOk (st : St) (e m : Nat) : SV → Bool
  | .p false [.row k] => match st.ob k with | .row e' m' _ _ => e == e' && m == m' | _ => false
  | .p false [.nil _ _] => true
  | _ => false
def srcOk (st : St) (m : Nat) : SV → Bool
  | .p false [.row k] => match st.ob k with | .row _ m' _ _ => m == m' | _ => false
  | .p false [.c (.sl _ m' _)] => m == m'
  | .p false [.nil _ _] => true
  | _ => false
def appV (st : St) (key : Nat) (t : Option TI) (s x : SV) : Option (SV × List (Nat × Ob)) :=
  match t with
  | some (.slice e m _ _) =>
    (appDst st s).bind fun a => (appSrc st x).bind fun b =>
      if dstOk st e m s = true ∧ srcOk st m x = true ∧ (a.2.1 ++ b.2.1).Nodup ∧ a.1.length + b.1.length ≤ 1073741824 then
        some (.p false [.row key], goneAll (a.2.1 ++ b.2.1) ++ [(key, .row e m (a.1 ++ b.1) (a.2.2 && b.2.2))]) else none
  | _ => none
def maxV (lo : Bool) : SV → SV → Option SV
  | .p false [.c (.int k x)], .p false [.c (.int _ y)] => some (.p false [.c (.int k (if lo then (if y < x then y else x) else (if x < y then y else x)))])
  | _, _ => none
def sizeSl : Option TI → Nat
  | some (.slice _ m _ _) => m
  | _ => 0
def hiB (n : Nat) : Option SV → Option Nat
  | none => some n
  | some (.p false [.c (.int _ h)]) => if 0 ≤ h ∧ h ≤ n then some h.toNat else none
  | _ => none
def loB (n : Nat) : Option SV → Option Nat
  | none => some 0
  | some (.p false [.c (.int _ l)]) => if 0 ≤ l ∧ l ≤ n then some l.toNat else none
  | _ => none
def sliceV (t : Option TI) (lo hi : Option SV) : SV → Option SV
  | .p false [.c (.str s)] => if isStr t = true then (hiB s.size hi).bind fun h => (loB h lo).map fun l => .p false [.c (.str (s.extract l h))] else none
  | .p false [.c (.sl e m xs)] => if sizeSl t = m then (hiB xs.length hi).bind fun h => (loB h lo).map fun l => .p false [.c (.sl e m ((xs.take h).drop l))] else none
  | _ => none
def zCTs : List AV → Option (List CT)
  | [] => some []
  | .c x :: r => (zCTs r).map fun b => x :: b
  | .nil e m :: r => if 0 < m then (zCTs r).map fun b => .sl e m [] :: b else none
  | _ :: _ => none
def makeV (key : Nat) (t : Option TI) : SV → SV → Option (SV × List (Nat × Ob))
  | .p false [.c (.int .i64 n)], .p false [.c (.int .i64 c)] =>
    match t with
    | some (.slice e m _ z) => (zCTs z).bind fun ze => if 0 ≤ n ∧ n = c ∧ n ≤ 1073741824 then some (.p false [.row key], [(key, .row e m (List.replicate n.toNat ze) true)]) else none
    | _ => none
  | _, _ => none
def extV (i : Nat) : SV → Option SV
  | .tup xs => (xs[i]?).map fun x => .p x.1 x.2
  | _ => none
def pure1 (v : Option SV) : Option (SV × List (Nat × Ob)) := v.map fun v => (v, [])
def zipT : List TypeId → List Operand → List (TypeId × Operand)
  | t :: ts, x :: xs => (t, x) :: zipT ts xs
  | [], x :: xs => (0, x) :: zipT [] xs
  | _, [] => []
def evs (st : St) (ts : List TypeId) (xs : List Operand) : List SV := (zipT ts xs).map fun p => st.ev tt p.1 p.2
def bltV (st : St) (key : Nat) (b : Builtin) (ts : List TypeId) (vs : List SV) : Option (SV × List (Nat × Ob)) :=
  match b, ts, vs with
  | .len, t :: _, [x] => pure1 (lenV st (tt t) x)
  | .append, [t, u], [s, x] => if t = u then appV st key (tt t) s x else none
  | .max, _, [x, y] => pure1 (maxV false x y)
  | .min, _, [x, y] => pure1 (maxV true x y)
  | _, _, _ => none
def opE (key : Nat) (o : Oper) (st : St) : Option (SV × List (Nat × Ob)) :=
  match o.op with
  | .move x => some (st.ev tt o.type x, [])
  | .assign x => some (st.ev tt o.type x, [])
  | .pick c a b => match st.ev tt 0 c with | .p false [.c (.bool t)] => some (if t = true then st.ev tt o.type a else st.ev tt o.type b, []) | _ => none
  | .alloc t => (zeroOf (tt t)).map fun z => (.bp key 0, [(key, .box t z)])
  | .box t x => match st.ev tt t x with | .p _ cs => some (.bp key 0, [(key, .box t cs)]) | _ => none
  | .build t parts => match tt t with | some (.strct fs _ z) => (fillS fs z (parts.toList.map (partS tt st fs z))).map fun cs => (.p true cs, []) | _ => none
  | .buildSlice t len parts => match tt t with
    | some (.slice e m _ _) => (elemsS st m (parts.toList.map fun p => st.ev tt e p.2)).bind fun a =>
      if parts.toList.map (·.1) = List.range len ∧ len * m ≤ 16777216 ∧ a.2.1.Nodup then some (.p false [.row key], goneAll a.2.1 ++ [(key, .row e m a.1 a.2.2)]) else none
    | _ => none
  | .load t x => pure1 (loadV st (tt t) (st.ev tt 0 x))
  | .store t x v => (storeV st (tt t) (st.ev tt 0 x) (st.ev tt t v)).map fun u => (.und, u)
  | .nilCheck x => match st.ev tt 0 x with | .bp k i => some (.bp k i, []) | .rp k m i j => some (.rp k m i j, []) | .ep e i => some (.ep e i, []) | _ => none
  | .binOp op t x y _ => pure1 (binV (tt t) op (st.ev tt t x) (st.ev tt t y))
  | .unOp op _ x => pure1 (unV op (st.ev tt 0 x))
  | .convert s t x => pure1 (convV (tt s) (tt t) (st.ev tt 0 x))
  | .makeSlice t n c => makeV key (tt t) (st.ev tt 0 n) (st.ev tt 0 c)
  | .slice t x lo hi none => pure1 (sliceV (tt t) (lo.map (st.ev tt 0)) (hi.map (st.ev tt 0)) (st.ev tt 0 x))
  | .fieldAddr t x f => match tt t with | some (.strct fs _ _) => pure1 ((fs[f]?).bind fun i => ptrAdd i.off (st.ev tt 0 x)) | _ => none
  | .field t x f => match tt t with | some (.strct fs _ _) => pure1 (fieldV fs f (st.ev tt 0 x)) | _ => none
  | .indexAddr t x i => match tt t with | some (.slice _ m _ _) => pure1 (idxAddr st m (st.ev tt 0 x) (st.ev tt 0 i)) | _ => none
  | .index t x i => pure1 (idxStr (tt t) (st.ev tt 0 x) (st.ev tt 0 i))
  | .extract x i => pure1 (extV i (st.ev tt 0 x))
  | .call c => match c.callee with
    | .builtin b => bltV tt st key b c.argTypes.toList (evs tt st c.argTypes.toList c.args.toList)
    | _ => none
  | _ => none
end
/-- an argument as a tree -/
def avArg (st : St) : AV → Option CT
  | .c x => some x
  | .nil e m => if 0 < m then some (.sl e m []) else none
  | .row k => match st.ob k with | .row e m xs _ => some (.sl e m xs) | _ => none
  | .dead => none
def avArgs (st : St) : List AV → Option (List CT)
  | [] => some []
  | x :: r => (avArg st x).bind fun a => (avArgs st r).map fun b => a :: b
def svArg (st : St) : SV → Option (Bool × List CT)
  | .p a cs => (avArgs st cs).map fun l => (a, l)
  | _ => none
def svArgs (st : St) : List SV → Option (List (Bool × List CT))
  | [] => some []
  | x :: r => (svArg st x).bind fun a => (svArgs st r).map fun b => a :: b
/-- results as cells: the slices get keys -/
def bindCs (key : Nat) : List CT → List AV × List (Nat × Ob) × Nat
  | [] => ([], [], key)
  | .sl e m xs :: r => let b := bindCs (key + 1) r; (.row key :: b.1, (key, .row e m xs true) :: b.2.1, b.2.2)
  | x :: r => let b := bindCs key r; (.c x :: b.1, b.2.1, b.2.2)
def bindRs (key : Nat) : List (Bool × List CT) → List (Bool × List AV) × List (Nat × Ob) × Nat
  | [] => ([], [], key)
  | x :: r => let a := bindCs key x.2; let b := bindRs a.2.2 r; ((x.1, a.1) :: b.1, a.2.1 ++ b.2.1, b.2.2)
def resSV : List (Bool × List AV) → SV
  | [x] => .p x.1 x.2
  | xs => .tup xs
/-- what a call is taken by: for these arguments it gives these results, all of them new memory -/
abbrev Ctx := FuncId → List (Bool × List CT) → List (Bool × List CT) → Prop
inductive Ex where
  | normal
  | exit (id : Nat)
  | ret
section
variable (tt : Nat → Option TI) (S : Ctx)
/-- go on with a value, if there is one -/
def optK {α : Type} (r : Option α) (K : α → Prop) : Prop := match r with | some v => K v | none => False
def putK (dst : Option Nat) (K : St → Prop) (st : St) (v : SV) : Prop := K (st.put dst v)
def putU (dst : Option Nat) (K : St → Prop) (st : St) (r : SV × List (Nat × Ob)) : Prop := K ((st.put dst r.1).app r.2)
def callK (f : FuncId) (key : Nat) (dst : Option Nat) (K : St → Prop) (st : St) (l : List (Bool × List CT)) : Prop :=
  ∃ res, S f l res ∧ (bindRs key res).2.2 ≤ key + 16 ∧ K ((st.put dst (resSV (bindRs key res).1)).app (bindRs key res).2.1)
def goCall : Op → Option (FuncId × List TypeId × List Operand)
  | .call ⟨.value (.func f), args, ts⟩ => some (f, ts.toList, args.toList)
  | _ => none
def opS (key : Nat) (o : Oper) (K : St → Prop) (st : St) : Prop :=
  match goCall o.op with
  | some c => optK (svArgs st (evs tt st c.2.1 c.2.2)) (callK S c.1 key o.dst K st)
  | none => optK (opE tt key o st) (putU o.dst K st)
/-- the slot that a guard looks at -/
def gslot (all : List Oper) (o : Oper) : Option (Option Nat × Bool) :=
  match o.guard with
  | none => none
  | some g => some ((all[g.1]?).bind (·.dst), g.2)
def isBool : SV → Bool
  | .p false [.c (.bool _)] => true
  | _ => false
def getBool : SV → Bool
  | .p false [.c (.bool b)] => b
  | _ => false
def isUnd : SV → Bool
  | .und => true
  | _ => false
def gK (v : SV) (want : Bool) (A B : Prop) : Prop := if isBool v = true then (if (getBool v == want) = true then A else B) else (if isUnd v = true then B else False)
def opG (all : List Oper) (key : Nat) (o : Oper) (K : St → Prop) (st : St) : Prop :=
  match gslot all o with
  | none => opS tt S key o K st
  | some (none, _) => K (st.put o.dst .und)
  | some (some t, want) => gK (st.sl t) want (opS tt S key o K st) (K (st.put o.dst .und))
def opsS (all : List Oper) (key : Nat) : List Oper → (St → Prop) → St → Prop
  | [], K, st => K st
  | o :: r, K, st => opG tt S all key o (opsS all (key + 16) r K) st
def endK (n : Nat) (K : St → Prop) (st : St) : Prop := K { st with n := n }
def regS (ops : List Oper) (K : St → Prop) (st : St) : Prop := opsS tt S ops st.n ops (endK (st.n + 16 * ops.length) K) st
def thenK (k : St → Prop) (Q : Ex → St → Prop) : Ex → St → Prop
  | .normal, st => k st
  | e, st => Q e st
def blockK (id : Nat) (Q : Ex → St → Prop) : Ex → St → Prop
  | .exit j, st => if j = id then Q .normal st else Q (.exit j) st
  | e, st => Q e st
def condK (v : SV) (a b : Prop) : Prop := if isBool v = true then (if getBool v = true then a else b) else False
def kidx : List Nat → Nat → Nat → Option Nat
  | [], _, _ => none
  | x :: r, k, i => if x = k then some i else kidx r k (i + 1)
/-- keys anew: the key j stands for what stood at the key ρ[j]; what has no new key is forgotten -/
def rAV (ρ : List Nat) : AV → AV
  | .row k => match kidx ρ k 0 with | some j => .row j | none => .dead
  | x => x
def rSV (ρ : List Nat) : SV → SV
  | .p a cs => .p a (cs.map (rAV ρ))
  | .tup xs => .tup (xs.map fun x => (x.1, x.2.map (rAV ρ)))
  | .bp k off => match kidx ρ k 0 with | some j => .bp j off | none => .any
  | .rp k m i off => match kidx ρ k 0 with | some j => .rp j m i off | none => .any
  | x => x
def rOb (ρ : List Nat) : Ob → Ob
  | .box t cs => .box t (cs.map (rAV ρ))
  | x => x
def St.ren (st : St) (ρ : List Nat) : St := ⟨fun t => rSV ρ (st.sl t), fun j => match ρ[j]? with | some k => rOb ρ (st.ob k) | none => .gone, ρ.length⟩
/-- a nil slice, in a slot or in a box's cell, taken for a new row without elements -/
def St.mat (st : St) (m : Bool × Nat × Nat) : St :=
  match m.1 with
  | false => match st.sl m.2.1 with
    | .p false [.nil e q] => if 0 < q then ⟨upd st.sl m.2.1 (.p false [.row st.n]), upd st.ob st.n (.row e q [] true), st.n + 1⟩ else st
    | _ => st
  | true => match st.ob m.2.1 with
    | .box ty cs => match cs[m.2.2]? with
      | some (.nil e q) => if 0 < q then ⟨st.sl, upd (upd st.ob m.2.1 (.box ty (cs.set m.2.2 (.row st.n)))) st.n (.row e q [] true), st.n + 1⟩ else st
      | _ => st
    | _ => st
def St.mats (st : St) : List (Bool × Nat × Nat) → St
  | [] => st
  | m :: r => (st.mat m).mats r
def loopN (F : (Ex → St → Prop) → St → Prop) (Q : Ex → St → Prop) : Nat → St → Prop
  | 0, _ => False
  | n + 1, st => ∃ (ms : List (Bool × Nat × Nat)) (ρ : List Nat), ρ.Nodup ∧ F (thenK (loopN F Q n) Q) ((st.mats ms).ren ρ)
def swp : Code → (Ex → St → Prop) → St → Prop
  | .skip, Q, st => Q .normal st
  | .region _ ops _, Q, st => regS tt S ops.toList (Q .normal) st
  | .seq a b, Q, st => swp a (thenK (swp b Q) Q) st
  | .cond c a b, Q, st => condK (st.ev tt 0 c) (swp a Q st) (swp b Q st)
  | .block id b, Q, st => swp b (blockK id Q) st
  | .loop b, Q, st => ∃ n, loopN (swp b) Q n st
  | .exit id, Q, st => Q (.exit id) st
  | .ret, Q, st => Q .ret st
  | _, _, _ => False
end
/-- the results: each slice in them is a row that the call has made whole, no row twice -/
def resAV (st : St) : AV → Option (CT × List Nat)
  | .c (.sl _ _ _) => none
  | .c x => some (x, [])
  | .nil e m => if 0 < m then some (.sl e m [], []) else none
  | .row k => match st.ob k with | .row e m xs true => some (.sl e m xs, [k]) | _ => none
  | .dead => none
def resAVs (st : St) : List AV → Option (List CT × List Nat)
  | [] => some ([], [])
  | x :: r => (resAV st x).bind fun a => (resAVs st r).map fun b => (a.1 :: b.1, a.2 ++ b.2)
def resOf (tt : Nat → Option TI) (st : St) : List ResultVar → Option (List (Bool × List CT) × List Nat)
  | [] => some ([], [])
  | .tmp t :: r => match st.sl t with
    | .p a cs => (resAVs st cs).bind fun x => (resOf tt st r).map fun b => ((a, x.1) :: b.1, x.2 ++ b.2)
    | _ => none
  | .cell t ty :: r => match loadV st (tt ty) (st.sl t) with
    | some (.p a cs) => (resAVs st cs).bind fun x => (resOf tt st r).map fun b => ((a, x.1) :: b.1, x.2 ++ b.2)
    | _ => none
def argSt (args : List (Bool × List CT)) : St := ⟨fun t => match args[t]? with | some x => .p x.1 (x.2.map .c) | none => .und, fun _ => .gone, 0⟩
def retK (tt : Nat → Option TI) (rs : List ResultVar) (R : List (Bool × List CT) → Prop) : Ex → St → Prop
  | .exit _, _ => False
  | _, st => match resOf tt st rs with | some x => x.2.Nodup ∧ R x.1 | none => False
def fnS (tt : Nat → Option TI) (S : Ctx) (rs : List ResultVar) (body : Code) (args : List (Bool × List CT)) (R : List (Bool × List CT) → Prop) : Prop := swp tt S body (retK tt rs R) (argSt args)
end Go.Proofs.Ytfmplnebdldpdaa
