/- Typed abstract walk, part 5: the operations of the walk, what they do, and how they fit the program's own. -/
import Derived.Test.YtbbpiihbhdagnaaT4
namespace Go.Proofs.Ytbbpiihbhdagnaa
set_option linter.unusedVariables false
set_option linter.unusedSimpArgs false
open Go.RowKit
namespace T

/-- Operands. -/
inductive XA
  | t (n : Nat) | int (k : IntKind) (n : Int) | bool (b : Bool) | str (s : ByteArray) | nil | fn (f : FuncId) | nilp | nilm
def XA.opnd : XA → Operand
  | .t n => .tmp n
  | .int k n => .const (.int k n)
  | .bool b => .const (.bool b)
  | .str s => .const (.string s)
  | .nil => .const (.slice none 0 0)
  | .fn f => .func f
  | .nilp => .const (.pointer none)
  | .nilm => .const (.map none)
/-- The slots: the last word counts. -/
def tmG : List (Nat × AV) → Nat → AV
  | [], _ => .top
  | (k, v) :: r, t => if t = k then v else tmG r t
def XA.slot : XA → List Nat
  | .t k => [k]
  | _ => []
def XA.av (tm : List (Nat × AV)) : XA → AV
  | .t n => tmG tm n
  | .int k n => .val (.int k) n
  | .bool b => .val .bool b
  | .str s => .val .str s
  | .nil => .cst (.slice none 0 0)
  | .fn f => .clo f []
  | .nilp => .cst (.pointer none)
  | .nilm => .cst (.map none)
def XA.ok : XA → Prop
  | .int k n => k.min ≤ n ∧ n ≤ k.max
  | .str s => s.size ≤ maxLen
  | _ => True
def opOk : Operand → XA → Bool
  | .tmp n, .t m => n == m
  | .const (.int k n), .int k' n' => k == k' && n == n' && decide (k.min ≤ n) && decide (n ≤ k.max)
  | .const (.bool b), .bool b' => b == b'
  | .const (.string s), .str s' => decide (s = s') && decide (s.size ≤ maxLen)
  | .const (.slice none 0 0), .nil => true
  | .const (.pointer none), .nilp => true
  | .const (.map none), .nilm => true
  | .func f, .fn g => f == g
  | _, _ => false
def opsOk : List Operand → List XA → Bool
  | [], [] => true
  | o :: os, x :: xs => opOk o x && opsOk os xs
  | _, _ => false

inductive XOp
  | mv | nilrow (e : TypeId) (t : Ty) | nilck | pick | alloc (T : TypeId) (t : Ty) | box (T : TypeId) | load (t : Ty) | store (t : Ty) | bin (op : BinOp) | beq (neg : Bool) (t : Ty) | steq (neg : Bool) (t : Ty) | mkmap (k : IntKind) (t : Ty) | mapget (k : IntKind) (t : Ty) (ok : Bool) | mapset (k : IntKind) (t : Ty) | mapdel (k : IntKind) (t : Ty) | isnil (neg : Bool) (t : Ty) | not | neg | conv (k : IntKind)
  | field (off : Nat) (t : Ty) | faddr (off : Nat) (t : Ty) | iaddr (t : Ty) | slice (t : Ty) (lo hi own : Bool) | mkslice (e : TypeId) (t : Ty) (bytes : Nat) | mkarr (e : TypeId) (bytes : Nat) | build (t : Ty) (parts : List (Nat × Ty))
  | bslice (e : TypeId) (t : Ty) (n : Nat) (idx : List Nat) | extract (i : Nat) | call (f : FuncId) | callv | len (str : Bool) | append (e : TypeId) (t : Ty) (bytes : Nat) | min | max | mkfn (f : FuncId) | mkbnd (f : FuncId) | copy (e : TypeId) (t : Ty) | allocz (T : TypeId) (m : Bool) | mrange (k : IntKind) (t : Ty) | entry

/-! What the operations do. -/
def intBin (op : BinOp) (k : IntKind) (x y : Int) : Option (Prop × AV) :=
  match op with
  | .add => some (True, .val (.int k) (k.wrap (x + y)))
  | .sub => some (True, .val (.int k) (k.wrap (x - y)))
  | .mul => some (True, .val (.int k) (k.wrap (x * y)))
  | .quo => some (y ≠ 0, .val (.int k) (k.wrap (x.tdiv y)))
  | .rem => some (y ≠ 0, .val (.int k) (x.tmod y))
  | .and => some (True, .val (.int k) (k.wrap (BitVec.ofInt k.bits x &&& BitVec.ofInt k.bits y).toNat))
  | .or => some (True, .val (.int k) (k.wrap (BitVec.ofInt k.bits x ||| BitVec.ofInt k.bits y).toNat))
  | .xor => some (True, .val (.int k) (k.wrap (BitVec.ofInt k.bits x ^^^ BitVec.ofInt k.bits y).toNat))
  | .andNot => some (True, .val (.int k) (k.wrap (BitVec.ofInt k.bits x &&& ~~~ BitVec.ofInt k.bits y).toNat))
  | .eql => some (True, .val .bool (x == y))
  | .neq => some (True, .val .bool (x != y))
  | .lss => some (True, .val .bool (decide (x < y)))
  | .leq => some (True, .val .bool (decide (x ≤ y)))
  | .gtr => some (True, .val .bool (decide (x > y)))
  | .geq => some (True, .val .bool (decide (x ≥ y)))
  | _ => none
def binx (op : BinOp) : AV → AV → Option (Prop × AV)
  | .val (.int k) x, .val (.int k') y =>
    match op with
    | .shl => some (0 ≤ y, .val (.int k) (k.wrap (x * 2 ^ (Nat.min y.toNat k.bits))))
    | .shr => some (0 ≤ y, .val (.int k) (Int.fdiv x (2 ^ (Nat.min y.toNat k.bits))))
    | op => if k = k' then intBin op k x y else none
  | _, _ => none
/-- Are two values equal? -/
def eqx : (t : Ty) → AV → AV → Option Bool
  | .bool, .val .bool x, .val .bool y => some (x == y)
  | .str, .val .str x, .val .str y => some (x.toList == y.toList)
  | _, _, _ => none
/-- Are two structs equal? -/
def eqd : (t : Ty) → t.den → t.den → Bool
  | .bool, x, y => x == y
  | .int _, x, y => x == y
  | .str, x, y => x.toList == y.toList
  | .st t, x, y => eqd t x y
  | .cons a b, x, y => eqd a x.1 y.1 && eqd b x.2 y.2
  | .nil, _, _ => true
  | _, _, _ => false
def eqsx (lh : Hp) (t : Ty) (a b : AV) : Option Bool := match rd lh t a with
  | some (x, ls) => match rd lh t b with
    | some (y, ms) => some (eqd t x y)
    | none => none
  | none => none
/-! Maps: their entries in the order in which they came. -/
def mget {α : Type} (z : α) : List (Int × α) → Int → α
  | [], _ => z
  | p :: r, i => if p.1 = i then p.2 else mget z r i
def mhas {α : Type} : List (Int × α) → Int → Bool
  | [], _ => false
  | p :: r, i => if p.1 = i then true else mhas r i
def mset {α : Type} : List (Int × α) → Int → α → List (Int × α)
  | [], i, v => [(i, v)]
  | p :: r, i, v => if p.1 = i then (i, v) :: r else p :: mset r i v
def mdel {α : Type} : List (Int × α) → Int → List (Int × α)
  | [], _ => []
  | p :: r, i => if p.1 = i then r else p :: mdel r i
def mapOf (lh : Hp) (k : IntKind) (t : Ty) : AV → Option (Nat × List (Int × t.den))
  | .own l => match lh l with
    | some (.mp k' t' xs) => (cast? (.sl (.cons (.int k) t)) (.sl (.cons (.int k') t')) xs).map fun ys => (l, ys)
    | _ => none
  | _ => none
def keyOf' (k : IntKind) : AV → Option Int
  | .val (.int k') i => if k' = k then some i else none
  | _ => none
/-- The cells of a value. -/
def cellsOf (lh : Hp) : AV → Option (List AV)
  | .agg cs => some cs
  | .val t d => some (scatter t d)
  | .own l => (lh l).map fun _ => [.own l]
  | .ptr l o => (lh l).map fun _ => [.ptr l o]
  | .arr l n => (lh l).map fun _ => [.arr l n]
  | .clo f cap => some [.clo f cap]
  | .cst (.slice none 0 0) => some [.cst (.slice none 0 0)]
  | _ => none
def partOf (t : Ty) (cs : List AV) (off : Nat) : Option AV :=
  if t.isSt then (if off + t.size ≤ cs.length then some (.agg ((cs.drop off).take t.size)) else none) else cs[off]?
def loadx (lh : Hp) (t : Ty) : AV → Option (Prop × AV)
  | .ptr l o => match lh l with
    | some (.box _ cs) => (partOf t cs o).map fun c => (True, c)
    | _ => none
  | .val (.ptr t') d => (cast? t t' d).map fun e => (True, .val t e)
  | .eptr l i o => match lh l with
    | some (.row _ t' xs) => (proj t t' (xs.getD i t'.dflt) o).map fun e => (i < xs.length, .val t e)
    | _ => none
  | _ => none
def splice (cs : List AV) (o : Nat) (ns : List AV) : List AV := cs.take o ++ ns ++ cs.drop (o + ns.length)
def storex (lh : Hp) (t : Ty) (x : AV) : AV → Option (Prop × Eff)
  | .ptr l o => match lh l with
    | some (.box T cs) => match cellsOf lh x with
      | some ns => if o + ns.length ≤ cs.length ∧ ns.length = t.size then some (True, ⟨.top, [], some (l, .box T (splice cs o ns))⟩) else none
      | none => none
    | _ => none
  | .eptr l i o => match lh l with
    | some (.row e t' xs) => match rd lh t x with
      | some (d, ls) => if l ∈ ls then none else (upd t d t' (xs.getD i t'.dflt) o).map fun y => (i < xs.length, ⟨.top, ls, some (l, .row e t' (xs.set i y))⟩)
      | none => none
    | _ => none
  | _ => none
def fieldx (off : Nat) (t : Ty) : AV → Option AV
  | .val t' d => if t'.isSt then (proj t t' d off).map (.val t) else none
  | .agg cs => partOf t cs off
  | _ => none
def faddrx (lh : Hp) (off : Nat) (t : Ty) : AV → Option AV
  | .ptr l o => (lh l).map fun _ => .ptr l (o + off)
  | .eptr l i o => match lh l with
    | some (.row ..) => some (.eptr l i (o + off))
    | _ => none
  | .val (.ptr t') d => (proj t t' d off).map (.val (.ptr t))
  | _ => none
def iaddrx (lh : Hp) (t : Ty) (i : Int) : AV → Option (Prop × AV)
  | .own l => match lh l with
    | some (.row _ t' xs) => if t' = t then some (0 ≤ i ∧ i < xs.length, .eptr l i.toNat 0) else none
    | _ => none
  | .val (.sl t') xs => if t' = t then some (0 ≤ i ∧ i < xs.length, .val (.ptr t') (xs.getD i.toNat t'.dflt)) else none
  | .arr l n => match lh l with
    | some (.box _ _) => if t.size = 1 then some (0 ≤ i ∧ i < n, .ptr l i.toNat) else none
    | _ => none
  | _ => none
def avInt : AV → Option Int
  | .val (.int _) n => some n
  | _ => none
def avIntK : AV → Option (IntKind × Int)
  | .val (.int k) n => some (k, n)
  | _ => none
def avBool : AV → Option Bool
  | .val .bool b => some b
  | _ => none
def extx (i : Nat) : AV → Option AV
  | .tup vs => vs[i]?
  | _ => none
def bounds (lo hi : Bool) (bs : List AV) (n : Int) : Option (Int × Int) :=
  match bs with
  | [] => if !lo && !hi then some (0, n) else none
  | [x] => if lo && !hi then (avInt x).map fun l => (l, n) else if !lo && hi then (avInt x).map fun h => (0, h) else none
  | [x, y] => if lo && hi then (avInt x).bind fun l => (avInt y).map fun h => (l, h) else none
  | _ => none
def slicex (lh : Hp) (t : Ty) (lo hi : Bool) (bs : List AV) (x : AV) : Option (Prop × Eff) :=
  match rd lh (.sl t) x with
  | some (xs, ls) => match bounds lo hi bs xs.length with
    | some (l, h) => some (0 ≤ l ∧ l ≤ h ∧ h ≤ xs.length, ⟨.val (.sl t) ((xs.take h.toNat).drop l.toNat), ls, none⟩)
    | none => none
  | none => none
def fillx (lh : Hp) : List AV → List (Nat × Ty) → List AV → Option (List AV)
  | cs, [], [] => some cs
  | cs, (o, t) :: ps, a :: r => match cellsOf lh a with
    | some ns => if ns.length = t.size ∧ o + ns.length ≤ cs.length then fillx lh (splice cs o ns) ps r else none
    | none => none
  | _, _, _ => none
def rowx (lh : Hp) (t : Ty) : List t.den → List Nat → List AV → Option (List t.den × List Nat)
  | xs, [], [] => some (xs, [])
  | xs, i :: is, a :: r => if i < xs.length then match rd lh t a with
    | some (d, ls) => (rowx lh t (xs.set i d) is r).map fun y => (y.1, ls ++ y.2)
    | none => none else none
  | _, _, _ => none
def Ty.scalar : Ty → Bool
  | .bool | .int _ | .str | .nil => true
  | .st t => t.scalar
  | .cons a b => a.scalar && b.scalar
  | _ => false
def findEnt (C : List Ent) (f : FuncId) : Option Ent := C.find? fun e => e.f == f
def rdCap (lh : Hp) : (t : Ty) → List AV → Option (t.den × List Nat)
  | .nil, [] => some ((), [])
  | .cons a b, x :: r => match rd lh a x with
    | some (d, l) => match rdCap lh b r with
      | some (e, l') => some ((d, e), l ++ l')
      | none => none
    | none => none
  | _, _ => none
def rdClo (C : List Ent) (lh : Hp) (t : Ty) (f : FuncId) (cap : List AV) : Option (Prop × t.den × List Nat) :=
  match findEnt C f with
  | some ⟨_, .cons a (.cons b c), r, false, none, pre, F⟩ =>
    match rdCap lh (.cons b c) cap with
    | some (ds, ls) => (cast? t (.fn a r) fun x => F (x, ds)).map fun G => (∀ x, pre (x, ds), G, ls)
    | none => match rdCap lh c cap with
      | some (ds, ls) => (cast? t (.fn2 a b r) fun x y => F (x, y, ds)).map fun G => (∀ x y, pre (x, y, ds), G, ls)
      | none => none
  | some ⟨_, .cons a .nil, r, false, none, pre, F⟩ =>
    match cap with
    | [] => (cast? t (.fn a r) fun x => F (x, ())).map fun G => (∀ x, pre (x, ()), G, [])
    | _ => none
  | _ => none
def rdA (C : List Ent) (lh : Hp) (t : Ty) : AV → Option (Prop × t.den × List Nat)
  | .clo f cap => rdClo C lh t f cap
  | a => (rd lh t a).map fun x => (True, x.1, x.2)
def rdL (C : List Ent) (lh : Hp) : (t : Ty) → List AV → Option (Prop × t.den × List Nat)
  | .nil, [] => some (True, (), [])
  | .cons a b, x :: r => match rdA C lh a x with
    | some (p, d, l) => match rdL C lh b r with
      | some (q, e, l') => some (p ∧ q, (d, e), l ++ l')
      | none => none
    | none => none
  | _, _ => none
def resAVs : (t : Ty) → t.den → List AV
  | .cons a b, d => .val a d.1 :: resAVs b d.2
  | _, _ => []
/-- The cells of a zero value: a slice is nil. -/
def zeroAV : Ty → List AV
  | .st t => zeroAV t
  | .nil => []
  | .cons a b => zeroAV a ++ zeroAV b
  | .sl _ => [.cst (.slice none 0 0)]
  | .bool => scatter .bool Ty.bool.dflt
  | .int k => scatter (.int k) (Ty.int k).dflt
  | .str => scatter .str Ty.str.dflt
  | .ptr t => scatter (.ptr t) (Ty.ptr t).dflt
  | .fn a r => scatter (.fn a r) (Ty.fn a r).dflt
  | .fn2 a b r => scatter (.fn2 a b r) (Ty.fn2 a b r).dflt
  | .mp k t => scatter (.mp k t) (Ty.mp k t).dflt
def nilOf (m : Bool) : Value := if m then .map none else .pointer none
def freshEff (fr : Nat) (e : TypeId) (ls : List Nat) : (t : Ty) → t.den → Option Eff
  | .sl t, xs => some ⟨.own fr, if t.scalar then [] else ls, some (fr, .row e t xs)⟩
  | _, _ => none
/-- An argument that is no reference, or another row of the caller's own. -/
def plainArg (lh : Hp) (l : Nat) : AV → Bool
  | .own k => k != l && (match lh k with | some (.row _ _ _) => true | _ => false)
  | .val t _ => match t with
    | .bool | .int _ | .str | .st _ => true
    | _ => false
  | .clo _ _ => true
  | _ => false
def isNilV : Value → Bool
  | .slice none 0 0 => true
  | _ => false
/-- A call that takes a row of the caller's own and may write into it. -/
def ownx (C : List Ent) (lh : Hp) (fr : Nat) : Ent → List AV → Option (Prop × Eff)
  | ⟨_, .cons (.sl t) ar, .sl t', _, some T, pre, F⟩, .own l :: rest => match lh l with
    | some (.row e t'' xs) => if e = T then match cast? (.sl t) (.sl t'') xs with
      | some ys => match rdL C lh ar rest with
        | some (p, d, ls) => if ls.contains l || !t.scalar || !t'.scalar || !rest.all (plainArg lh l) then none else some (p ∧ pre (ys, d), ⟨.own fr, l :: ls, some (fr, .row T t' (F (ys, d)))⟩)
        | none => none
      | none => none else none
    | _ => none
  | ⟨_, .cons (.sl t) ar, .sl t', _, some T, pre, F⟩, .cst u :: rest => if isNilV u then match rdL C lh ar rest with
      | some (p, d, ls) => if !t.scalar || !t'.scalar || !rest.all (plainArg lh fr) then none else some (p ∧ pre ([], d), ⟨.own fr, ls, some (fr, .row T t' (F ([], d)))⟩)
      | none => none else none
  | _, _ => none
def callx (C : List Ent) (lh : Hp) (fr : Nat) (f : FuncId) (args : List AV) : Option (Prop × Eff) :=
  match findEnt C f with
  | none => none
  | some ent => if ent.own then ownx C lh fr ent args else match rdL C lh ent.a args with
    | none => none
    | some (p, d, ls) => match ent.fresh with
      | none => some (p ∧ ent.pre d, ⟨if ent.many then .tup (resAVs ent.r (ent.F d)) else .val ent.r (ent.F d), if ent.r.scalar then [] else ls, none⟩)
      | some e => (freshEff fr e ls ent.r (ent.F d)).map fun eff => (p ∧ ent.pre d, eff)
/-- The slice that is appended. -/
def srcx (lh : Hp) (t : Ty) : AV → Option (List t.den)
  | .own l => match lh l with
    | some (.row _ t' xs) => cast? (.sl t) (.sl t') xs
    | _ => none
  | .val (.sl t') xs => cast? (.sl t) (.sl t') xs
  | .cst (.slice none 0 0) => some []
  | .sub l lo hi => match lh l with
    | some (.row _ t' xs) => (cast? (.sl t) (.sl t') xs).map fun xs => (xs.take hi).drop lo
    | _ => none
  | _ => none
/-- A part of an own row, to be written. -/
def oslx (lh : Hp) (t : Ty) (lo hi : Bool) (bs : List AV) : AV → Option (Prop × Eff)
  | .own l => match lh l with
    | some (.row _ t' xs) => if t' = t then match bounds lo hi bs xs.length with
      | some (a, b) => some (0 ≤ a ∧ a ≤ b ∧ b ≤ xs.length, ⟨.sub l a.toNat b.toNat, [], none⟩)
      | none => none else none
    | _ => none
  | _ => none
def slicey (lh : Hp) (t : Ty) (lo hi own : Bool) (bs : List AV) (x : AV) : Option (Prop × Eff) := if own then oslx lh t lo hi bs x else slicex lh t lo hi bs x
def copyx (lh : Hp) (e : TypeId) (t : Ty) (d s : AV) : Option (Prop × Eff) :=
  match srcx lh t s with
  | none => none
  | some ys => match d with
    | .own l => match lh l with
      | some (.row e' t' xs) => if e' = e then (cast? (.sl t) (.sl t') xs).map fun xs => (True, ⟨.val (.int .i64) ((min ys.length xs.length : Nat) : Int), [], some (l, .row e t (ys.take xs.length ++ xs.drop ys.length))⟩) else none
      | _ => none
    | .sub l lo hi => match lh l with
      | some (.row e' t' xs) => if e' = e then (cast? (.sl t) (.sl t') xs).map fun xs => (True, ⟨.val (.int .i64) ((min ys.length (hi - lo) : Nat) : Int), [], some (l, .row e t (xs.take lo ++ (ys.take (hi - lo) ++ xs.drop (lo + min ys.length (hi - lo)))))⟩) else none
      | _ => none
    | _ => none
def appendx (lh : Hp) (fr : Nat) (e : TypeId) (t : Ty) (bytes : Nat) (s x : AV) : Option (Prop × Eff) :=
  match srcx lh t x with
  | none => none
  | some ys => match s with
    | .own l => match lh l with
      | some (.row e' t' xs) => if e' = e then (cast? (.sl t) (.sl t') xs).map fun xs => ((xs.length + ys.length) * bytes ≤ 140737488355328, ⟨.own fr, [l], some (fr, .row e t (xs ++ ys))⟩) else none
      | _ => none
    | .cst (.slice none 0 0) => some (ys.length * bytes ≤ 140737488355328, ⟨.own fr, [], some (fr, .row e t ys)⟩)
    | _ => none
def lenx (lh : Hp) : Bool → AV → Option Nat
  | false, .own l => match lh l with
    | some (.row _ _ xs) => some xs.length
    | _ => none
  | false, .val (.sl _) xs => some xs.length
  | true, .val .str s => some s.size
  | false, .cst (.slice none 0 0) => some 0
  | _, _ => none
def pur (av : AV) : Eff := ⟨av, [], none⟩
def fn1x (lh : Hp) (a r : Ty) (F : a.den → r.den) : List AV → Option (Prop × Eff)
  | [x] => (rd lh a x).map fun d => (True, ⟨.val r (F d.1), if r.scalar then [] else d.2, none⟩)
  | _ => none
def fn2x (lh : Hp) (a b r : Ty) (F : a.den → b.den → r.den) : List AV → Option (Prop × Eff)
  | [x, y] => (rd lh a x).bind fun d => (rd lh b y).map fun e => (True, ⟨.val r (F d.1 e.1), if r.scalar then [] else d.2 ++ e.2, none⟩)
  | _ => none
def callvx (C : List Ent) (lh : Hp) (fr : Nat) (args : List AV) : AV → Option (Prop × Eff)
  | .clo f cap => callx C lh fr f (args ++ cap)
  | .val (.fn a r) F => fn1x lh a r F args
  | .val (.fn2 a b r) F => fn2x lh a b r F args
  | _ => none
def minx (mx : Bool) (a b : AV) : Option (Prop × Eff) := (avIntK a).bind fun x => (avIntK b).bind fun y =>
  if x.1 = y.1 then some (True, pur (.val (.int x.1) (if mx then (if x.2 < y.2 then y.2 else x.2) else (if y.2 < x.2 then y.2 else x.2)))) else none
def opx (C : List Ent) (lh : Hp) (fr : Nat) : XOp → List AV → Option (Prop × Eff)
  | .mv, [a] => some (True, pur a)
  | .nilrow e t, [] => some (True, ⟨.own fr, [], some (fr, .row e t [])⟩)
  | .nilck, [a] => match a with
    | .ptr l o => (lh l).map fun _ => (True, pur (.ptr l o))
    | .eptr l i o => match lh l with
      | some (.row ..) => some (True, pur (.eptr l i o))
      | _ => none
    | .val (.ptr t) d => some (True, pur (.val (.ptr t) d))
    | _ => none
  | .alloc T t, [] => some (True, ⟨.ptr fr 0, [], some (fr, .box T (zeroAV t))⟩)
  | .allocz T m, [] => some (True, ⟨.ptr fr 0, [], some (fr, .box T [.cst (nilOf m)])⟩)
  | .box T, [a] => (cellsOf lh a).map fun cs => (True, ⟨.ptr fr 0, [], some (fr, .box T cs)⟩)
  | .load t, [a] => (loadx lh t a).map fun x => (x.1, pur x.2)
  | .store t, [a, x] => storex lh t x a
  | .bin op, [a, b] => (binx op a b).map fun x => (x.1, pur x.2)
  | .beq neg t, [a, b] => (eqx t a b).map fun x => (True, pur (.val .bool (if neg then !x else x)))
  | .steq neg t, [a, b] => (eqsx lh t a b).map fun x => (True, pur (.val .bool (if neg then !x else x)))
  | .mkmap k t, [] => some (True, ⟨.own fr, [], some (fr, .mp k t [])⟩)
  | .mapget k t ok, [a, b] => match mapOf lh k t a with
    | some (_, xs) => (keyOf' k b).map fun i => (True, pur (if ok then .tup [.val t (mget t.dflt xs i), .val .bool (mhas xs i)] else .val t (mget t.dflt xs i)))
    | none => none
  | .mapset k t, [a, b, x] => match mapOf lh k t a with
    | some (l, xs) => match keyOf' k b with
      | some i => match x with
        | .val t' d => (cast? t t' d).map fun e => (True, ⟨.top, [], some (l, .mp k t (mset xs i e))⟩)
        | _ => none
      | none => none
    | none => none
  | .mapdel k t, [a, b] => match mapOf lh k t a with
    | some (l, xs) => (keyOf' k b).map fun i => (True, ⟨.top, [], some (l, .mp k t (mdel xs i))⟩)
    | none => none
  | .mrange k t, [a] => (rd lh (.mp k t) a).map fun x => (True, ⟨.ptr fr 0, x.2, some (fr, .it k t x.1 none)⟩)
  | .entry, [a] => match a with
    | .ptr l 0 => match lh l with
      | some (.it k t _ (some p)) => some (True, pur (.tup [.val (.int k) p.1, .val t p.2]))
      | _ => none
    | _ => none
  | .isnil neg t, [a] => (rd lh (.sl t) a).map fun x => (True, pur (if neg then .ub True (x.1 = []) else .ub (x.1 = []) True))
  | .not, [a] => (avBool a).map fun b => (True, pur (.val .bool (!b)))
  | .neg, [a] => (avIntK a).map fun n => (True, pur (.val (.int n.1) (n.1.wrap (0 - n.2))))
  | .conv k, [a] => (avInt a).map fun n => (True, pur (.val (.int k) (k.wrap n)))
  | .field off t, [a] => (fieldx off t a).map fun x => (True, pur x)
  | .faddr off t, [a] => (faddrx lh off t a).map fun x => (True, pur x)
  | .iaddr t, [a, b] => (avInt b).bind fun i => (iaddrx lh t i a).map fun x => (x.1, pur x.2)
  | .slice t lo hi own, x :: bs => slicey lh t lo hi own bs x
  | .mkarr e bytes, [a, b] => (avInt a).bind fun n => (avInt b).map fun m => (0 ≤ n ∧ m = n ∧ (bytes : Int) * n ≤ 140737488355328, ⟨.arr fr n.toNat, [], some (fr, .box e (List.replicate n.toNat (.cst (.slice none 0 0))))⟩)
  | .mkslice e t bytes, [a, b] => (avInt a).bind fun n => (avInt b).map fun m => (0 ≤ n ∧ m = n ∧ (bytes : Int) * n ≤ 140737488355328, ⟨.own fr, [], some (fr, .row e t (List.replicate n.toNat t.dflt))⟩)
  | .build t ps, args => (fillx lh (zeroAV t) ps args).map fun cs => (True, pur (.agg cs))
  | .bslice e t n idx, args => (rowx lh t (List.replicate n t.dflt) idx args).map fun x => (True, ⟨.own fr, x.2, some (fr, .row e t x.1)⟩)
  | .extract i, [a] => (extx i a).map fun x => (True, pur x)
  | .call f, args => callx C lh fr f args
  | .callv, g :: args => callvx C lh fr args g
  | .len str, [a] => (lenx lh str a).map fun (n : Nat) => (True, pur (.val (.int .i64) (n : Int)))
  | .append e t bytes, [s, x] => appendx lh fr e t bytes s x
  | .copy e t, [d, s] => copyx lh e t d s
  | .min, [a, b] => minx false a b
  | .max, [a, b] => minx true a b
  | .mkfn f, cap => some (True, pur (.clo f cap))
  | .mkbnd f, vs => some (True, pur (.bnd f vs))
  | _, _ => none

/-! How they fit the program's operations. -/
section
variable (P : Program)
def tyOk (T : TypeId) (t : Ty) : Bool :=
  (match P.underlying T with
    | some (.struct _) => t.isSt
    | some (.array _ _) => false
    | some _ => !t.isSt && t.size == 1
    | none => false) && (P.info? T).map (·.size) == some t.size
/-- A type of maps that the walk knows. -/
def mapOk (T : TypeId) (k : IntKind) (t : Ty) : Bool := match P.underlying T with
  | some (.map K E) => (match P.underlying K with | some (.int k') => k' == k | _ => false) && (match (P.info? E).bind (·.zero), t with
    | some (.bool false), .bool => true
    | some (.int q n), .int q' => q == q' && n == 0
    | some (.string s), .str => s.size == 0
    | _, _ => false)
  | _ => false
/-- A type whose structs the walk compares. -/
def eqFs (E : Ty → TypeId → Bool) : Ty → List Field → Nat → Bool
  | .nil, fs, _ => fs.isEmpty
  | .cons a b, f :: g :: fs, o => f.name != "_" && f.offset == o && tyOk P f.type a && E a f.type && eqFs E b (g :: fs) (o + a.size)
  | t, [f], o => f.name != "_" && f.offset == o && tyOk P f.type t && E t f.type
  | _, _, _ => false
def eqTy : Nat → Ty → TypeId → Bool
  | 0, _, _ => false
  | n + 1, t, T => match t with
    | .bool => (match P.underlying T with | some .bool => true | _ => false)
    | .int _ => (match P.underlying T with | some (.int _) => true | _ => false)
    | .str => (match P.underlying T with | some .string => true | _ => false)
    | .st t => (match P.underlying T with | some (.struct fs) => !P.stoodInHeld T && eqFs P (eqTy n) t fs.toList 0 | _ => false)
    | _ => false
def zeroOk : (t : Ty) → List Value → Option (List Value)
  | .bool, .bool b :: r => if b = false then some r else none
  | .int k, .int k' n :: r => if k' = k ∧ n = 0 then some r else none
  | .str, .string s :: r => if s = ByteArray.empty then some r else none
  | .sl _, .slice none 0 0 :: r => some r
  | .st t, cs => zeroOk t cs
  | .nil, cs => some cs
  | .cons a b, cs => match zeroOk a cs with
    | some r => zeroOk b r
    | none => none
  | _, _ => none
def zeroIs (T : TypeId) (t : Ty) : Bool := match P.info? T with
  | some i => match i.zero with
    | some z => (match zeroOk t z.cells.toList with | some [] => true | _ => false)
    | none => false
  | none => false
def zeroNil (T : TypeId) (m : Bool) : Bool := match P.info? T with
  | some i => (match i.zero, m with | some (.pointer none), false => true | some (.map none), true => true | _, _ => false)
  | none => false
def zeroRow (T : TypeId) : Bool := match P.info? T with
  | some i => (match i.zero with | some (.slice none 0 0) => true | _ => false)
  | none => false
def elemOk (T e : TypeId) (t : Ty) : Bool := (match P.underlying T with | some (.slice e') => e == e' | _ => false) && (P.info? e).map (·.size) == some t.size
def elemIs (T : TypeId) (t : Ty) : Bool := match P.underlying T with
  | some (.slice e) => (P.info? e).map (·.size) == some t.size
  | _ => false
def fieldOk (T : TypeId) (f off : Nat) (t : Ty) : Bool := match P.underlying T with
  | some (.struct fs) => match fs[f]? with
    | some x => x.offset == off && tyOk P x.type t && t.size != 0
    | none => false
  | _ => false
def partsOk (T : TypeId) (t : Ty) : List (Nat × Operand) → List (Nat × Ty) → Bool
  | [], [] => true
  | (f, _) :: r, (off, ty) :: s => fieldOk P T f off ty && partsOk T t r s
  | _, _ => false
def isNil : Operand → Bool
  | .const (.slice none 0 0) => true
  | _ => false
def placesOk (T : TypeId) : Bool := match P.underlying T with
  | some (.struct fs) => (fs.toList.mapM fun f => (P.info? f.type).map fun i => (f.offset, i.size)).isSome
  | _ => false
def opChk (o : Op) (x : XOp) (args : List XA) : Bool :=
  match x with
  | .mv => match o, args with
    | .move y, [a] => opOk y a
    | .assign y, [a] => opOk y a
    | _, _ => false
  | .nilrow _ _ => match o, args with
    | .move y, [] => isNil y
    | .assign y, [] => isNil y
    | _, _ => false
  | .nilck => match o, args with
    | .nilCheck y, [a] => opOk y a
    | _, _ => false
  | .pick => match o, args with
    | .pick c y z, [a, b, d] => opOk c a && opOk y b && opOk z d
    | _, _ => false
  | .alloc T t => match o, args with
    | .alloc T', [] => T == T' && zeroIs P T t
    | _, _ => false
  | .allocz T m => match o, args with
    | .alloc T', [] => T == T' && zeroNil P T m
    | _, _ => false
  | .box T => match o, args with
    | .box T' y, [a] => T == T' && opOk y a
    | _, _ => false
  | .load t => match o, args with
    | .load T y, [a] => tyOk P T t && opOk y a
    | _, _ => false
  | .store t => match o, args with
    | .store T y z, [a, b] => tyOk P T t && opOk y a && opOk z b
    | _, _ => false
  | .bin op => match o, args with
    | .binOp op' T y z _, [a, b] => op == op' && opOk y a && opOk z b
    | _, _ => false
  | .beq neg t => match o, args with
    | .binOp op T y z _, [a, b] => op == (if neg then .neq else .eql) && opOk y a && opOk z b && (match t, P.underlying T with | .bool, some .bool | .str, some .string => true | _, _ => false)
    | _, _ => false
  | .steq neg t => match o, args with
    | .binOp op T y z _, [a, b] => op == (if neg then .neq else .eql) && opOk y a && opOk z b && t.isSt && eqTy P 50 t T && !P.eqGuardType P.depth T
    | _, _ => false
  | .mkmap k t => match o, args with
    | .makeMap T none, [] => mapOk P T k t
    | _, _ => false
  | .mapget k t ok => match o, args with
    | .lookup T x i ok', [a, b] => opOk x a && opOk i b && mapOk P T k t && ok == ok'
    | _, _ => false
  | .mapset k t => match o, args with
    | .mapUpdate T m i x, [a, b, c] => opOk m a && opOk i b && opOk x c && mapOk P T k t
    | .insert T m i x, [a, b, c] => opOk m a && opOk i b && opOk x c && mapOk P T k t
    | _, _ => false
  | .mapdel k t => match o, args with
    | .call ⟨.builtin .delete, as', ts⟩, [a, b] => opsOk as'.toList [a, b] && (match ts[0]? with | some T => mapOk P T k t | none => false)
    | _, _ => false
  | .mrange k t => match o, args with
    | .range T y, [a] => opOk y a && mapOk P T k t
    | _, _ => false
  | .entry => match o, args with
    | .entry y, [a] => opOk y a
    | _, _ => false
  | .isnil neg _ => match o, args with
    | .binOp op T y z _, [a] => op == (if neg then .neq else .eql) && opOk y a && isNil z && (match P.underlying T with | some (.slice _) => true | _ => false)
    | _, _ => false
  | .not => match o, args with
    | .unOp .not _ y, [a] => opOk y a
    | _, _ => false
  | .neg => match o, args with
    | .unOp .neg _ y, [a] => opOk y a
    | _, _ => false
  | .conv k => match o, args with
    | .convert S D y, [a] => opOk y a && (match P.underlying S with | some (.int _) => true | _ => false) && (match P.underlying D with | some (.int k') => k == k' | _ => false)
    | _, _ => false
  | .field off t => match o, args with
    | .field T y f, [a] => opOk y a && fieldOk P T f off t
    | _, _ => false
  | .faddr off t => match o, args with
    | .fieldAddr T y f, [a] => opOk y a && fieldOk P T f off t
    | _, _ => false
  | .iaddr t => match o, args with
    | .indexAddr T y z, [a, b] => opOk y a && opOk z b && elemIs P T t
    | _, _ => false
  | .slice t lo hi _ => match o, args with
    | .slice T y none none none, [a] => !lo && !hi && opOk y a && elemIs P T t
    | .slice T y (some l) none none, [a, b] => lo && !hi && opOk y a && opOk l b && elemIs P T t
    | .slice T y none (some h) none, [a, b] => !lo && hi && opOk y a && opOk h b && elemIs P T t
    | .slice T y (some l) (some h) none, [a, b, c] => lo && hi && opOk y a && opOk l b && opOk h c && elemIs P T t
    | _, _ => false
  | .mkarr e bytes => match o, args with
    | .makeSlice T y z, [a, b] => opOk y a && opOk z b && elemOk P T e .bool && zeroRow P e && (P.info? e).map (·.bytes) == some bytes && bytes != 0
    | _, _ => false
  | .mkslice e t bytes => match o, args with
    | .makeSlice T y z, [a, b] => opOk y a && opOk z b && elemOk P T e t && zeroIs P e t && (P.info? e).map (·.bytes) == some bytes && bytes != 0
    | _, _ => false
  | .build t ps => match o with
    | .build T parts => opsOk (parts.toList.map (·.2)) args && partsOk P T t parts.toList ps && placesOk P T && zeroIs P T t && t.isSt
    | _ => false
  | .bslice e t n idx => match o with
    | .buildSlice T n' parts => n == n' && opsOk (parts.toList.map (·.2)) args && parts.toList.map (·.1) == idx && elemOk P T e t && zeroIs P e t && t.size != 0 && decide (n * t.size ≤ 16777216)
    | _ => false
  | .extract i => match o, args with
    | .extract y j, [a] => i == j && opOk y a
    | _, _ => false
  | .call f => match o with
    | .call ⟨.value (.func g), as', _⟩ => f == g && opsOk as'.toList args && funcOk P f
    | _ => false
  | .callv => match o, args with
    | .call ⟨.value y, as', _⟩, a :: r => opOk y a && opsOk as'.toList r
    | _, _ => false
  | .len str => match o, args with
    | .call ⟨.builtin .len, as', ts⟩, [a] => opsOk as'.toList [a] && (match ts[0]? with | some T => (match P.underlying T with | some (.slice _) => !str | some .string => str | _ => false) | none => false)
    | _, _ => false
  | .append e t bytes => match o, args with
    | .call ⟨.builtin .append, as', ts⟩, [a, b] => opsOk as'.toList [a, b] && (match ts.toList with | [T, T'] => T == T' && elemOk P T e t | _ => false) && zeroIs P e t && (P.info? e).map (·.bytes) == some bytes && bytes != 0 && t.size != 0
    | _, _ => false
  | .copy e t => match o, args with
    | .call ⟨.builtin .copy, as', ts⟩, [a, b] => opsOk as'.toList [a, b] && (match ts.toList with | [T, T'] => T == T' && elemOk P T e t | _ => false) && t.size != 0
    | _, _ => false
  | .min => match o, args with
    | .call ⟨.builtin .min, as', _⟩, [a, b] => opsOk as'.toList [a, b]
    | _, _ => false
  | .max => match o, args with
    | .call ⟨.builtin .max, as', _⟩, [a, b] => opsOk as'.toList [a, b]
    | _, _ => false
  | .mkfn f => match o with
    | .makeFunc (.func g) first cap => f == g && first.isEmpty && opsOk cap.toList args && funcOk P f
    | _ => false
  | .mkbnd f => match o with
    | .makeFunc (.func g) first cap => f == g && cap.isEmpty && opsOk first.toList args
    | _ => false
end
end T
end Go.Proofs.Ytbbpiihbhdagnaa
