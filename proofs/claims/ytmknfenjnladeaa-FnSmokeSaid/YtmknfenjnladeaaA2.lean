/- The abstract evaluator: operations, regions, code, functions. -/
import Derived.Test.YtmknfenjnladeaaA1
import Derived.Laws.Tables
namespace Go.Ab

abbrev Res := Option (Value × St)
abbrev CallF := FuncId → List Value → St → List (Bool × Value × St)

inductive Kd where
  | pure | rd
  | write (W : List Nat)
  deriving DecidableEq

def alts {α β : Type} : List (Bool × α) → (α → Option β) → Option β
  | [],_ => none
  | (c,x) :: l,k => cond c (k x) (alts l k)

def fadd (k : FloatKind) (a b : Nat) : Nat := (k.format.add a b).getD (qnan k)
def fsub (k : FloatKind) (a b : Nat) : Nat := (k.format.sub a b).getD (qnan k)
def fmul (k : FloatKind) (a b : Nat) : Nat := (k.format.mul a b).getD (qnan k)
def fdiv (k : FloatKind) (a b : Nat) : Nat := (k.format.div a b).getD (qnan k)
def feq (k : FloatKind) (a b : Nat) : Bool := k.format.order a b == some .eq
def flt (k : FloatKind) (a b : Nat) : Bool := k.format.order a b == some .lt
def fgt (k : FloatKind) (a b : Nat) : Bool := k.format.order a b == some .gt
def fneg (k : FloatKind) (a : Nat) : Nat := Op.negFloat k a
def fsqrt (k : FloatKind) (a : Nat) : Nat := (k.format.sqrt a).getD (qnan k)
def ofInt (k : FloatKind) (n : Int) : Nat := k.nearest n
def widen (b : Nat) : Nat :=
  match FloatKind.f32.decode b with
  | .nan _ _ => qnan .f64
  | d => FloatKind.f64.encode d
def narrow (b : Nat) : Nat :=
  match FloatKind.f64.decode b with
  | .nan _ _ => qnan .f32
  | d => FloatKind.f32.encode d
def narrowOk (b : Nat) : Bool :=
  match FloatKind.f64.decode b with
  | .number _ _ _ => !(FloatKind.f32.decode (narrow b)).isInfinity
  | _ => true
def truncI (k : FloatKind) (b : Nat) : Int := ((k.decode b).toInt .zero).getD 0
def truncOk (k : FloatKind) (b : Nat) (d : IntKind) : Bool :=
  match (k.decode b).toInt .zero with
  | some n => decide (d.min ≤ n) && decide (n ≤ d.max)
  | none => false

def evInt (op : BinOp) (k : IntKind) (a b : Int) : List (Bool × Value) :=
  match op with
  | .add => [(true,.int k (k.wrap (a + b)))]
  | .sub => [(true,.int k (k.wrap (a - b)))]
  | .mul => [(true,.int k (k.wrap (a * b)))]
  | .quo => [(!decide (b = 0),.int k (k.wrap (a.tdiv b)))]
  | .rem => [(!decide (b = 0),.int k (a.tmod b))]
  | .and | .or | .xor | .andNot => [(true,.int k (bits op k a b))]
  | .eql => [(true,.bool (a == b))]
  | .neq => [(true,.bool (a != b))]
  | .lss => [(true,.bool (decide (a < b)))]
  | .leq => [(true,.bool (decide (a ≤ b)))]
  | .gtr => [(true,.bool (decide (a > b)))]
  | .geq => [(true,.bool (decide (a ≥ b)))]
  | _ => []

def evFloat (op : BinOp) (k : FloatKind) (a b : Nat) : List (Bool × Value) :=
  match op with
  | .add => [(true,.float k (fadd k a b))]
  | .sub => [(true,.float k (fsub k a b))]
  | .mul => [(true,.float k (fmul k a b))]
  | .quo => [(true,.float k (fdiv k a b))]
  | .eql => [(true,.bool (feq k a b))]
  | .neq => [(true,.bool (!feq k a b))]
  | .lss => [(true,.bool (flt k a b))]
  | .leq => [(true,.bool (flt k a b || feq k a b))]
  | .gtr => [(true,.bool (fgt k a b))]
  | .geq => [(true,.bool (fgt k a b || feq k a b))]
  | _ => []

def strMax : Nat := 9223372036854775807
def evStr (op : BinOp) (a b : ByteArray) : List (Bool × Value) :=
  match op with
  | .add => [(decide (a.size + b.size ≤ strMax),.string (a ++ b))]
  | .eql => [(true,.bool (a.toList == b.toList))]
  | .neq => [(true,.bool (!(a.toList == b.toList)))]
  | .lss => [(true,.bool (Op.bytesLess a.toList b.toList))]
  | .leq => [(true,.bool (Op.bytesLess a.toList b.toList || a.toList == b.toList))]
  | .gtr => [(true,.bool (!(Op.bytesLess a.toList b.toList || a.toList == b.toList)))]
  | .geq => [(true,.bool (!Op.bytesLess a.toList b.toList))]
  | _ => []

def topBit : FloatKind → Int
  | .f32 => 2147483648
  | .f64 => 9223372036854775808
def evNan (op : BinOp) (k : FloatKind) (n : Nat) (k2 : IntKind) (b : Int) : List (Bool × Value) :=
  if op = .andNot ∧ n = 1 ∧ k2 = nanKind k ∧ b = topBit k then [(true,nanBits k)]
  else if op = .eql ∧ n = 1 ∧ k2 = nanKind k then [(decide (0 ≤ b) && !isN k b.toNat,.bool false)]
  else if op = .neq ∧ n = 1 ∧ k2 = nanKind k then [(decide (0 ≤ b) && !isN k b.toNat,.bool true)]
  else []

def fl32 (P : Program) (t : TypeId) : Bool :=
  match P.underlying t with
  | some (.float .f32) => true
  | _ => false
def fFields (P : Program) : List Field → Nat → Bool
  | [],_ => true
  | f :: fs,i => cond (f.name != "_") (cond (fl32 P f.type) (cond (Nat.beq f.offset i) (fFields P fs (i + 1)) false) false) false
def eqCells : List Value → List Value → Option Bool
  | [],[] => some true
  | .float .f32 a :: xs,.float .f32 b :: ys =>
    match eqCells xs ys with
    | some r => some (feq .f32 a b && r)
    | none => none
  | _,_ => none
def evAgg (P : Program) (op : BinOp) (t : TypeId) (xs ys : List Value) : List (Bool × Value) :=
  match P.underlying t,eqCells xs ys,op with
  | some (.struct fs),some r,.eql => cond (fFields P fs.toList 0) (cond (Nat.beq fs.size xs.length) (cond (P.stoodInHeld t) [] (cond (P.eqGuardType P.depth t) [] [(true,.bool r)])) []) []
  | some (.struct fs),some r,.neq => cond (fFields P fs.toList 0) (cond (Nat.beq fs.size xs.length) (cond (P.stoodInHeld t) [] (cond (P.eqGuardType P.depth t) [] [(true,.bool (!r))])) []) []
  | _,_,_ => []

def evBin (P : Program) (op : BinOp) (t : TypeId) (x y : Value) : List (Bool × Value) :=
  match x,y with
  | .int k a,.int k' b =>
    match op with
    | .shl => [(decide (0 ≤ b),.int k (k.wrap (a * 2 ^ (min b.toNat k.bits))))]
    | .shr => [(decide (0 ≤ b),.int k (a.fdiv (2 ^ (min b.toNat k.bits))))]
    | op => if k = k' then evInt op k a b else []
  | .float k a,.float k' b => if k = k' then evFloat op k a b else []
  | .string a,.string b => evStr op a b
  | .complex k n _,.int k2 b => evNan op k n k2 b
  | .bool a,.bool b =>
    match P.underlying t,op with
    | some .bool,.eql => [(true,.bool (a == b))]
    | some .bool,.neq => [(true,.bool (!(a == b)))]
    | _,_ => []
  | .agg xs,.agg ys => evAgg P op t xs.toList ys.toList
  | _,_ => []
def isNilC : Operand → Bool
  | .const .nilIface => true
  | _ => false
def evNil (P : Program) (op : BinOp) (t : TypeId) (x : Value) : List (Bool × Value) :=
  match P.underlying t,op,x with
  | some (.interface _),.eql,.iface _ (.bool b) => [(true,.bool b)]
  | some (.interface _),.neq,.iface _ (.bool b) => [(true,.bool (!b))]
  | _,_,_ => []

def evUn (op : UnOp) (x : Value) : List (Bool × Value) :=
  match op,x with
  | .neg,.int k n => [(true,.int k (k.wrap (0 - n)))]
  | .neg,.float k b => [(true,.float k (fneg k b))]
  | .not,.bool b => [(true,.bool (!b))]
  | _,_ => []

def evConv (P : Program) (src dst : TypeId) (x : Value) : List (Bool × Value) :=
  match P.underlying src,P.underlying dst,x with
  | some _,some (.int k),.int _ n => [(true,.int k (k.wrap n))]
  | some _,some (.float k),.int _ n => [(true,.float k (ofInt k n))]
  | some _,some (.int k),.float s b => [(truncOk s b k,.int k (truncI s b))]
  | some _,some (.float .f32),.float .f32 b => [(true,.float .f32 b)]
  | some _,some (.float .f64),.float .f64 b => [(true,.float .f64 b)]
  | some _,some (.float .f64),.float .f32 b => [(true,.float .f64 (widen b))]
  | some _,some (.float .f32),.float .f64 b => [(narrowOk b,.float .f32 (narrow b))]
  | _,_,_ => []

def tAgg (P : Program) (t : TypeId) : Option Bool :=
  match P.underlying t with
  | some (.struct _) | some (.array _ _) => some true
  | some _ => some false
  | none => none
def tSize (P : Program) (t : TypeId) : Option Nat := (P.info? t).map (·.size)
def tZero (P : Program) (t : TypeId) : Option Value := (P.info? t).bind (·.zero)
def ctOf (P : Program) : Nat → TypeId → Option (List CT)
  | 0,_ => none
  | n + 1,t =>
    match P.underlying t with
    | some .bool => some [.bool]
    | some (.int k) => some [.int k]
    | some (.float k) => some [.fl k]
    | some (.array m e) => (ctOf P n e).map fun l => (List.replicate m l).flatten
    | some (.struct fs) => fs.toList.foldr (fun f acc => match ctOf P n f.type,acc with | some l,some r => some (l ++ r) | _,_ => none) (some [])
    | _ => none
def unAll : List CT → List Value → Option (List Int)
  | [],[] => some []
  | t :: ts,v :: vs =>
    match t.un v,unAll ts vs with
    | some n,some ns => some (n :: ns)
    | _,_ => none
  | _,_ => none
def strsOf : List Value → Option (List ByteArray)
  | [] => some []
  | .string s :: vs => (strsOf vs).map (s :: ·)
  | _ => none
def vcells : Value → Option (List Value)
  | .agg cs => some cs.toList
  | .tuple _ => none
  | .chan _ => none
  | v => some [v]

def cok1 : Value → Bool
  | .bool _ | .int _ _ | .float _ _ | .string _ | .pointer none | .nilFunc => true
  | .slice none l c => l == 0 && c == 0
  | .func (.func _) x y => x.size == 0 && y.size == 0
  | _ => false
def cok2 : Value → Bool
  | .agg cs => cs.toList.all cok1
  | v => cok1 v
def cok : Value → Bool
  | .tuple vs => vs.toList.all cok2
  | v => cok2 v

def zOk (P : Program) (t : TypeId) : Bool :=
  match tZero P t with
  | some z => cok2 z
  | none => false

def insN (k : Nat) : List Nat → List Nat
  | [] => [k]
  | x :: l => cond (Nat.beq k x) (x :: l) (cond (Nat.blt k x) (k :: x :: l) (x :: insN k l))
def addW (lo k : Nat) (l : List Nat) : List Nat := cond (Nat.blt k lo) (insN k l) l
def unW (l m : List Nat) : List Nat := l.foldr insN m
def Con.getN (c : Con) (i j n : Nat) : List (Bool × List Value) :=
  match c with
  | .cells l => (List.range (l.length + 1 - n)).map fun s => (Nat.beq i 0 && Nat.beq j s,(l.drop s).take n)
  | .vals l => if n = 1 then l.zipIdx.map fun (v,s) => (Nat.beq j 0 && Nat.beq i s,[v]) else []
  | .strs l => if n = 1 then [(Nat.beq j 0 && Nat.blt i l.length,[.string (l.getD i .empty)])] else []
  | .tab sch rows =>
    if j + n ≤ sch.length then [(Nat.blt i rows.length,((sch.drop j).take n).zipIdx.map fun (t,q) => t.mk ((rows.getD i []).getD (j + q) 0))] else []

def spl (n : Nat) (row : List Int) (j : Nat) (xs : List Int) : List Int :=
  (List.range n).map fun q => if j ≤ q ∧ q < j + xs.length then xs.getD (q - j) 0 else row.getD q 0

def Con.putN (c : Con) (i j : Nat) (vs : List Value) : List (Bool × Con) :=
  match c with
  | .cells l => (List.range (l.length + 1 - vs.length)).map fun s => (Nat.beq i 0 && Nat.beq j s,.cells (l.take s ++ vs ++ l.drop (s + vs.length)))
  | .vals l =>
    match vs with
    | [v] => (List.range l.length).map fun s => (Nat.beq j 0 && Nat.beq i s,.vals (l.set s v))
    | _ => []
  | .strs l =>
    match vs with
    | [.string s] => [(Nat.beq j 0 && Nat.blt i l.length,.strs (l.set i s))]
    | _ => []
  | .tab sch rows =>
    if j + vs.length ≤ sch.length then
      match unAll ((sch.drop j).take vs.length) vs with
      | some xs => [(Nat.blt i rows.length,.tab sch (cond (Nat.beq j 0 && Nat.beq vs.length sch.length) (rows.set i xs) (rows.modify i fun r => spl sch.length r j xs)))]
      | none => []
    else []

def ldN (h : List Blk) (a : Addr) (n : Nat) : List (Bool × List Value) :=
  match a.spot,(h[a.block]?).bind Blk.con with
  | some j,some c => c.getN a.off j n
  | _,_ => []

def stN (s : St) (a : Addr) (vs : List Value) : List (Bool × St) :=
  match a.spot,s.h[a.block]? with
  | some j,some ⟨w,some c⟩ => (c.putN a.off j vs).map fun (b,c') => (w && b,{ s with h := s.h.set a.block ⟨w,some c'⟩,wr := addW s.lo a.block s.wr })
  | _,_ => []

def evLoad (P : Program) (h : List Blk) (t : TypeId) (x : Value) : List (Bool × Value) :=
  match x,tAgg P t,tSize P t with
  | .pointer (some a),some true,some n => (ldN h a n).map fun (b,vs) => (b,.agg vs.toArray)
  | .pointer (some a),some false,_ => (ldN h a 1).map fun (b,vs) => (b,vs.headD poison)
  | _,_,_ => []

def evStore (P : Program) (s : St) (t : TypeId) (x v : Value) : List (Bool × St) :=
  match x,tSize P t,vcells v with
  | .pointer (some a),some n,some vs => if vs.length = n ∧ 0 < n then stN s a vs else []
  | _,_,_ => []

def evPush (s : St) (c : Con) : Nat × St := (s.h.length,{ s with h := s.h ++ [⟨true,some c⟩] })

def partsOk (parts : List (Nat × Value)) : Bool := parts.all fun p => (vcells p.2).isSome

def evBuild (P : Program) (t : TypeId) (parts : List (Nat × Value)) : List (Bool × Value) :=
  match zOk P t && partsOk parts,P.built t parts with
  | true,some cs => [(true,.agg cs)]
  | _,_ => []

def chop : Nat → Nat → List Value → List (List Value)
  | 0,_,_ => []
  | n + 1,m,l => l.take m :: chop n m (l.drop m)

def mapM' {α β : Type} (f : α → Option β) : List α → Option (List β)
  | [] => some []
  | a :: l => match f a,mapM' f l with
    | some b,some bs => some (b :: bs)
    | _,_ => none

def conOf (P : Program) (e : TypeId) (n m : Nat) (cs : List Value) : Option Con :=
  match ctOf P 10 e with
  | some sch => if sch.length = m then (mapM' (unAll sch) (chop n m cs)).map (.tab sch) else none
  | none =>
    match P.underlying e with
    | some .string => if m = 1 then (strsOf cs).map .strs else none
    | _ => if m = 1 then some (.vals cs) else if n = 1 then some (.cells cs) else none

def evEmpty (P : Program) (s : St) (t : TypeId) : List (Bool × Value × St) :=
  match P.underlying t with
  | some (.slice e) =>
    match tSize P e with
    | some m => match Nat.blt 0 m,conOf P e 0 m [] with
      | true,some c => [(true,wsl s.h.length,(evPush s c).2)]
      | _,_ => []
    | none => []
  | _ => []
def evBuildSlice1 (P : Program) (s : St) (t : TypeId) (len : Nat) (parts : List (Nat × Value)) : List (Bool × Value × St) :=
  match P.underlying t with
  | some (.slice e) =>
    match tSize P e,tZero P e with
    | some m,some z =>
      match zOk P e && partsOk parts && Nat.blt 0 (len * m) && Nat.ble (len * m) 1000 && Nat.beq z.cells.size m,
        Instr.fill (fun i => some (i * m,m)) ((Array.range (len * m)).map (z.cells[· % z.cells.size]!)) parts with
      | true,some cs => match conOf P e len m cs.toList with
        | some c => [(true,.slice (some ⟨(evPush s c).1,0,some 0⟩) len len,(evPush s c).2)]
        | none => []
      | _,_ => []
    | _,_ => []
  | _ => []

def evBuildSlice (P : Program) (s : St) (t : TypeId) (len : Nat) (parts : List (Nat × Value)) : List (Bool × Value × St) :=
  cond (Nat.beq len 0 && parts.isEmpty) (evEmpty P s t) (evBuildSlice1 P s t len parts)

def repOf (P : Program) (e : TypeId) (n m : Nat) (cs : List Value) : Option Con :=
  match ctOf P 10 e with
  | some sch => if sch.length = m then (unAll sch cs).map fun r => .tab sch (List.replicate n r) else none
  | none =>
    match P.underlying e,cs with
    | some .string,[.string s] => some (.strs (List.replicate n s))
    | some .string,_ => none
    | _,[v] => some (.vals (List.replicate n v))
    | _,_ => none
def tBytes (P : Program) (t : TypeId) : Option Nat := (P.info? t).map (·.bytes)
def evMakeSlice (P : Program) (s : St) (t : TypeId) (l c : Value) : List (Bool × Value × St) :=
  match P.underlying t,l,c with
  | some (.slice e),.int _ n,.int _ k =>
    match tSize P e,tZero P e,tBytes P e with
    | some m,some z,some b =>
      match zOk P e && Nat.beq z.cells.size m && Nat.blt 0 m,repOf P e n.toNat m z.cells.toList with
      | true,some con => [(decide (0 ≤ n) && decide (n ≤ k) && decide ((b : Int) * k ≤ 281474976710656) && decide (k ≤ 9223372036854775807),wsl s.h.length,(evPush s con).2)]
      | _,_ => []
    | _,_,_ => []
  | _,_,_ => []

def Con.app : Con → Con → Option Con
  | .vals a,.vals b => some (.vals (a ++ b))
  | .strs a,.strs b => some (.strs (a ++ b))
  | .tab sch a,.tab sch' b => if sch = sch' then some (.tab sch (a ++ b)) else none
  | _,_ => none
def Con.part : Con → Nat → Nat → Option Con
  | .vals a,o,n => some (.vals ((a.drop o).take n))
  | .strs a,o,n => some (.strs ((a.drop o).take n))
  | .tab sch a,o,n => some (.tab sch ((a.drop o).take n))
  | .cells _,_,_ => none
def Con.isRow : Con → Bool
  | .cells _ => false
  | _ => true
def shown (h : List Blk) : Value → Option (Bool × Nat × Con)
  | .iface k .nilIface => match (h[k]?).bind Blk.con with
    | some c => some (true,c.len,c)
    | none => none
  | .slice (some a) n _ => match (h[a.block]?).bind Blk.con,a.spot with
    | some c,some 0 => (c.part a.off n).map fun p => (Nat.ble (a.off + n) c.len,n,p)
    | _,_ => none
  | _ => none
def appTo (h : List Blk) : Value → Option (Nat × Nat × Con × Bool)
  | .iface k .nilIface => match h[k]? with
    | some ⟨true,some c⟩ => some (k,c.len,c,true)
    | _ => none
  | .slice (some a) n _ => match h[a.block]?,a.spot with
    | some ⟨true,some c⟩,some 0 => some (a.block,n,c,Nat.beq a.off 0 && Nat.ble n c.len)
    | _,_ => none
  | _ => none
def evAppNil (P : Program) (t : TypeId) (x : Value) : List (Bool × Value) :=
  match P.underlying t,x with
  | some (.slice e),.slice none _ _ => cond (tSize P e).isSome [(true,x)] []
  | some (.slice e),.slice (some _) _ _ => cond (tSize P e).isSome [(true,x)] []
  | some (.slice e),.iface _ .nilIface => cond (tSize P e).isSome [(true,x)] []
  | _,_ => []
def isNilS : Value → Bool
  | .slice none _ _ => true
  | _ => false
def evAppend (P : Program) (s : St) (t : TypeId) (x y : Value) : List (Bool × Value × St) :=
  match P.underlying t,shown s.h y with
  | some (.slice e),some (b,n,p) =>
    match tSize P e,tZero P e,tBytes P e with
    | some m,some z,some by' =>
      if Nat.beq z.cells.size m && Nat.beq p.es m && Nat.blt 0 m && p.isRow then
        match x with
        | .slice none _ _ => [(b && Nat.blt 0 n && Nat.ble (n * (by' + 1)) 140737488355328,wsl s.h.length,{ h := s.h ++ [⟨true,some p⟩],lo := s.lo,wr := s.wr })]
        | x =>
          match appTo s.h x with
          | some (k,l,c,b2) =>
            match (c.part 0 l).bind fun c => c.app p with
            | some c' => if c.es = m then [(b && b2 && Nat.ble ((l + n) * (by' + 1)) 140737488355328,wsl s.h.length,{ h := s.h.set k deadB ++ [⟨true,some c'⟩],lo := s.lo,wr := addW s.lo k s.wr })] else []
            | none => []
          | none => []
      else []
    | _,_,_ => []
  | _,_ => []

def bytesOf (rows : List (List Int)) : ByteArray := (rows.map fun r => r.getD 0 0).foldl (fun r n => r.push (UInt8.ofNat n.toNat)) ByteArray.empty
def evBytes (P : Program) (h : List Blk) (src dst : TypeId) (x : Value) : List (Bool × Value) :=
  match P.underlying src,P.underlying dst with
  | some (.slice e),some .string =>
    match P.underlying e,shown h x with
    | some (.int .u8),some (b,_,.tab [.int .u8] rows) => [(b,.string (bytesOf rows))]
    | _,_ => []
  | _,_ => []
def isSl (P : Program) (t : TypeId) : Bool :=
  match P.underlying t with
  | some (.slice _) => true
  | _ => false

def evFieldAddr (P : Program) (t : TypeId) (x : Value) (f : Nat) : List (Bool × Value) :=
  match P.underlying t,x with
  | some (.struct fs),.pointer (some a) =>
    match fs.toList[f]?,a.spot with
    | some fd,some j => match tSize P fd.type with
      | some (_ + 1) => [(true,.pointer (some ⟨a.block,a.off,some (j + fd.offset)⟩))]
      | _ => []
    | _,_ => []
  | _,_ => []

def evField (P : Program) (t : TypeId) (x : Value) (f : Nat) : List (Bool × Value) :=
  match P.underlying t,x with
  | some (.struct fs),.agg cs =>
    match fs.toList[f]? with
    | some fd =>
      match tAgg P fd.type,tSize P fd.type with
      | some true,some n => [(true,.agg ((cs.toList.drop fd.offset).take n).toArray)]
      | some false,_ => match cs.toList[fd.offset]? with
        | some v => [(true,v)]
        | none => []
      | _,_ => []
    | none => []
  | _,_ => []

def conEs (h : List Blk) (k : Nat) : Nat := (((h[k]?).bind Blk.con).map Con.es).getD 0

def conLen (h : List Blk) (k : Nat) : Option Nat := ((h[k]?).bind Blk.con).map Con.len

def evIndexAddr (P : Program) (h : List Blk) (t : TypeId) (x ix : Value) : List (Bool × Value) :=
  match P.underlying t,x,ix with
  | some (.array n e),.pointer (some a),.int _ i =>
    match a.spot,tSize P e with
    | some j,some m => [(decide (0 ≤ i) && Nat.blt i.toNat n,.pointer (some ⟨a.block,a.off,some (j + i.toNat * m)⟩))]
    | _,_ => []
  | some (.slice e),.slice (some a) l _,.int _ i =>
    match tSize P e with
    | some m => if m = conEs h a.block ∧ 0 < m then [(decide (0 ≤ i) && Nat.blt i.toNat l,.pointer (some ⟨a.block,a.off + i.toNat,a.spot⟩))] else []
    | none => []
  | some (.slice e),.iface k .nilIface,.int _ i =>
    match conLen h k,tSize P e with
    | some l,some m => if m = conEs h k ∧ 0 < m then [(decide (0 ≤ i) && Nat.blt i.toNat l,.pointer (some ⟨k,i.toNat,some 0⟩))] else []
    | _,_ => []
  | some (.slice e),.iface l (.pointer (some a)),.int _ i =>
    match tSize P e with
    | some m => if m = conEs h a.block ∧ 0 < m then [(decide (0 ≤ i) && Nat.blt i.toNat l,.pointer (some ⟨a.block,a.off + i.toNat,a.spot⟩))] else []
    | none => []
  | some (.slice e),.iface _ (.slice (some a) l _),.int _ i =>
    match a.spot,tSize P e with
    | some j,some m => [(decide (0 ≤ i) && Nat.blt i.toNat l,.pointer (some ⟨a.block,a.off,some (j + i.toNat * m)⟩))]
    | _,_ => []
  | _,_,_ => []

def evBound : Option Value → Nat → Option (Bool × Nat)
  | none,d => some (true,d)
  | some (.int _ i),_ => some (decide (0 ≤ i),i.toNat)
  | _,_ => none
def evBounds (len cap : Nat) (lo hi : Option Value) : Option (Bool × Nat × Nat) :=
  match evBound lo 0,evBound hi len with
  | some (b1,l),some (b2,h) => some ((match lo,hi with | none,none => true | some _,none => b1 | none,some _ => b2 | some _,some _ => b1 && b2) && Nat.ble l h && Nat.ble h cap,l,h)
  | _,_ => none
def evSlice (P : Program) (h : List Blk) (t : TypeId) (x : Value) (lo hi : Option Value) : List (Bool × Value) :=
  match P.underlying t,x with
  | some .string,.string s =>
    match evBounds s.size s.size lo hi with
    | some (b,l,h) => [(b,.string (s.extract l h))]
    | none => []
  | some (.array n e),.pointer (some a) =>
    match evBounds n n lo hi,tSize P e,a.spot with
    | some (b,l,h),some m,some j => [(b,xsl ⟨a.block,a.off,some (cond (Nat.beq n l) j (j + l * m))⟩ (h - l) (n - l))]
    | _,_,_ => []
  | some (.slice e),.iface _ (.slice (some a) n c) =>
    match evBounds n c lo hi,tSize P e,a.spot with
    | some (b,l,h),some m,some j => [(b,xsl ⟨a.block,a.off,some (cond (Nat.beq c l) j (j + l * m))⟩ (h - l) (c - l))]
    | _,_,_ => []
  | some (.slice e),.slice (some a) n c =>
    match evBounds n c lo hi,tSize P e with
    | some (b,l,h'),some m => if m = conEs h a.block ∧ 0 < m then [((Nat.beq l 0 || Nat.blt l c) && b,.slice (some ⟨a.block,a.off + l,a.spot⟩) (h' - l) (c - l))] else []
    | _,_ => []
  | some (.slice e),.iface k .nilIface =>
    match conLen h k,tSize P e with
    | some n,some m =>
      match evBounds n n lo hi with
      | some (b,l,h') => if m = conEs h k ∧ 0 < m then [(Nat.blt l n && b,.slice (some ⟨k,l,some 0⟩) (h' - l) (n - l)),(Nat.beq l n && b,.iface 0 (.slice none 0 0))] else []
      | none => []
    | _,_ => []
  | some (.slice e),.slice none _ _ =>
    match evBounds 0 0 lo hi,tSize P e with
    | some (b,_,_),some _ => [(b,.slice none 0 0)]
    | _,_ => []
  | _,_ => []

def evSliceR (P : Program) (h : List Blk) (t : TypeId) (x : Value) (lo hi : Option Value) : List (Bool × Value) :=
  match P.underlying t,x with
  | some (.slice e),.iface n (.pointer (some a)) =>
    match evBounds n n lo hi,tSize P e with
    | some (b,l,h'),some m => if m = conEs h a.block ∧ 0 < m then [(b,rsl ⟨a.block,a.off + l,a.spot⟩ (h' - l))] else []
    | _,_ => []
  | some (.slice e),.iface k .nilIface =>
    match conLen h k,tSize P e with
    | some n,some m =>
      match evBounds n n lo hi with
      | some (b,l,h') => if m = conEs h k ∧ 0 < m then [(b,rsl ⟨k,l,some 0⟩ (h' - l))] else []
      | none => []
    | _,_ => []
  | some (.slice e),.slice (some a) n _ =>
    match evBounds n n lo hi,tSize P e with
    | some (b,l,h'),some m => if m = conEs h a.block ∧ 0 < m then [(b,rsl ⟨a.block,a.off + l,a.spot⟩ (h' - l))] else []
    | _,_ => []
  | _,_ => []
def isRsl : Value → Bool
  | .iface _ (.pointer (some _)) => true
  | _ => false
def isStrS (P : Program) (t : TypeId) : Bool :=
  match P.underlying t with
  | some (.slice e) => match P.underlying e with
    | some .string => true
    | _ => false
  | _ => false
def evSliceX (P : Program) (h : List Blk) (t : TypeId) (x : Value) (lo hi : Option Value) : List (Bool × Value) :=
  cond (isRsl x) (evSliceR P h t x lo hi) (cond (lo.isSome) (cond (isStrS P t) (evSliceR P h t x lo hi) (evSlice P h t x lo hi)) (evSlice P h t x lo hi))

def evIndex (P : Program) (t : TypeId) (x ix : Value) : List (Bool × Value) :=
  match P.underlying t,x,ix with
  | some (.array n e),.agg cs,.int _ i =>
    match tAgg P e,tSize P e with
    | some false,some 1 => cs.toList.zipIdx.map fun (v,q) => (decide (i = (q : Int)) && Nat.blt q n,v)
    | some true,some m => (List.range n).map fun (q : Nat) => (decide (i = (q : Int)),.agg ((cs.toList.drop (q * m)).take m).toArray)
    | _,_ => []
  | some .string,.string s,.int _ i => [(decide (0 ≤ i) && Nat.blt i.toNat s.size,.int .u8 (s.data.toList.getD i.toNat 0).toNat)]
  | _,_,_ => []

def evLen (P : Program) (h : List Blk) (t : TypeId) (x : Value) : List (Bool × Value) :=
  match P.underlying t,x with
  | some .string,.string s => [(true,.int .i64 s.size)]
  | some (.array n _),_ => [(true,.int .i64 n)]
  | some (.slice _),.slice _ n _ => [(true,.int .i64 n)]
  | some (.slice _),.iface _ (.slice _ n _) => [(true,.int .i64 n)]
  | some (.slice _),.iface n (.pointer (some _)) => [(true,.int .i64 n)]
  | some (.slice _),.iface k .nilIface =>
    match conLen h k with
    | some n => [(true,.int .i64 n)]
    | none => []
  | _,_ => []

def fmin (k : FloatKind) (a b : Nat) : Nat :=
  match k.format.order a b with
  | some .gt => b
  | some .eq => cond (k.decode a).neg a b
  | _ => a
def fmax (k : FloatKind) (a b : Nat) : Nat :=
  match k.format.order a b with
  | some .lt => b
  | some .eq => cond (k.decode a).neg b a
  | _ => a
def evMM (mx : Bool) (x y : Value) : List (Bool × Value) :=
  match x,y with
  | .float k a,.float k' b => if k = k' then [((k.format.order a b).isSome,.float k (cond mx (fmax k a b) (fmin k a b)))] else []
  | _,_ => []

inductive Ext where
  | f32bits | f32from | f64bits | f64from | sqrt
  deriving DecidableEq

def evExt (e : Ext) (args : List Value) : List (Bool × Value) :=
  match e,args with
  | .f32bits,[.float .f32 b] => [(!isN .f32 b,.int .u32 b),(true,nanBits .f32)]
  | .f32from,[.complex k n _] => if k = .f32 ∧ n = 1 then [(true,.float .f32 (qnan .f32))] else []
  | .f64from,[.complex k n _] => if k = .f64 ∧ n = 1 then [(true,.float .f64 (qnan .f64))] else []
  | .f32from,[.int .u32 n] => [(true,.float .f32 n.toNat)]
  | .f64bits,[.float .f64 b] => [(!isN .f64 b,.int .u64 b),(true,nanBits .f64)]
  | .f64from,[.int .u64 n] => [(true,.float .f64 n.toNat)]
  | .sqrt,[.float .f64 b] => [(true,.float .f64 (fsqrt .f64 b))]
  | _,_ => []

def addr0 : Value → List Nat
  | .pointer (some a) => [a.block]
  | _ => []
def addrs1 : Value → List Nat
  | .pointer (some a) | .slice (some a) _ _ => [a.block]
  | .iface _ (.slice (some a) _ _) => [a.block]
  | .iface k .nilIface => [k]
  | .iface _ (.pointer (some a)) => [a.block]
  | .func _ _ y => y.toList.flatMap addr0
  | _ => []
def addrs2 : Value → List Nat
  | .agg cs => cs.toList.flatMap addrs1
  | v => addrs1 v
def addrsV : Value → List Nat
  | .tuple vs => vs.toList.flatMap addrs2
  | v => addrs2 v
def addrsC : Option Con → List Nat
  | some (.cells l) | some (.vals l) => l.flatMap addrs1
  | _ => []
def reach (h : List Blk) : Nat → List Nat → List Nat → List Nat
  | 0,_,seen => seen
  | _ + 1,[],seen => seen
  | n + 1,k :: todo,seen => cond (seen.contains k) (reach h n todo seen) (reach h n (todo ++ addrsC ((h.getD k deadB).con)) (seen ++ [k]))

def inv (E : List Nat) (k : Nat) : Option Nat := E.idxOf? k

def reloc0 (f : Nat → Option Nat) : Value → Option Value
  | .pointer (some a) => match f a.block with
    | some b => some (.pointer (some { a with block := b }))
    | none => none
  | v => some v
def relocAll (f : Nat → Option Nat) : List Value → Option (List Value)
  | [] => some []
  | v :: l => match reloc0 f v,relocAll f l with
    | some u,some m => some (u :: m)
    | _,_ => none
def reloc1 (f : Nat → Option Nat) : Value → Value
  | .pointer (some a) => match f a.block with
    | some b => .pointer (some { a with block := b })
    | none => poison
  | .slice (some a) l c => match f a.block with
    | some b => .slice (some { a with block := b }) l c
    | none => poison
  | .iface _ (.slice (some a) l c) => match f a.block with
    | some b => xsl { a with block := b } l c
    | none => poison
  | .iface k .nilIface => match f k with
    | some b => wsl b
    | none => poison
  | .iface l (.pointer (some a)) => match f a.block with
    | some b => rsl { a with block := b } l
    | none => poison
  | .func g x y => match relocAll f y.toList with
    | some l => .func g x l.toArray
    | none => poison
  | v => v
def reloc2 (f : Nat → Option Nat) : Value → Value
  | .agg cs => .agg (cs.toList.map (reloc1 f)).toArray
  | v => reloc1 f v
def relocV (f : Nat → Option Nat) : Value → Value
  | .tuple vs => .tuple (vs.toList.map (reloc2 f)).toArray
  | v => reloc2 f v
def relocC (f : Nat → Option Nat) : Con → Con
  | .cells l => .cells (l.map (reloc1 f))
  | .vals l => .vals (l.map (reloc1 f))
  | c => c
def relocB (f : Nat → Option Nat) (b : Blk) : Blk := ⟨b.w,b.con.map (relocC f)⟩

def subH (E : List Nat) (h : List Blk) : List Blk := E.map fun k => relocB (inv E) (h.getD k deadB)
def outOf (E : List Nat) (n : Nat) (i : Nat) : Option Nat := if i < E.length then E[i]? else some (n + (i - E.length))
def backH (h : List Blk) (E : List Nat) (h1 : List Blk) (f : Nat → Option Nat) (wr : List Nat) : List Blk :=
  h.zipIdx.map fun (b,k) => match inv E k with
    | some i => cond (wr.contains i) (relocB f (h1.getD i deadB)) b
    | none => b
def nodupB : List Nat → Bool
  | [] => true
  | k :: l => !l.contains k && nodupB l

def back (s : St) (E : List Nat) (s1 : St) : St :=
  cond s1.wr.isEmpty { s with h := s.h ++ (s1.h.drop E.length).map (relocB (outOf E s.h.length)) }
    { h := backH s.h E s1.h (outOf E s.h.length) s1.wr ++ (s1.h.drop E.length).map (relocB (outOf E s.h.length)),lo := s.lo,wr := s1.wr.foldr (fun i l => addW s.lo (E.getD i 0) l) s.wr }

def evCall (ext : FuncId → Option Ext) (cf : CallF) (g : FuncId) (args : List Value) (s : St) : List (Bool × Value × St × Kd) :=
  match ext g with
  | some e => (evExt e args).map fun (b,v) => (b,v,s,.pure)
  | none =>
    let E := reach s.h 100 (args.flatMap addrsV) []
    cond (nodupB E)
      ((cf g (args.map (relocV (inv E))) ⟨subH E s.h,E.length,[]⟩).map fun (b,p) => (b,relocV (outOf E s.h.length) p.1,back s E p.2,cond p.2.wr.isEmpty Kd.rd (Kd.write (p.2.wr.map fun i => E.getD i 0)))) []

def eo (fr : List Value) : Operand → Value
  | .tmp t => fr.getD t undef
  | .const v => cond (cok v) v anyV
  | .func f => .func (.func f) #[] #[]
  | .global _ => anyV

def lift1 (s : St) (kd : Kd) (l : List (Bool × Value)) : List (Bool × Value × St × Kd) := l.map fun (b,v) => (b,v,s,kd)

def isTup : Value → Bool
  | .tuple _ => true
  | .chan _ => true
  | _ => false

def evOp (P : Program) (ext : FuncId → Option Ext) (cf : CallF) (ρ : Operand → Value) (op : Op) (s : St) : List (Bool × Value × St × Kd) :=
  match op with
  | .move x | .assign x => [(true,ρ x,s,.pure)]
  | .pick c a b =>
    match ρ c with
    | .bool t =>
      match ρ a,ρ b with
      | .bool u,.bool v => [(true,.bool (cond t u v),s,.pure)]
      | u,v => [(t,u,s,.pure),(true,v,s,.pure)]
    | _ => []
  | .alloc t =>
    match cond (zOk P t) ((tZero P t).bind vcells) none with
    | some cs => [(true,.pointer (some ⟨s.h.length,0,some 0⟩),(evPush s (.cells cs)).2,.rd)]
    | none => []
  | .box _ x =>
    match vcells (ρ x) with
    | some cs => [(true,.pointer (some ⟨s.h.length,0,some 0⟩),(evPush s (.cells cs)).2,.rd)]
    | none => []
  | .build t parts => lift1 s .pure (evBuild P t (parts.toList.map fun (i,x) => (i,ρ x)))
  | .buildSlice t len parts => (evBuildSlice P s t len (parts.toList.map fun (i,x) => (i,ρ x))).map fun (b,v,s') => (b,v,s',.rd)
  | .makeSlice t l c => (evMakeSlice P s t (ρ l) (ρ c)).map fun (b,v,s') => (b,v,s',.rd)
  | .load t a => lift1 s .rd (evLoad P s.h t (ρ a))
  | .store t a x => (evStore P s t (ρ a) (ρ x)).map fun (b,s') => (b,undef,s',.write (addrsV (ρ a)))
  | .nilCheck x =>
    match ρ x with
    | .pointer (some a) => [(true,.pointer (some a),s,.pure)]
    | .func (.func f) x y => [(true,.func (.func f) x y,s,.pure)]
    | _ => []
  | .binOp op t x y _ => cond (isNilC y) (lift1 s .pure (evNil P op t (ρ x))) (lift1 s .pure (evBin P op t (ρ x) (ρ y)))
  | .unOp op _ x => lift1 s .pure (evUn op (ρ x))
  | .convert src dst x => cond (isSl P src) (lift1 s .rd (evBytes P s.h src dst (ρ x))) (lift1 s .pure (evConv P src dst (ρ x)))
  | .fieldAddr t x f => lift1 s .pure (evFieldAddr P t (ρ x) f)
  | .field t x f => lift1 s .pure (evField P t (ρ x) f)
  | .indexAddr t x ix => lift1 s .rd (evIndexAddr P s.h t (ρ x) (ρ ix))
  | .index t x ix => lift1 s .pure (evIndex P t (ρ x) (ρ ix))
  | .makeFunc (.func f) first caps => if first.size = 0 ∧ (caps.toList.map ρ).all capV = true then [(true,.func (.func f) #[] (caps.toList.map ρ).toArray,s,.pure)] else []
  | .slice t x lo hi none => lift1 s .rd (evSliceX P s.h t (ρ x) (lo.map ρ) (hi.map ρ))
  | .extract t i =>
    match ρ t with
    | .tuple vs => match vs.toList[i]? with
      | some v => [(true,v,s,.pure)]
      | none => []
    | _ => []
  | .call c =>
    match c.callee with
    | .value f =>
      match ρ f with
      | .func (.func g) x y => if x.size = 0 then evCall ext cf g (c.args.toList.map ρ ++ y.toList) s else []
      | _ => []
    | .builtin .len =>
      match c.argTypes.toList,c.args.toList with
      | [t],[x] => lift1 s .rd (evLen P s.h t (ρ x))
      | _,_ => []
    | .builtin .append =>
      match c.argTypes.toList,c.args.toList with
      | [t,t'],[x,y] => if t = t' then cond (isNilS (ρ y)) (lift1 s .rd (evAppNil P t (ρ x))) ((evAppend P s t (ρ x) (ρ y)).map fun (b,v,s') => (b,v,s',.write (addrsV (ρ x)))) else []
      | _,_ => []
    | .builtin .min =>
      match c.args.toList with
      | [x,y] => lift1 s .pure (evMM false (ρ x) (ρ y))
      | _ => []
    | .builtin .max =>
      match c.args.toList with
      | [x,y] => lift1 s .pure (evMM true (ρ x) (ρ y))
      | _ => []
    | _ => []
  | _ => []

def putA (fr : List Value) (dst : Option Tmp) (v : Value) : List Value :=
  match dst with
  | some d => fr.set d v
  | none => fr

def wantedA (ops : List Oper) (fr : List Value) (o : Oper) : Option (Option (Nat × Bool × Bool)) :=
  match o.guard with
  | none => some none
  | some (j,want) =>
    match (ops[j]?).bind (·.dst) with
    | some d =>
      match fr[d]? with
      | some (.bool b) => some (some (d,b,want))
      | some (.tuple _) => some (some (d,!want,want))
      | _ => none
    | none => none

def asLit (fr : List Value) (d : Nat) (b : Bool) : List Value :=
  match fr[d]? with
  | some (.bool _) => fr.set d (.bool b)
  | _ => fr

structure Ft where
  kd : Kd
  R : List Nat
  ok : Bool
  a : Nat
  b : Nat
def Kd.W : Kd → List Nat
  | .write W => W
  | _ => []
def ftOk (h : List Blk) (as R W : List Nat) : Bool := as.all (fun k => R.contains k) && R.all (fun k => Nat.blt k h.length && (addrsC ((h.getD k deadB).con)).all fun q => R.contains q) && W.all (fun k => R.contains k)
def opAs (fr : List Value) (op : Op) : List Nat := op.operands.toList.flatMap fun x => addrsV (eo fr x)
def isLd (fr : List Value) : Op → Option Nat
  | .load _ x => match eo fr x with
    | .pointer (some a) => some a.block
    | _ => none
  | _ => none
def isRd : Kd → Bool
  | .rd => true
  | _ => false
def ftOf (fr : List Value) (op : Op) (s s' : St) (kd : Kd) : Ft :=
  ⟨kd,(match isLd fr op with | some k => [k] | none => reach s.h 100 (opAs fr op) []),(match isLd fr op with | some k => Nat.blt k s.h.length && isRd kd | none => ftOk s.h (opAs fr op) (reach s.h 100 (opAs fr op) []) kd.W),s.h.length,s'.h.length⟩
def ftNo (s : St) : Ft := ⟨.pure,[],true,s.h.length,s.h.length⟩

def evOps {α : Type} (P : Program) (ext : FuncId → Option Ext) (cf : CallF) (ops : List Oper) : List Oper → (List Value → St → List Ft → Option α) → List Value → St → List Ft → Option α
  | [],k,fr,s,ks => k fr s ks
  | o :: rest,k,fr,s,ks =>
    match wantedA ops fr o with
    | none => none
    | some none => alts (evOp P ext cf (eo fr) o.op s) fun (v,s',kd) => evOps P ext cf ops rest k (putA fr o.dst v) s' (ftOf fr o.op s s' kd :: ks)
    | some (some (d,b,want)) =>
      cond b
        (cond want
          (alts (evOp P ext cf (eo (asLit fr d true)) o.op s) fun (v,s',kd) => evOps P ext cf ops rest k (putA (asLit fr d true) o.dst v) s' (ftOf (asLit fr d true) o.op s s' kd :: ks))
          (evOps P ext cf ops rest k (putA (asLit fr d true) o.dst undef) s (ftNo s :: ks)))
        (cond want
          (evOps P ext cf ops rest k (putA (asLit fr d false) o.dst undef) s (ftNo s :: ks))
          (alts (evOp P ext cf (eo (asLit fr d false)) o.op s) fun (v,s',kd) => evOps P ext cf ops rest k (putA (asLit fr d false) o.dst v) s' (ftOf (asLit fr d false) o.op s s' kd :: ks)))

def apartN (l m : List Nat) : Bool := l.all fun k => !m.contains k
def okPair (f g : Ft) : Bool :=
  f.kd == .pure || g.kd == .pure || (apartN f.kd.W g.R && apartN g.kd.W f.R && g.R.all fun k => Nat.blt k f.a || Nat.ble f.b k)
def ftD : Ft := ⟨.rd,[],false,0,0⟩

def ancs : List Oper → List Nat → List Nat
  | [],acc => acc
  | o :: l,acc => ancs l (acc ++ [o.after.toList.foldl (fun s e => cond (Region.binds .any e) (s ||| 2 ^ e.on ||| acc.getD e.on 0) s) 0])

def pairsOk (ops : List Oper) (b : List Nat) (ks : List Ft) : Bool :=
  ops.zipIdx.all fun (o,j) => (ops.take j).zipIdx.all fun (p,i) =>
    (b.getD j 0).testBit i || (Oper.apart ops.toArray p o && okPair (ks.getD i ftD) (ks.getD j ftD))

def dstsOk (ops : List Oper) : Bool := nodupB (ops.filterMap (·.dst))

def edgesOk (ops : List Oper) : Bool := ops.zipIdx.all fun (o,i) => o.after.toList.all fun e => !Region.binds .any e || Nat.blt e.on i

def orderOk (ops : List Oper) (ks : List Ft) : Bool :=
  pairsOk ops (ancs ops []) ks && dstsOk ops && edgesOk ops && ks.all fun f => f.kd == .pure || f.ok

def evRegion {α : Type} (P : Program) (ext : FuncId → Option Ext) (cf : CallF) (ops : List Oper) (draw : Bool) (k : List Value → St → Option α) (fr : List Value) (s : St) : Option α :=
  evOps P ext cf ops ops (fun fr' s' ks => cond (!draw || orderOk ops ks.reverse) (k fr' s') none) fr s []

inductive Fin' where
  | norm | ret | exit (id : Nat)

abbrev Kont (α : Type) := Fin' → List Value → St → Option α

def lid : Code → Nat
  | .region id _ _ => id + 1
  | .seq a b => cond (Nat.beq (lid a) 0) (lid b) (lid a)
  | .cond _ t _ => lid t
  | .block _ b => lid b
  | .loop b => lid b
  | _ => 0
abbrev Sum1 := List Value → St → List (Bool × (Fin' × List Value × St))
abbrev Keep := List Nat × List Nat
abbrev LoopT := Nat → Option (Keep × Sum1)
def noL : LoopT := fun _ => none
def keepFr (keep : List Nat) (fr : List Value) : List Value := fr.zipIdx.map fun (v,i) => cond (keep.contains i) v anyV
def normA (fr : List Value) (s : St) (i : Nat) : Bool × List Value × St :=
  match fr[i]? with
  | some (.slice (some a) n _) =>
    match a.spot,s.h[a.block]? with
    | some 0,some ⟨true,some c⟩ =>
      match c.part 0 n with
      | some c' => (Nat.beq a.off 0 && Nat.ble n c.len,fr.set i (wsl s.h.length),{ h := s.h.set a.block deadB ++ [⟨true,some c'⟩],lo := s.lo,wr := addW s.lo a.block s.wr })
      | none => (true,fr,s)
    | _,_ => (true,fr,s)
  | _ => (true,fr,s)
def normAll {α : Type} : List Nat → List Value → St → (List Value → St → Option α) → Option α
  | [],fr,s,k => k fr s
  | i :: l,fr,s,k => match normA fr s i with
    | (b,fr',s') => cond b (normAll l fr' s' k) none
def loopCall {α : Type} (keep : Keep) (sum : Sum1) (k : Kont α) (fr : List Value) (s : St) : Option α :=
  normAll keep.2 (keepFr keep.1 fr) s fun fr0 s =>
  let E := reach s.h 100 (fr0.flatMap addrsV) []
  cond (nodupB E) (alts (sum (fr0.map (relocV (inv E))) ⟨subH E s.h,E.length,[]⟩) fun x => k x.1 (x.2.1.map (relocV (outOf E s.h.length))) (back s E x.2.2)) none
def finL (keep : List Nat) (wide : List Nat) (e : Fin') (fr : List Value) (s : St) : Option (Fin' × List Value × St) :=
  let fr0 := keepFr keep fr
  let E := reach s.h 100 (fr0.flatMap addrsV ++ (s.h.take s.lo).flatMap fun b => addrsC b.con) (List.range s.lo)
  cond (nodupB E && Nat.ble s.lo s.h.length && E.all fun k => Nat.blt k s.h.length) (some (e,fr0.map (relocV (inv E)),⟨subH E s.h,s.lo,unW wide s.wr⟩)) none
def loopTail (kin : Keep) (kout wide : List Nat) (sum : Sum1) : Kont (Fin' × List Value × St) := fun e fr s =>
  match e with
  | .norm => loopCall kin sum (finL kout wide) fr s
  | e => finL kout wide e fr s

def loopC {α : Type} (body : Kont α → List Value → St → Option α) (k : Kont α) : Nat → List Value → St → Option α
  | 0,_,_ => none
  | n + 1,fr,s => body (fun e fr s => match e with | .norm => loopC body k n fr s | e => k e fr s) fr s

def evC {α : Type} (P : Program) (ext : FuncId → Option Ext) (cf : CallF) (lf : LoopT) (K : Nat) : Code → Kont α → List Value → St → Option α
  | .skip,k,fr,s => k .norm fr s
  | .label _,k,fr,s => k .norm fr s
  | .region _ ops draw,k,fr,s => evRegion P ext cf ops.toList draw (k .norm) fr s
  | .seq a b,k,fr,s => evC P ext cf lf K a (fun e fr s => match e with | .norm => evC P ext cf lf K b k fr s | e => k e fr s) fr s
  | .cond c t e,k,fr,s =>
    match eo fr c with
    | .bool b => cond b (evC P ext cf lf K t k fr s) (evC P ext cf lf K e k fr s)
    | _ => none
  | .block id body,k,fr,s => evC P ext cf lf K body (fun e fr s => match e with | .exit id' => if id' = id then k .norm fr s else k (.exit id') fr s | e => k e fr s) fr s
  | .loop body,k,fr,s =>
    match lf (lid body) with
    | some (keep,sum) => loopCall keep sum k fr s
    | none => loopC (evC P ext cf lf K body) k K fr s
  | .exit id,k,fr,s => k (.exit id) fr s
  | .ret,k,fr,s => k .ret fr s
  | _,_,_,_ => none

def evRes (P : Program) (fr : List Value) (s : St) : List ResultVar → (List Value → Res) → Res
  | [],k => k []
  | .tmp t :: l,k => evRes P fr s l fun vs => k (fr.getD t undef :: vs)
  | .cell a t :: l,k => alts (evLoad P s.h t (fr.getD a undef)) fun v => evRes P fr s l fun vs => k (v :: vs)

def resOf (s : St) : List Value → Res
  | [v] => some (v,s)
  | vs => if vs.any isTup then none else some (.tuple vs.toArray,s)

def tidy : Res → Res
  | some (r,s) =>
    let E := reach s.h 100 (addrsV r ++ (s.h.take s.lo).flatMap fun b => addrsC b.con) (List.range s.lo)
    cond (nodupB E && Nat.ble s.lo s.h.length && E.all fun k => Nat.blt k s.h.length) (some (relocV (inv E) r,⟨subH E s.h,s.lo,s.wr⟩)) none
  | none => none

def evFn (P : Program) (ext : FuncId → Option Ext) (cf : CallF) (lf : LoopT) (K : Nat) (fn : Func) (args : List Value) (s : St) : Res :=
  match fn.body with
  | some c =>
    if fn.name == "runtime.NumGoroutine" then none else
    evC P ext cf lf K c (fun e fr s' => match e with | .norm | .ret => evRes P fr s' fn.results.toList (fun vs => tidy (resOf s' vs)) | _ => none)
      (args ++ List.replicate (fn.ntmps - args.length) undef) s
  | none => none

def fuelV : Value → Nat → Nat
  | .string s,n => n + s.size
  | _,n => n
def fuelB : Blk → Nat → Nat
  | ⟨_,some (.tab _ rows)⟩,n => n + rows.length
  | ⟨_,some (.strs l)⟩,n => n + l.length
  | _,n => n
def fuelOf (vals : List Value) (h : List Blk) : Nat := vals.foldr fuelV (h.foldr fuelB 1000)
def addL (lf : LoopT) (id : Nat) (kin : Keep) (sum : Sum1) : LoopT := fun j => cond (Nat.beq j id) (some (kin,sum)) (lf j)

def addF (cf : CallF) (g : FuncId) (spec : List Value → St → List (Bool × Value × St)) : CallF := fun g' args s => cond (Nat.beq g' g) (spec args s) (cf g' args s)
def noF : CallF := fun _ _ _ => []

inductive Tre (α : Type) where
  | none
  | one (a : α)
  | node (c : Bool) (l r : Tre α)
def Tre.list {α : Type} : Tre α → List (Bool × α)
  | .none => []
  | .one a => [(true,a)]
  | .node c l r => (l.list.map fun (b,a) => (c && b,a)) ++ (r.list.map fun (b,a) => (!c && b,a))

end Go.Ab
