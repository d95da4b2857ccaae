/- The walk's engine, part 0: values and memory said by symbols, and what each operation makes of them, as plain functions that the kernel can run. -/
import Derived.Below
import Derived.Orders
import Derived.LoopN
import Derived.KernelRfl
import Derived.Laws.Externs
import Derived.Laws.AppendOwn
import Derived.Laws.OwnMore
import Derived.Laws.BytesArg
import Derived.Test.YtdbheiibkpendaaGreatDoorGwA0
namespace Go.Gw
open Go.RowKit
inductive Leaf where
 |int (k:IntKind) (n:Int)
 |bool (b:Bool)
 |str (s:ByteArray)
 |arr (k:IntKind) (n:Nat) (l:List Int)
 |ptr (κ off:Nat)
 |pe (κ base n:Nat) (i:Int)
 |per (κ sz:Nat) (i:Int) (off:Nat)
 |slc (κ:Nat)
 |view (κ base n:Nat) (lo hi:Int)
 |fn (f:Nat)
 |nilp
 |nils
 |nilm
 |nili
 |ifi (t:TypeId) (k:IntKind) (n:Int)
 |clo (f κ:Nat)
inductive V1 where
 |one (x:Leaf)
 |agg (l:List Leaf)
inductive SV where
 |v (x:V1)
 |tup (l:List V1)
inductive DL where
 |int (k:IntKind) (n:Int)
 |bytes (k:IntKind) (l:List Int)
 |bool (b:Bool)
 |bools (l:List Bool)
 |str (s:ByteArray)
inductive RowsK where
 |bs (k:IntKind) (ll:List (List Int))
 |rc (ll:List (Int×List Int))
 |gn (sz:Nat) (ll:List (List DL))
def dlR (r:List DL) (j:Nat):DL:=r.getD j (.int .i64 0)
def Jnh (ll:List (List DL)) (i j:Nat):DL:=dlR (ll.getD i []) j
def RowsK.sz:RowsK→Nat
 | .bs ..=>1
 | .rc _=>2
 | .gn sz _=>sz
def RowsK.len:RowsK→Nat
 | .bs _ ll=>ll.length
 | .rc ll=>ll.length
 | .gn _ ll=>ll.length
def RowsK.cells:RowsK→List DL
 | .bs k ll=>ll.map (.bytes k)
 | .rc ll=>ll.flatMap fun r=>[.int .i64 r.1,.bytes .u8 r.2]
 | .gn sz ll=>ll.flatMap fun r=>(List.range sz).map fun j=>dlR r j
def DL.num:DL→Int
 | .int _ n=>n
 |_=>0
def DL.tr:DL→Bool
 | .bool b=>b
 |_=>false
def DL.ints:DL→List Int
 | .bytes _ l=>l
 |_=>[]
def DL.boolL:DL→List Bool
 | .bools l=>l
 |_=>[]
inductive Ent where
 |blk (ty:TypeId) (l:List Leaf)
 |rblk (ty:TypeId) (l:List Leaf)
 |rd (k:IntKind) (l:List Int)
 |rdx (k:IntKind) (l:List Int)
 |own (e:TypeId) (k:IntKind) (l:List Int)
 |rows (r:RowsK)
 |orows (e:TypeId) (r:RowsK)
 |frows (e eb:TypeId) (m:Int) (r:RowsK)
 |lit (e:TypeId) (n:Nat) (l:List Leaf)
 |arena (rw:Bool) (bs:List Nat) (H:AH)
 |apt (κ:Nat) (v:MV)
 |wv (κ:Nat) (v:MV)
 |ptn (κ:Nat) (v:MV)
 |rdb (l:List Bool)
 |rdbx (l:List Bool)
 |ownb (e:TypeId) (l:List Bool)
 |err (tp ts te:TypeId) (n:Int)
 |ownf (e:TypeId) (k:IntKind) (l:List Int)
 |owni (e:TypeId) (sz:Nat) (l:List Int)
 |prows (e:TypeId) (r:RowsK)
 |rdn (n:Nat)
 |gv (b:Nat) (v:Value)
 |dead
inductive Loc where
 |s (t:Nat)
 |h (κ:Nat)
inductive Cont where
 |v (x:SV)
 |e (x:Ent)
abbrev SS:=List (Loc×Cont)
def Loc.beq:Loc→Loc→Bool
 | .s a,.s b=>Nat.beq a b
 | .h a,.h b=>Nat.beq a b
 |_,_=>false
def look:SS→Loc→Option Cont
 |[],_=>none
 |(l,c)::r,x=>bif l.beq x then some c else look r x
abbrev Stt:=Loc→Option Cont
def Jaj (σ:Stt) (t:Nat):Option SV:=match σ (.s t) with|some (.v x)=>some x|_=>none
def Jh (σ:Stt) (κ:Nat):Option Ent:=match σ (.h κ) with|some (.e x)=>some x|_=>none
inductive TD where
 |int (k:IntKind)
 |bool
 |str
 |arr (n:Nat) (e:TypeId) (k:IntKind)
 |struct (n:Nat) (offs:List (Nat×Nat)) (z:List Leaf)
 |slice (e:TypeId) (k:IntKind)
 |sliceR (e:TypeId) (sz:Nat)
 |arrG (n:Nat) (e:TypeId) (sz:Nat) (z:List Leaf)
 |mapP
 |ptr
 |ifc
def Jlh:IntKind→Nat
 | .i8=>0| .i16=>1| .i32=>2| .i64=>3| .u8=>4| .u16=>5| .u32=>6| .u64=>7
def keq (a b:IntKind):Bool:=Nat.beq (Jlh a) (Jlh b)
def JaB (k:IntKind) (a b:Int):Int:=k.wrap (BitVec.ofInt k.bits a&&&BitVec.ofInt k.bits b).toNat
def bor (k:IntKind) (a b:Int):Int:=k.wrap (BitVec.ofInt k.bits a|||BitVec.ofInt k.bits b).toNat
def XG (k:IntKind) (a b:Int):Int:=k.wrap (BitVec.ofInt k.bits a^^^BitVec.ofInt k.bits b).toNat
def JmJ (k:IntKind) (a b:Int):Int:=k.wrap (BitVec.ofInt k.bits a&&&~~~(BitVec.ofInt k.bits b)).toNat
def shl (k:IntKind) (a b:Int):Int:=k.wrap (a*2^(min b.toNat k.bits))
def shr (k:IntKind) (a b:Int):Int:=a.fdiv (2^(min b.toNat k.bits))
abbrev Yn (k:IntKind) (n:Int):SV:= .v (.one (.int k n))
abbrev Wg (b:Bool):SV:= .v (.one (.bool b))
def JcV:Value→Option SV
 | .int k n=>some (Yn k n)
 | .bool b=>some (Wg b)
 | .string s=>some (.v (.one (.str s)))
 | .pointer none=>some (.v (.one .nilp))
 | .slice none 0 0=>some (.v (.one .nils))
 | .nilIface=>some (.v (.one .nili))
 |_=>none
def Jg (σ:Stt):Operand→Option SV
 | .tmp t=>Jaj σ t
 | .const v=>JcV v
 | .func f=>some (.v (.one (.fn f)))
 | .global _=>none
def Leaf.size:Leaf→Nat
 | .arr _ n _=>n
 |_=>1
def Xy:List Leaf→Nat→Option Leaf
 |[],_=>none
 |x::r,off=>bif Nat.beq off 0 then some x else bif Nat.ble x.size off then Xy r (off-x.size) else none
def Yw:List Leaf→Nat→Leaf→List Leaf
 |[],_,_=>[]
 |x::r,off,y=>bif Nat.beq off 0 then y::r else x::Yw r (off-x.size) y
def YU:List Leaf→Nat→Option (List Leaf×List Leaf)
 |r,0=>some ([],r)
 |[],_+1=>none
 |x::r,n+1=>bif Nat.ble x.size (n+1)&&Nat.ble 1 x.size then(YU r (n+1-x.size)).map fun p=>(x::p.1,p.2) else none
def JcG:List Leaf→Nat→Option (List Leaf)
 |r,0=>some r
 |[],_+1=>none
 |x::r,n+1=>bif Nat.ble x.size (n+1)&&Nat.ble 1 x.size then JcG r (n+1-x.size) else none
inductive CV where
 |same
 |ro
 |rw
 |apt (κ:Nat)
 |rd (k:IntKind) (κ:Nat)
 |rdb (κ:Nat)
 |rows (k:IntKind) (κ κ1 κ2:Nat)
inductive GK where
 |int (k:IntKind)
 |bool
 |bs (k:IntKind) (κ:Nat)
 |bb (κ:Nat)
def GK.keys:GK→List Nat
 | .bs _ κ=>[κ]
 | .bb κ=>[κ]
 |_=>[]
def GK.leaf (d:DL):GK→Leaf
 | .int k=> .int k d.num
 | .bool=> .bool d.tr
 | .bs _ κ=> .slc κ
 | .bb κ=> .slc κ
def GK.ents (d:DL):GK→List (Nat×Ent)
 | .bs k κ=>[(κ,.rd k d.ints)]
 | .bb κ=>[(κ,.rdb d.boolL)]
 |_=>[]
def ikc:IntKind→Nat
 | .i8=>0| .i16=>1| .i32=>2| .i64=>3| .u8=>4| .u16=>5| .u32=>6| .u64=>7
def Jns:DL→GK→Bool
 | .int k _,.int k'=>Nat.beq (ikc k) (ikc k')
 | .bool _,.bool=>true
 | .bytes k _,.bs k' _=>Nat.beq (ikc k) (ikc k')
 | .bools _,.bb _=>true
 |_,_=>false
def gkL (ll:List (List DL)) (i:Nat):Nat→List GK→List Leaf
 |_,[]=>[]
 |off,g::r=>g.leaf (Jnh ll i off)::gkL ll i (off+1) r
def gkE (ll:List (List DL)) (i:Nat):Nat→List GK→List (Nat×Ent)
 |_,[]=>[]
 |off,g::r=>g.ents (Jnh ll i off)++gkE ll i (off+1) r
def JmX (ll:List (List DL)) (i:Nat):Nat→List GK→Bool
 |_,[]=>true
 |off,g::r=>Jns (Jnh ll i off) g&&JmX ll i (off+1) r
inductive Hint where
 |no
 |ar (κ:Nat) (ns:List Nat)
 |arN (κ:Nat) (ns:List Nat)
 |arW (κ:Nat) (ns:List Nat)
 |gk (ks:List GK)
 |pn
 |bb (ns:List Nat)
 |ei
 |of (ns:List Nat)
 |oi (ns:List Nat)
 |callA (ks:List (Nat×CV)) (res:SV) (news:List (Nat×Ent))
 |key (κ:Nat)
 |dk (κ:Nat) (eb:TypeId)
 |lk (κ:Nat)
 |dec (b:Bool)
 |call (ks:List Nat) (res:SV) (news:List (Nat×Ent))
structure Eff where
 val:Option SV
 wr:List (Nat×Ent)
 needs:List Prop
def Wn:List Prop→Prop
 |[]=>True
 |[p]=>p
 |p::q::r=>p∧Wn (q::r)
def Eff.need (e:Eff):Prop:=Wn e.needs
def Ju (v:SV):Option Eff:=some ⟨some v,[],[]⟩
def Vp (v:SV) (p:Prop):Option Eff:=some ⟨some v,[],[p]⟩
def JiU (op:BinOp) (k:IntKind) (a b:Int):Option Eff:=
 match op with
 | .add=>Ju (Yn k (k.wrap (a+b)))
 | .sub=>Ju (Yn k (k.wrap (a-b)))
 | .mul=>Ju (Yn k (k.wrap (a*b)))
 | .quo=>Vp (Yn k (k.wrap (a.tdiv b))) (b≠0)
 | .rem=>Vp (Yn k (a.tmod b)) (b≠0)
 | .and=>Ju (Yn k (JaB k a b))
 | .or=>Ju (Yn k (bor k a b))
 | .xor=>Ju (Yn k (XG k a b))
 | .andNot=>Ju (Yn k (JmJ k a b))
 | .eql=>Ju (Wg (a==b))
 | .neq=>Ju (Wg (a !=b))
 | .lss=>Ju (Wg (decide (a<b)))
 | .leq=>Ju (Wg (decide (a≤b)))
 | .gtr=>Ju (Wg (decide (a>b)))
 | .geq=>Ju (Wg (decide (a≥b)))
 |_=>none
def Jnf (T:TypeId→Option TD) (op:BinOp) (t:TypeId):SV→SV→Option Eff
 | .v (.one (.int k a)),.v (.one (.int k' b))=>
  match op with
  | .shl=>Vp (Yn k (shl k a b)) (0≤b)
  | .shr=>Vp (Yn k (shr k a b)) (0≤b)
  |op=>bif keq k k' then JiU op k a b else none
 | .v (.one (.bool a)),.v (.one (.bool b))=>
  match T t,op with
  |some .bool,.eql=>Ju (Wg (a==b))
  |some .bool,.neq=>Ju (Wg (!(a==b)))
  |_,_=>none
 | .v (.one (.str a)),.v (.one (.str b))=>
  match T t,op with
  |some .str,.eql=>Ju (Wg (a.data.toList==b.data.toList))
  |some .str,.neq=>Ju (Wg (!(a.data.toList==b.data.toList)))
  |_,_=>none
 | .v (.agg [.arr k n l]),.v (.agg [.arr k' n' l'])=>
  match T t,op with
  |some (.arr n2 _ k2),.eql=>bif keq k k'&&Nat.beq n n'&&Nat.beq n n2&&keq k k2 then Ju (Wg (decide (l=l'))) else none
  |some (.arr n2 _ k2),.neq=>bif keq k k'&&Nat.beq n n'&&Nat.beq n n2&&keq k k2 then Ju (Wg (!(decide (l=l')))) else none
  |_,_=>none
 |_,_=>none
def unS (op:UnOp):SV→Option Eff
 | .v (.one (.bool b))=>match op with| .not=>Ju (Wg (!b))|_=>none
 | .v (.one (.int k n))=>match op with
  | .neg=>Ju (Yn k (k.wrap (0-n)))
  | .xor=>Ju (Yn k (XG k (if k.signed then -1 else k.max) n))
  |_=>none
 |_=>none
def JiZ (h:Hint) (e:Option Eff):Option Eff:=
 match h with
 | .dec b=>match e with
  |some ⟨some (.v (.one (.bool b0))),wr,p⟩=>some ⟨some (Wg b),wr,(b0=b)::p⟩
  |_=>none
 |_=>e
def cst:IntKind→Nat
 | .i8| .u8=>1| .i16| .u16=>2| .i32| .u32=>4| .i64| .u64=>8
def JgS (T:TypeId→Option TD) (hp:Nat→Option Ent) (hint:Hint) (t:TypeId):SV→Option Eff
 | .v (.one (.ptr κ off))=>
  match hp κ,T t with
  | some (.blk _ ls),some (.arr n _ _)|some (.blk _ ls),some (.struct n _ _)|some (.rblk _ ls),some (.arr n _ _)|some (.rblk _ ls),some (.struct n _ _)=>
   match JcG ls off with
   |some r=>match YU r n with
    |some (m,_)=>Ju (.v (.agg m))
    |none=>none
   |none=>none
  |some (.blk _ _),some (.arrG ..)|some (.rblk _ _),some (.arrG ..)=>none
  |some (.blk _ ls),some _|some (.rblk _ ls),some _=>
   match Xy ls off with
   |some (.arr ..)=>none
   |some x=>Ju (.v (.one x))
   |none=>none
  |_,_=>none
 | .v (.one (.pe κ base n i))=>
  match hp κ,T t with
  |some (.blk _ ls),some (.int k)|some (.rblk _ ls),some (.int k)=>
   match Xy ls base with
   |some (.arr k' n' l)=>bif keq k k'&&Nat.beq n n' then Ju (Yn k (l.getD i.toNat 0)) else none
   |_=>none
  |_,_=>none
 | .v (.one (.per κ sz i off))=>
  match hp κ,T t,hint with
  |some (.rd k l),some (.int k'),_|some (.rdx k l),some (.int k'),_|some (.own _ k l),some (.int k'),_=>
   bif keq k k'&&Nat.beq sz 1&&Nat.beq off 0 then Vp (Yn k (l.getD i.toNat 0)) (i<l.length) else none
  |some (.rows (.bs k ll)),some (.slice _ k'),.key κ'|some (.orows _ (.bs k ll)),some (.slice _ k'),.key κ'=>
   bif keq k k'&&Nat.beq sz 1&&Nat.beq off 0 then some ⟨some (.v (.one (.slc κ'))),[(κ',.rd k (ll.getD i.toNat []))],[i<ll.length]⟩ else none
  |some (.rows (.rc ll)),some (.slice _ k'),.key κ'|some (.orows _ (.rc ll)),some (.slice _ k'),.key κ'=>
   bif keq .u8 k'&&Nat.beq sz 2&&Nat.beq off 1 then some ⟨some (.v (.one (.slc κ'))),[(κ',.rd .u8 (ll.getD i.toNat (0,[])).2)],[i<ll.length]⟩ else none
  |some (.rows (.rc ll)),some (.int k'),_|some (.orows _ (.rc ll)),some (.int k'),_=>
   bif keq .i64 k'&&Nat.beq sz 2&&Nat.beq off 0 then Vp (Yn .i64 (ll.getD i.toNat (0,[])).1) (i<ll.length) else none
  | some (.rows (.rc ll)),some (.struct n _ _),.key κ'|some (.orows _ (.rc ll)),some (.struct n _ _),.key κ'=>
   bif Nat.beq n 2&&Nat.beq sz 2&&Nat.beq off 0 then
    some ⟨some (.v (.agg [.int .i64 (ll.getD i.toNat (0,[])).1,.slc κ'])),[(κ',.rd .u8 (ll.getD i.toNat (0,[])).2)],[i<ll.length]⟩ else none
  |_,_,_=>none
 |_=>none
def JcO (T:TypeId→Option TD) (hp:Nat→Option Ent) (t:TypeId):SV→SV→Option Eff
 | .v (.one (.ptr κ off)),.v (.agg m)=>
  match hp κ,T t with
  | some (.blk ty ls),some (.arr n _ _)|some (.blk ty ls),some (.struct n _ _)=>
   match YU ls off with
   |some (pre,r)=>match YU r n,YU m n with
    |some (_,post),some (_,[])=>some ⟨none,[(κ,.blk ty (pre++(m++post)))],[]⟩
    |_,_=>none
   |none=>none
  |_,_=>none
 | .v (.one (.ptr κ off)),.v (.one y)=>
  match hp κ,T t with
  |some (.blk _ _),some (.arr ..)|some (.blk _ _),some (.struct ..)|some (.blk _ _),some (.arrG ..)=>none
  |some (.blk ty ls),some _=>
   match Xy ls off,y with
   |some (.arr ..),_=>none
   |some _,.arr ..=>none
   |some _,y=>some ⟨none,[(κ,.blk ty (Yw ls off y))],[]⟩
   |none,_=>none
  |_,_=>none
 | .v (.one (.pe κ base n i)),.v (.one (.int k v))=>
  match hp κ,T t with
  |some (.blk ty ls),some (.int k2)=>
   match Xy ls base with
   |some (.arr k' n' l)=>bif keq k k'&&Nat.beq n n'&&keq k k2 then some ⟨none,[(κ,.blk ty (Yw ls base (.arr k n (l.set i.toNat v))))],[]⟩ else none
   |_=>none
  |_,_=>none
 | .v (.one (.per κ sz i off)),.v (.one (.int k v))=>
  match hp κ,T t with
  |some (.own e k' l),some (.int k2)=>
   bif keq k k'&&keq k k2&&Nat.beq sz 1&&Nat.beq off 0 then some ⟨none,[(κ,.own e k (l.set i.toNat v))],[i<l.length]⟩ else none
  |_,_=>none
 |_,_=>none
def JiX (k:IntKind) (ρ:Operand→Option SV) (hp:Nat→Option Ent) (x:Operand):Option (List Int):=
 match ρ x with
 |some (.v (.one .nils))=>some []
 |some (.v (.one (.slc κ)))=>match hp κ with
  |some (.rd k' l)|some (.rdx k' l)|some (.own _ k' l)=>bif keq k k' then some l else none
  |_=>none
 |_=>none
def JbG (ρ:Operand→Option SV) (hp:Nat→Option Ent):List (Nat×Operand)→List (Nat×Ent)
 |[]=>[]
 | (_,x)::r=>match ρ x with
  |some (.v (.one (.slc κ)))=>match hp κ with
   |some (.own _ k l)=>(κ,.rd k l)::JbG ρ hp r
   |_=>JbG ρ hp r
  |_=>JbG ρ hp r
def QX (k:IntKind) (ρ:Operand→Option SV) (hp:Nat→Option Ent):Nat→List (Nat×Operand)→Option (List (List Int))
 |_,[]=>some []
 |i,(j,x)::r=>bif Nat.beq i j then(JiX k ρ hp x).bind fun l=>(QX k ρ hp (i+1) r).bind fun ls=>some (l::ls) else none
def JaT (k:IntKind):List (Nat×Operand)→(Operand→Option SV)→List Int→Option (List Int)
 |[],_,acc=>some acc
 |(i,x)::r,ρ,acc=>match ρ x with
  |some (.v (.one (.int k' n)))=>bif keq k k' then JaT k r ρ (acc.set i n) else none
  |_=>none
def Jbv:List (Nat×Operand)→(Operand→Option SV)→List (Nat×Nat)→List Leaf→Option (List Leaf)
 |[],_,_,acc=>some acc
 | (i,x)::r,ρ,offs,acc=>match offs[i]?,ρ x with
  |some (off,sz),some (.v (.one y))=>match Xy acc off,y with
   |some (.arr ..),_=>none
   |some _,.arr ..=>none
   |some _,y=>bif Nat.beq sz 1 then Jbv r ρ offs (Yw acc off y) else none
   |none,_=>none
  | some (off,sz),some (.v (.agg m))=>match YU acc off with
   |some (pre,r')=>match YU r' sz,YU m sz with
    |some (_,post),some (_,[])=>Jbv r ρ offs (pre++(m++post))
    |_,_=>none
   |none=>none
  |_,_=>none
def V1.keys:V1→List Nat
 | .one x=>lk x
 | .agg l=>l.flatMap lk
where lk:Leaf→List Nat
 | .ptr κ _| .pe κ _ _ _| .per κ _ _ _| .slc κ| .view κ _ _ _ _| .clo _ κ=>[κ]
 |_=>[]
def SV.keys:SV→List Nat
 | .v x=>x.keys
 | .tup l=>l.flatMap V1.keys
def bk (γ:Nat→Value) (κ:Nat):Nat:=
 match γ κ with
 | .pointer (some a)=>a.block
 | .slice (some a) _ _=>a.block
 |_=>0
def JM (v:Value) (i:Nat):Value:=
 match v with
 | .slice (some a) _ _=> .pointer (some (a.add i))
 | .pointer (some a)=> .pointer (some (a.add i))
 |_=> .pointer none
def Leaf.cells (γ:Nat→Value):Leaf→List Value
 | .int k n=>[.int k n]
 | .bool b=>[.bool b]
 | .str s=>[.string s]
 | .arr k _ l=>l.map (.int k)
 | .ptr κ off=>[.pointer (some ⟨bk γ κ,off,none⟩)]
 | .pe κ base _ i=>[.pointer (some ⟨bk γ κ,base+i.toNat,none⟩)]
 | .per κ sz i off=>[JM (γ κ) (i.toNat*sz+off)]
 | .slc κ=>[γ κ]
 | .view κ base n lo hi=>[.slice (some ⟨bk γ κ,if n=lo.toNat then base else base+lo.toNat,none⟩) (hi.toNat-lo.toNat) (n-lo.toNat)]
 | .fn f=>[.func (.func f) #[] #[]]
 | .nilp=>[.pointer none]
 | .nils=>[.slice none 0 0]
 | .nilm=>[.map none]
 | .nili=>[.nilIface]
 | .ifi t k n=>[.iface t (.int k n)]
 | .clo f κ=>[.func (.func f) #[] #[.pointer (some ⟨bk γ κ,0,none⟩)]]
def Jq (γ:Nat→Value) (l:List Leaf):List Value:=l.flatMap (Leaf.cells γ)
def V1.den (γ:Nat→Value):V1→Value
 | .one x=>(x.cells γ).headD undef
 | .agg l=> .agg (Jq γ l).toArray
def SV.den (γ:Nat→Value):SV→Value
 | .v x=>x.den γ
 | .tup l=> .tuple (l.map (V1.den γ)).toArray
def Leaf.ok:Leaf→Prop
 | .arr _ n l=>l.length=n
 | .pe _ _ n i=>0≤i∧i<n
 | .per _ _ i _=>0≤i
 | .view _ _ n lo hi=>0≤lo∧lo≤hi∧hi≤n∧n≤maxLen
 |_=>True
def Leaf.lone:Leaf→Prop
 | .arr ..=>False
 |_=>True
def V1.ok:V1→Prop
 | .one x=>x.ok∧x.lone
 | .agg l=>∀x∈l,x.ok
def SV.ok:SV→Prop
 | .v x=>x.ok
 | .tup l=>∀x∈l,x.ok
def RdI (w:World) (v:Value) (k:IntKind) (l:List Int):Prop:=
 ((∃o,v= .slice o 0 0)∧l=[])∨
 ∃a cap,v= .slice (some a) l.length cap∧l.length≤cap∧cap≤maxLen∧a.block<w.heap.size∧a.spot=none∧∀i,i<l.length→w.cell? (a.add i)=some (.int k (l.getD i 0))
def Jw:Value→Option Nat
 | .pointer (some a)=>some a.block
 | .slice (some a) _ _=>some a.block
 |_=>none
def OwnF (w:World) (e:TypeId) (v:Value) (xs:List Value):Prop:=
 (v= .slice none 0 0∧xs=[])∨∃g off cap cur,v= .slice (some ⟨g,off,none⟩) xs.length cap∧w.heap[g]? =some (.cells cur e (0,0))∧xs.length≤cap∧cap≤maxLen∧off+cap≤cur.size∧(cur.toList.drop off).take xs.length=xs
def Jly:Value→Option Nat
 | .iface _ (.pointer (some a))=>some a.block
 |_=>none
def ErrAt (B:Nat→Prop) (w:World) (v:Value) (tp ts te:TypeId) (n:Int):Prop:=
 (n=0∧v= .nilIface)∨(n≠0∧∃b s f,v= .iface tp (.pointer (some ⟨b,0,none⟩))∧B b∧w.heap[b]? =some (.cells #[.string s,.int .i64 f,.iface te (.int .i64 n)] ts (0,0)))
def YP:Value→Option Nat
 | .pointer (some a)=>some a.block
 | .slice (some a) _ (_+1)=>some a.block
 |_=>none
def RdB (w:World) (v:Value) (l:List Bool):Prop:=
 ((∃o,v= .slice o 0 0)∧l=[])∨
 ∃a cap,v= .slice (some a) l.length cap∧l.length≤cap∧cap≤maxLen∧a.block<w.heap.size∧a.spot=none∧∀i,i<l.length→w.cell? (a.add i)=some (.bool (l.getD i false))
def DL.at (w:World) (u:Value):DL→Prop
 | .int k n=>u= .int k n
 | .bytes k l=>RdI w u k l
 | .bool b=>u= .bool b
 | .bools l=>RdB w u l
 | .str s=>u= .string s
def RdR (w:World) (v:Value) (r:RowsK):Prop:=
 (v= .slice none 0 0∧r.len=0)∨
 ∃a cap,v= .slice (some a) r.len cap∧r.len≤cap∧cap≤maxLen∧a.block<w.heap.size∧a.spot=none∧
  ∀j d,r.cells[j]? =some d→∃u,w.cell? (a.add j)=some u∧u.oneCell'=true∧d.at w u
def Inner (w:World) (v:Value) (n:Nat) (b:Nat):Prop:=∃a len cap j u,v= .slice (some a) len cap∧j<n∧w.cell? (a.add j)=some u∧YP u=some b
def DL.own (w:World) (eb:TypeId) (u:Value):DL→Prop
 | .int k n=>u= .int k n
 | .bytes k l=>w.ownsRow 0 eb 1 u l.length (l.map (.int k))
 | .bool b=>u= .bool b
 | .bools l=>w.ownsRow 0 eb 1 u l.length (l.map .bool)
 | .str s=>u= .string s
def InO (w:World) (e:TypeId) (sz:Nat) (v:Value) (n f:Nat) (b:Nat):Prop:=∃xs j u,w.ownsRow 0 e sz v n xs∧f≤j∧xs[j]? =some u∧Jw u=some b
def FR (B:Nat→Prop) (w:World) (v:Value) (e eb:TypeId) (m:Nat) (r:RowsK):Prop:=
 ∃xs,w.ownsRow 0 e r.sz v r.len xs∧(∀u∈xs,u.oneCell'=true)∧(∀b,Jw v=some b→B b)∧
  (∀j d,m*r.sz≤j→r.cells[j]? =some d→∃u,xs[j]? =some u∧d.own w eb u)∧
  (∀j u b,m*r.sz≤j→xs[j]? =some u→Jw u=some b→B b∧Jw v≠some b)∧
  ∀j j' u u' b,m*r.sz≤j→m*r.sz≤j'→j≠j'→xs[j]? =some u→xs[j']? =some u'→Jw u=some b→Jw u'≠some b
def skV (s:List Value):Value:= .func (.func 0) #[] s.toArray
def Qg:Value→List Value
 | .func _ _ c=>c.toList
 |_=>[]
def YG (v:Value) (i:Nat):Value:=(Qg v).getD i undef
def JcD (v:Value) (sz lo n:Nat):Value:=
 match v with
 | .slice (some a) _ cap=> .slice (some (if cap=lo then a else a.add (lo*sz))) n (cap-lo)
 |_=> .slice none 0 0
def MV.den (s:Value):MV→Value
 | .int k n=> .int k n
 | .bool b=> .bool b
 | .nilp=> .pointer none
 | .ptr i off=>JM (YG s i) off
 | .nils=> .slice none 0 0
 | .slc i sz lo n=>JcD (YG s i) sz lo n
 | .nilm=> .map none
 | .map i=>match YG s i with| .map r=> .map r|_=> .map none
def MO.at (w:World) (s v:Value):MO→Prop
 | .cells ty l=>∃b,v= .pointer (some ⟨b,0,none⟩)∧w.heap[b]? =some (.cells (l.map (MV.den s)).toArray ty (0,0))
 | .row e sz l=>∃n,l.length=n*sz∧1≤sz∧((v= .slice none 0 0∧n=0)∨
   ∃b off cap c,v= .slice (some ⟨b,off,none⟩) n cap∧w.heap[b]? =some (.cells c e (0,0))∧n≤cap∧cap≤maxLen∧c.size=off+cap*sz∧(c.toList.drop off).take (n*sz)=l.map (MV.den s)∧off=0)
 | .map l=>∃b es clock,v= .map (some b)∧w.heap[b]? =some (.map es clock)∧es.toList.map (fun e=>(e.key,e.val))=l.map (fun p=>(Value.int .i64 p.1,p.2.den s))∧
   (∀e∈es.toList,e.born<clock)∧es.toList.Pairwise (fun x y=>x.born≠y.born)
 | .dead=>True
def QS:Value→Option Nat
 | .pointer (some a)=>some a.block
 | .slice (some a) _ _=>some a.block
 | .map (some b)=>some b
 |_=>none
def Ve (s:Value) (H:AH) (b:Nat):Prop:=∃i,(AH.at H i).live=true∧QS (YG s i)=some b
structure Ar (w:World) (s:Value) (H:AH):Prop where
 enc:∃l,s=skV l
 len:(Qg s).length=H.length
 obj:∀i,i<H.length→(AH.at H i).at w s (YG s i)
 apart:∀i j b,i≠j→(AH.at H i).live=true→(AH.at H j).live=true→QS (YG s i)=some b→QS (YG s j)≠some b
 bd:∀i,(AH.at H i).bd≤H.length
def SkPre (s s':Value):Prop:=(Qg s).length≤(Qg s').length∧∀i,i<(Qg s).length→YG s' i=YG s i
def Ent.at (B:Nat→Prop) (γ:Nat→Value) (w:World) (κ:Nat):Ent→Prop
 | .blk ty l=>∃b,γ κ= .pointer (some ⟨b,0,none⟩)∧B b∧w.heap[b]? =some (.cells (Jq γ l).toArray ty (0,0))∧∀x∈l,x.ok
 | .rblk ty l=>∃b fr,γ κ= .pointer (some ⟨b,0,none⟩)∧w.heap[b]? =some (.cells (Jq γ l).toArray ty fr)∧∀x∈l,x.ok
 | .rd k l=>RdI w (γ κ) k l
 | .rdx k l=>RdI w (γ κ) k l∧γ κ≠ .slice none 0 0
 | .own e k l=>w.ownsRow 0 e 1 (γ κ) l.length (l.map (.int k))∧∀b,Jw (γ κ)=some b→B b
 | .rows r=>RdR w (γ κ) r
 | .orows e r=>RdR w (γ κ) r∧(∃xs,w.ownsRow 0 e r.sz (γ κ) r.len xs∧(∀u∈xs,u.oneCell'=true))∧(∀b,Jw (γ κ)=some b→B b)∧∀b,Inner w (γ κ) (r.len*r.sz) b→B b∧Jw (γ κ)≠some b
 | .prows e r=>RdR w (γ κ) r∧(∃xs,w.ownsRow 0 e r.sz (γ κ) r.len xs∧(∀u∈xs,u.oneCell'=true))∧(∀b,Jw (γ κ)=some b→B b)∧∀b,Inner w (γ κ) (r.len*r.sz) b→Jw (γ κ)≠some b
 | .frows e eb m r=>FR B w (γ κ) e eb m.toNat r
 | .lit e n l=>∃b,γ κ= .slice (some ⟨b,0,none⟩) n n∧B b∧n≤maxLen∧w.heap[b]? =some (.cells (Jq γ l).toArray e (0,0))∧∀x∈l,x.ok
 | .arena rw bs H=>Ar w (γ κ) H∧(rw=true→∀b,Ve (γ κ) H b→B b)∧∀κb∈bs,SkPre (γ κb) (γ κ)
 | .apt κa v=>γ κ=v.den (γ κa)∧v.bd≤(Qg (γ κa)).length
 | .ptn κa v=>γ κ=v.den (γ κa)∧v.bd≤(Qg (γ κa)).length∧∃b o,γ κ= .pointer (some ⟨b,o,none⟩)
 | .wv κa v=>v.bd≤(Qg (γ κa)).length∧((0<v.len∧γ κ=v.den (γ κa))∨(v.len=0∧∃o c,γ κ= .slice o 0 c))
 | .rdb l=>RdB w (γ κ) l
 | .rdbx l=>RdB w (γ κ) l∧γ κ≠ .slice none 0 0
 | .ownb e l=>w.ownsRow 0 e 1 (γ κ) l.length (l.map .bool)∧∀b,Jw (γ κ)=some b→B b
 | .err tp ts te n=>ErrAt B w (γ κ) tp ts te n
 | .ownf e k l=>OwnF w e (γ κ) (l.map (.int k))∧∀b,Jw (γ κ)=some b→B b
 | .owni e sz l=>w.ownsRow 0 e sz (γ κ) (l.length/sz) (l.map (.int .i64))∧∀b,Jw (γ κ)=some b→B b
 | .rdn n=>∃o c,γ κ= .slice o n c
 | .gv b v=>w.cell? ⟨b,0,none⟩=some v
 | .dead=>True
def Ent.mut:Ent→Bool
 | .blk ..| .own ..| .orows ..| .prows ..| .frows ..| .lit ..| .ownb ..| .ownf ..| .owni ..=>true
 | .arena rw _ _=>rw
 |_=>false
def Ent.foot (γ:Nat→Value) (w:World) (κ:Nat):Ent→Nat→Prop
 | .dead,_=>False
 | .rows r,b| .orows _ r,b| .prows _ r,b=>Jw (γ κ)=some b∨Inner w (γ κ) (r.len*r.sz) b
 | .frows e _ m r,b=>Jw (γ κ)=some b∨InO w e r.sz (γ κ) r.len (m.toNat*r.sz) b
 | .rd ..,b| .rdx ..,b| .rdb ..,b| .rdbx ..,b=>YP (γ κ)=some b
 | .arena _ _ H,b=>Ve (γ κ) H b
 | .apt ..,_=>False
 | .wv ..,_=>False
 | .ptn ..,_=>False
 | .err ..,b=>Jly (γ κ)=some b
 | .gv b' _,b=>b'=b
 | .rdn _,_=>False
 |_,b=>Jw (γ κ)=some b
def Ent.reg (γ:Nat→Value) (w:World) (κ:Nat):Ent→Nat→Prop
 | .frows e _ m r,b=>Jw (γ κ)=some b∨InO w e r.sz (γ κ) r.len (m.toNat*r.sz) b
 | .blk ..,b| .own ..,b| .orows ..,b| .prows ..,b| .lit ..,b| .ownb ..,b| .ownf ..,b| .owni ..,b=>Jw (γ κ)=some b
 | .arena true _ H,b=>Ve (γ κ) H b
 |_,_=>False
structure BelowX (B:Nat→Prop) (w w':World):Prop where
 os:w'.os=w.os
 tape:w'.tape=w.tape
 output:w'.output=w.output
 size:w.heap.size≤w'.heap.size
 block:∀k,k<w.heap.size→¬B k→w'.heap[k]? =w.heap[k]?
structure W0 where
 w:World
 F:Nat→Option Value
structure Inv (B:Nat→Prop) (N:Nat) (w0:W0) (γ:Nat→Value) (σ:Loc→Option Cont) (a:Act) (w:World):Prop where
 size:a.tmps.size=N
 defers:a.defers=[]
 slot:∀t x,σ (.s t)=some (.v x)→a.tmps.getD t undef=x.den γ∧x.ok
 ent:∀κ e,σ (.h κ)=some (.e e)→e.at B γ w κ
 apart:∀κ e κ' e',σ (.h κ)=some (.e e)→σ (.h κ')=some (.e e')→κ≠κ'→e.mut=true→∀b,e.reg γ w κ b→¬e'.foot γ w κ' b
 below:BelowX B w0.w w
 top:∀b,w0.w.heap.size≤b→B b
 cell1:∀κ,(γ κ).oneCell'=true
 fixed:∀κ v,w0.F κ=some v→γ κ=v∧9000≤κ
def RunOk (P:Program) (s:Sem Next) (w:World) (post:Value→World→Prop):Prop:=
 match s.run P w with
 | .ok (.value v) w'=>post v w'
 | .ok .skip w'=>post undef w'
 | .ok (.enter f args) w'=>Calls P f args w' fun e w''=>∃v,e= .returned v∧post v w''
 |_=>False
def Touch (γ:Nat→Value) (w:World) (pre news:List (Nat×Ent)) (b:Nat):Prop:=
 w.heap.size≤b∨∃p∈pre,p.2.mut=true∧(∃q∈news,q.1=p.1)∧p.2.reg γ w p.1 b
def YQ (γ:Nat→Value) (w:World) (l:List (Nat×Ent)):Prop:=
 ∀p∈l,∀q∈l,p.1≠q.1→p.2.mut=true→∀b,p.2.reg γ w p.1 b→¬q.2.foot γ w q.1 b
def CallOk (P:Program) (f:Nat) (args:List SV) (pre:List (Nat×Ent)) (res:SV) (news:List (Nat×Ent)):Prop:=
 ∀ (B:Nat→Prop) (γ:Nat→Value) (w:World),(∀p∈pre,p.2.at B γ w p.1)→YQ γ w pre→(∀x∈args,x.ok)→(∀b,w.heap.size≤b→B b)→(∀κ,(γ κ).oneCell'=true)→
  RunOk P (callFunc f (args.map (SV.den γ)).toArray) w fun v w'=>
   ∃γ':Nat→Value,(∀κ,(∀p∈news,p.1=κ→∃q∈pre,q.1=κ)→γ' κ=γ κ)∧(∀κ,(γ' κ).oneCell'=true)∧v=res.den γ'∧res.ok∧BelowX (Touch γ w pre news) w w'∧
    (∀p∈news,p.2.at (Touch γ w pre news) γ' w' p.1∧∀b,p.2.foot γ' w' p.1 b→Touch γ w pre news b)∧YQ γ' w' news
def WD (x:Option SV) (d:Int):Option Int:=
 match x with
 |none=>some d
 |some (.v (.one (.int _ n)))=>some n
 |_=>none
def Jbm (σ:Stt):Option Operand→Option (Option SV)
 |none=>some none
 |some x=>(Jg σ x).map some
def JdO (σ:Stt):List Operand→Option (List SV)
 |[]=>some []
 |x::r=>match Jg σ x,JdO σ r with
  |some v,some l=>some (v::l)
  |_,_=>none
def YY (σ:Stt):List Nat→List (Nat×Ent)
 |[]=>[]
 |κ::r=>match Jh σ κ with
  |some e=>(κ,e)::YY σ r
  |none=>YY σ r
def Jbk (σ:Stt) (ks:List Nat):List (Nat×Ent)→Bool
 |[]=>true
 |p::r=>(bif ks.any (Nat.beq p.1) then match Jh σ p.1 with|some e=>e.mut|none=>false else true)&&Jbk σ ks r
def JkQ (P:Program) (σ:Stt) (f:Nat) (args:List Operand) (ks:List Nat) (res:SV) (news:List (Nat×Ent)):Option Eff:=
 match JdO σ args with
 |some l=>bif Jbk σ ks news then some ⟨some res,news,[CallOk P f l (YY σ ks) res news]⟩ else none
 |none=>none
def Qi:Nat:=17592186044416
def YJ:Nat:=1099511627776
def Jel (σ:Stt) (hint:Hint) (κ:Nat) (lo:Option SV) (hi:Option SV):Option Eff:=
 match Jh σ κ,hint with
 |some (.rd k l),.key κ'|some (.rdx k l),.key κ'=>match WD lo 0,WD hi l.length with
  |some a,some b=>some ⟨some (.v (.one (.slc κ'))),[(κ',.rd k ((l.take b.toNat).drop a.toNat))],[0≤a∧a≤b∧b≤l.length]⟩
  |_,_=>none
 |some (.own e k l),.key κ'=>match lo,WD hi l.length with
  |none,some b=>some ⟨some (.v (.one (.slc κ'))),[(κ',.own e k (l.take b.toNat)),(κ,.dead)],[0≤b∧b≤l.length]⟩
  |_,_=>none
 |_,_=>none
def Jcg (σ:Stt) (hint:Hint) (κ sz:Nat) (lo:Option SV) (hi:Option SV):Option Eff:=
 match Jh σ κ,hint with
 |some (.rows (.rc ll)),.key κ'=>match lo,WD hi ll.length with
  |none,some b=>some ⟨some (.v (.one (.slc κ'))),[(κ',.rows (.rc (ll.take b.toNat)))],[0≤b∧b≤ll.length]⟩
  |some (.v (.one (.int _ a))),some b=>bif Nat.beq sz 2 then some ⟨some (.v (.one (.slc κ'))),[(κ',.rows (.rc ((ll.take b.toNat).drop a.toNat)))],[0≤a∧a≤b∧b≤ll.length]⟩ else none
  |_,_=>none
 |_,_=>none
def JbW (σ:Stt):SV→Option (IntKind×List Int)
 | .v (.one (.slc κ))=>match Jh σ κ with
  |some (.rd k l)|some (.rdx k l)|some (.own _ k l)=>some (k,l)
  |_=>none
 |_=>none
def Ja5 (T:TypeId→Option TD) (σ:Stt) (hint:Hint) (t:TypeId) (x y:SV):Option Eff:=
 match T t,hint with
 | some (.slice e k),.key κ'=>
  match x,y with
  | .v (.one (.slc κ)),.v (.one .nils)=>match Jh σ κ with
   |some (.own e' k' l)=>bif keq k k'&&Nat.beq e e' then some ⟨some (.v (.one (.slc κ'))),[(κ',.own e k l),(κ,.dead)],[]⟩ else none
   |_=>none
  | .v (.one .nils),.v (.one .nils)=>some ⟨some (.v (.one (.slc κ'))),[(κ',.own e k [])],[]⟩
  | .v (.one (.slc κ)),y=>match Jh σ κ,JbW σ y with
   |some (.own e' k' l),some (k2,l2)=>bif keq k k'&&Nat.beq e e'&&keq k k2 then some ⟨some (.v (.one (.slc κ'))),[(κ',.own e k (l++l2)),(κ,.dead)],[(l++l2).length≤Qi]⟩ else none
   |_,_=>none
  | .v (.one .nils),y=>match JbW σ y with
   |some (k2,l2)=>bif keq k k2 then some ⟨some (.v (.one (.slc κ'))),[(κ',.own e k l2)],[l2.length≤Qi]⟩ else none
   |_=>none
  |_,_=>none
 |_,_=>none
def RowsK.app:RowsK→RowsK→Option RowsK
 | .bs k ll,.bs k' ll'=>bif keq k k' then some (.bs k (ll++ll')) else none
 | .rc ll,.rc ll'=>some (.rc (ll++ll'))
 | .gn s ll,.gn s' ll'=>bif Nat.beq s s' then some (.gn s (ll++ll')) else none
 |_,_=>none
def QJ (T:TypeId→Option TD) (σ:Stt) (hint:Hint) (t:TypeId) (x y:SV):Option Eff:=
 match T t,hint,y with
 | some (.sliceR e sz),.key κ',.v (.one (.slc κ2))=>match Jh σ κ2 with
  | some (.orows _ r2)=>bif Nat.beq r2.sz sz then match x with
    | .v (.one (.slc κ))=>match Jh σ κ with
     |some (.orows e1 r1)=>match r1.app r2 with
      |some r=>bif Nat.beq e e1&& !(Nat.beq κ κ2) then some ⟨some (.v (.one (.slc κ'))),[(κ',.orows e r),(κ,.dead)],[r.len≤YJ]⟩ else none
      |none=>none
     |_=>none
    | .v (.one .nils)=>some ⟨some (.v (.one (.slc κ'))),[(κ',.orows e r2)],[r2.len≤YJ]⟩
    |_=>none
   else none
  | some (.rows r2)=>bif Nat.beq r2.sz sz then match x with
    | .v (.one (.slc κ))=>match Jh σ κ with
     |some (.prows e1 r1)=>match r1.app r2 with
      |some r=>bif Nat.beq e e1 then some ⟨some (.v (.one (.slc κ'))),[(κ',.prows e r),(κ,.dead)],[r.len≤YJ]⟩ else none
      |none=>none
     |_=>none
    | .v (.one .nils)=>some ⟨some (.v (.one (.slc κ'))),[(κ',.prows e r2)],[r2.len≤YJ]⟩
    |_=>none
   else none
  |_=>none
 |_,_,_=>none
def Ji9 (T:TypeId→Option TD) (σ:Stt) (e:TypeId) (sz n:Nat):List (Nat×Operand)→Option (Bool×RowsK×List (Nat×Ent))
 | [(0,x)]=>bif Nat.beq n 1 then match T e,Jg σ x with
   |some (.slice _ k),some (.v (.one (.slc κ)))=>match Jh σ κ with
    |some (.own _ k' l)=>bif keq k k'&&Nat.beq sz 1 then some (true,.bs k [l],[(κ,.rd k l)]) else none
    |_=>none
   |some (.struct _ _ _),some (.v (.agg [.int .i64 m,.slc κ]))=>match Jh σ κ with
    |some (.own _ .u8 l)=>bif Nat.beq sz 2 then some (true,.rc [(m,l)],[(κ,.rd .u8 l)]) else none
    |some (.rd .u8 l)|some (.rdx .u8 l)=>bif Nat.beq sz 2 then some (false,.rc [(m,l)],[]) else none
    |_=>none
   |some (.struct _ _ _),some (.v (.agg [.int .i64 m,.nils]))=>bif Nat.beq sz 2 then some (true,.rc [(m,[])],[]) else none
   |_,_=>none
  else none
 |_=>none
def Jlr (σ:Stt) (sz n:Nat):List (Nat×Operand)→Option (List Leaf)
 | [(0,x)]=>bif Nat.beq n 1 then match Jg σ x with
   |some (.v (.agg ls))=>bif Nat.beq ls.length sz&&ls.all (fun y=>Nat.beq y.size 1) then some ls else none
   |_=>none
  else none
 | [(0,x),(1,y)]=>bif Nat.beq n 2&&Nat.beq sz 1 then match Jg σ x,Jg σ y with
   |some (.v (.one (.slc κ1))),some (.v (.one (.slc κ2)))=>some [.slc κ1,.slc κ2]
   |_,_=>none
  else none
 |_=>none
def JiW (σ:Stt):SV→Option Int
 | .v (.one (.slc κ))=>match Jh σ κ with
  |some (.rd _ l)|some (.rdx _ l)|some (.own _ _ l)=>some l.length
  |some (.rows r)|some (.orows _ r)|some (.prows _ r)|some (.frows _ _ _ r)=>some r.len
  |some (.lit _ n _)=>some n
  |_=>none
 | .v (.one .nils)=>some 0
 |_=>none
def JgR (P:Program) (T:TypeId→Option TD) (σ:Stt) (hint:Hint) (op:Op):Option Eff:=
 match op with
 | .move x| .assign x=>JiZ hint ((Jg σ x).bind Ju)
 | .pick c a b=>match Jg σ c with
  |some (.v (.one (.bool true)))=>JiZ hint ((Jg σ a).bind Ju)
  |some (.v (.one (.bool false)))=>JiZ hint ((Jg σ b).bind Ju)
  |_=>none
 | .extract t i=>match Jg σ t with
  |some (.tup l)=>JiZ hint ((l[i]?).bind fun x=>Ju (.v x))
  |_=>none
 | .nilCheck x=>match Jg σ x with
  |some (.v (.one (.ptr κ off)))=>Ju (.v (.one (.ptr κ off)))
  |_=>none
 | .convert src dst x=>match T src,T dst,Jg σ x with
  |some (.int _),some (.int k),some (.v (.one (.int _ n)))=>Ju (Yn k (k.wrap n))
  |some .str,some (.slice _ .u8),some (.v (.one (.str s)))=>match hint with
   | .key κ'=>some ⟨some (.v (.one (.slc κ'))),[(κ',.rd .u8 (s.data.toList.map fun b=>(b.toNat:Int)))],[s.size≤Qi]⟩
   |_=>none
  | some (.slice _ .u8),some (.slice _ .u8),some (.v (.one (.slc κ)))=>bif Nat.beq src dst then match Jh σ κ,hint with
    |some (.own _ .u8 l),.key κ'=>some ⟨some (.v (.one (.slc κ'))),[(κ',.rd .u8 l),(κ,.dead)],[0<l.length]⟩
    |_,_=>none
   else none
  |some (.slice _ .u8),some .str,some v=>match JbW σ v with
   |some (.u8,l)=>Ju (.v (.one (.str (strOfNums l))))
   |_=>none
  |_,_,_=>none
 | .binOp op t x y _=>match Jg σ x,Jg σ y with
  |some (.v (.one (.ptr _ _))),some (.v (.one .nilp))=>match T t,op with
   |some .ptr,.eql=>Ju (Wg false)
   |some .ptr,.neq=>Ju (Wg true)
   |_,_=>none
  |some (.v (.one (.slc κ))),some (.v (.one .nils))=>match T t,op,Jh σ κ with
   |some (.slice _ _),.eql,some (.rdx _ _)=>Ju (Wg false)
   |some (.slice _ _),.neq,some (.rdx _ _)=>Ju (Wg true)
   |_,_,_=>none
  |some (.v (.one .nils)),some (.v (.one .nils))=>match T t,op with
   |some (.slice _ _),.eql=>Ju (Wg true)
   |some (.slice _ _),.neq=>Ju (Wg false)
   |_,_=>none
  |some u,some v=>JiZ hint (Jnf T op t u v)
  |_,_=>none
 | .unOp op _ x=>(Jg σ x).bind fun u=>JiZ hint (unS op u)
 | .index t x i=>match T t,Jg σ x,Jg σ i with
  |some (.arr n _ k),some (.v (.agg [.arr k' n' l])),some (.v (.one (.int _ j)))=>
   bif keq k k'&&Nat.beq n n' then Vp (Yn k (l.getD j.toNat 0)) (0≤j∧j<n) else none
  |_,_,_=>none
 | .alloc t=>match hint,T t with
  | .key κ,some (.int k)=>some ⟨some (.v (.one (.ptr κ 0))),[(κ,.blk t [.int k 0])],[]⟩
  | .key κ,some .bool=>some ⟨some (.v (.one (.ptr κ 0))),[(κ,.blk t [.bool false])],[]⟩
  | .key κ,some (.arr n _ k)=>some ⟨some (.v (.one (.ptr κ 0))),[(κ,.blk t [.arr k n (List.replicate n 0)])],[]⟩
  | .key κ,some (.struct _ _ z)=>some ⟨some (.v (.one (.ptr κ 0))),[(κ,.blk t z)],[]⟩
  | .key κ,some (.slice _ _)=>some ⟨some (.v (.one (.ptr κ 0))),[(κ,.blk t [.nils])],[]⟩
  |_,_=>none
 | .box t x=>match hint,Jg σ x with
  | .key κ,some (.v (.agg l))=>some ⟨some (.v (.one (.ptr κ 0))),[(κ,.blk t l)],[]⟩
  | .key κ,some (.v (.one y))=>some ⟨some (.v (.one (.ptr κ 0))),[(κ,.blk t [y])],[]⟩
  |_,_=>none
 | .build t ps=>match T t with
  |some (.arr n _ k)=>bif ps.toList.all fun p=>decide (p.1<n) then(JaT k ps.toList (Jg σ) (List.replicate n 0)).bind fun l=>Ju (.v (.agg [.arr k n l])) else none
  |some (.struct _ offs z)=>(Jbv ps.toList (Jg σ) offs z).bind fun l=>Ju (.v (.agg l))
  |_=>none
 | .buildSlice t n ps=>match T t,hint with
  | some (.slice e k),.key κ'=>bif Nat.ble n 16777216&&ps.toList.all fun p=>decide (p.1<n) then
    match JaT k ps.toList (Jg σ) (List.replicate n 0) with
    |some l=>some ⟨some (.v (.one (.slc κ'))),[(κ',.own e k l)],[]⟩
    |none=>none
   else none
  |some (.sliceR e sz),.lk κ'=>match Jlr σ sz n ps.toList with
   |some ls=>some ⟨some (.v (.one (.slc κ'))),[(κ',.lit e n ls)],[]⟩
   |none=>none
  | some (.sliceR e sz),.key κ'=>match Ji9 T σ e sz n ps.toList with
   |some (o,r,fr)=>some ⟨some (.v (.one (.slc κ'))),(κ',bif o then .orows e r else .rows r)::fr,[]⟩
   |none=>match T e with
   | some (.slice _ k)=>bif Nat.beq sz 1&&Nat.ble n 16777216&&Nat.beq ps.toList.length n then
     match QX k (Jg σ) (Jh σ) 0 ps.toList with
     |some ll=>some ⟨some (.v (.one (.slc κ'))),(κ',.rows (.bs k ll))::JbG (Jg σ) (Jh σ) ps.toList,[]⟩
     |none=>none
    else none
   |_=>none
  |_,_=>none
 | .makeSlice t x y=>match T t,Jg σ x,Jg σ y,hint with
  |some (.slice e k),some (.v (.one (.int _ n))),some (.v (.one (.int _ m))),.key κ'=>
   some ⟨some (.v (.one (.slc κ'))),[(κ',.own e k (List.replicate n.toNat 0))],[n=m,0≤n∧n≤Qi]⟩
  |_,_,_,_=>none
 | .load t x=>(Jg σ x).bind fun u=>JiZ hint (JgS T (Jh σ) hint t u)
 | .store t x y=>match Jg σ x,Jg σ y with
  |some u,some v=>JcO T (Jh σ) t u v
  |_,_=>none
 | .fieldAddr t x f=>match T t,Jg σ x with
  |some (.struct _ offs _),some (.v (.one (.ptr κ off)))=>(offs[f]?).bind fun o=>bif Nat.ble 1 o.2 then Ju (.v (.one (.ptr κ (off+o.1)))) else none
  |some (.struct _ offs _),some (.v (.one (.per κ sz i off)))=>match Jh σ κ with
   |some (.rows r)|some (.orows _ r)|some (.frows _ _ _ r)=>(offs[f]?).bind fun o=>bif Nat.ble 1 o.2 then Vp (.v (.one (.per κ sz i (off+o.1)))) (0≤i∧i<r.len) else none
   |_=>none
  |_,_=>none
 | .indexAddr t x i=>match T t,Jg σ x,Jg σ i with
  |some (.arr n _ _),some (.v (.one (.ptr κ off))),some (.v (.one (.int _ j)))=>
   Vp (.v (.one (.pe κ off n j))) (0≤j∧j<n)
  |some (.slice _ _),some (.v (.one (.slc κ))),some (.v (.one (.int _ j)))=>
   match Jh σ κ with
   |some (.rd _ l)|some (.rdx _ l)|some (.own _ _ l)=>Vp (.v (.one (.per κ 1 j 0))) (0≤j∧j<l.length)
   |_=>none
  |some (.sliceR _ sz),some (.v (.one (.slc κ))),some (.v (.one (.int _ j)))=>
   match Jh σ κ with
   |some (.rows r)|some (.orows _ r)|some (.frows _ _ _ r)=>bif Nat.beq sz r.sz then Vp (.v (.one (.per κ sz j 0))) (0≤j∧j<r.len) else none
   |_=>none
  |_,_,_=>none
 | .slice t x lo hi none=>match T t,Jg σ x,Jbm σ lo,Jbm σ hi with
  |some (.arr n _ _),some (.v (.one (.ptr κ off))),some l,some h=>
   match WD l 0,WD h n with
   |some l,some h=>bif Nat.ble n maxLen then Vp (.v (.one (.view κ off n l h))) (0≤l∧l≤h∧h≤n) else none
   |_,_=>none
  |some (.slice _ _),some (.v (.one (.slc κ))),some l,some h=>Jel σ hint κ l h
  |some (.sliceR _ sz),some (.v (.one (.slc κ))),some l,some h=>Jcg σ hint κ sz l h
  |some (.slice _ _),some (.v (.one .nils)),some l,some h=>match WD l 0,WD h 0 with
   |some a,some b=>Vp (.v (.one .nils)) (a=0∧b=0)
   |_,_=>none
  |_,_,_,_=>none
 | .call ⟨.builtin .len,args,ts⟩=>match (ts[0]?).bind T,(args[0]?).bind (Jg σ) with
  |some (.arr n _ _),some _=>Ju (Yn .i64 n)
  |some (.slice _ _),some x|some (.sliceR _ _),some x=>(JiW σ x).bind fun n=>Ju (Yn .i64 n)
  |_,_=>none
 | .call ⟨.builtin .cap,args,ts⟩=>match (ts[0]?).bind T,(args[0]?).bind (Jg σ) with
  |some (.slice _ _),some (.v (.one .nils))=>Ju (Yn .i64 0)
  |_,_=>none
 | .call ⟨.builtin .max,args,_⟩=>match (args[0]?).bind (Jg σ),(args[1]?).bind (Jg σ) with
  |some (.v (.one (.int k x))),some (.v (.one (.int k' y)))=>bif keq k k'&&Nat.beq args.size 2 then Ju (Yn k (if y>x then y else x)) else none
  |_,_=>none
 | .call ⟨.builtin .min,args,_⟩=>match (args[0]?).bind (Jg σ),(args[1]?).bind (Jg σ) with
  |some (.v (.one (.int k x))),some (.v (.one (.int k' y)))=>bif keq k k'&&Nat.beq args.size 2 then Ju (Yn k (if y<x then y else x)) else none
  |_,_=>none
 | .call ⟨.builtin .append,args,ts⟩=>match args.toList,ts.toList with
  | [x,y],[t,t']=>bif Nat.beq t t' then match Jg σ x,Jg σ y with
    |some u,some v=>match T t with
     |some (.sliceR _ _)=>QJ T σ hint t u v
     |_=>Ja5 T σ hint t u v
    |_,_=>none
   else match T t,T t',Jg σ x,Jg σ y,hint with
    |some (.slice e k),some (.int _),some (.v (.one .nils)),some (.v (.one (.int _ n))),.key κ'=>some ⟨some (.v (.one (.slc κ'))),[(κ',.own e k (List.replicate n.toNat 0))],[0<n∧n≤Qi]⟩
    |some (.slice e k),some (.int _),some (.v (.one (.slc κ))),some (.v (.one (.int _ n))),.key κ'=>match Jh σ κ with
     |some (.own e' k' l)=>bif keq k k'&&Nat.beq e e' then some ⟨some (.v (.one (.slc κ'))),[(κ',.own e k (l++List.replicate n.toNat 0)),(κ,.dead)],[0≤n∧l.length+n≤Qi]⟩ else none
     |_=>none
    |_,_,_,_,_=>none
  |_,_=>none
 | .call ⟨.value c,args,_⟩=>match hint,Jg σ c with
  | .call ks res news,some (.v (.one (.fn f)))=>JkQ P σ f args.toList ks res news
  |_,_=>none
 |_=>none
def Xp (σ:Stt) (κ:Nat) (bs:List Nat) (κ':Nat):Option MV:=
 match Jh σ κ' with
 |some (.apt κb v)|some (.ptn κb v)=>bif Nat.beq κb κ||bs.any (Nat.beq κb) then some v else none
 |_=>none
def JiG (σ:Stt) (κ:Nat) (bs:List Nat):SV→Option (MV×Nat×List Prop)
 | .v (.one (.slc κ'))=>(Xp σ κ bs κ').map fun v=>(v,0,[v.isP=true])
 | .v (.one (.per κ' sz i off))=>(Xp σ κ bs κ').map fun v=>(v,i.toNat*sz+off,[])
 |_=>none
def wvS (σ:Stt) (κ:Nat) (bs:List Nat) (κ':Nat):Option MV:=
 match Jh σ κ' with
 |some (.apt κb v)|some (.ptn κb v)|some (.wv κb v)=>bif Nat.beq κb κ||bs.any (Nat.beq κb) then some v else none
 |_=>none
def Jlx (σ:Stt) (κ:Nat) (bs:List Nat):SV→Option MV
 | .v (.one (.slc κ'))=>Xp σ κ bs κ'
 | .v (.one .nils)=>some .nils
 |_=>none
def JaY (σ:Stt):Leaf→Option (Nat×MO×Nat)
 | .slc κ=>match Jh σ κ with
  |some (.own e k l)=>some (κ,.row e 1 (l.map (.int k)),l.length)
  |some (.ownb e l)=>some (κ,.row e 1 (l.map .bool),l.length)
  |_=>none
 |_=>none
def Jag (σ:Stt):List Leaf→Option (Nat×MO×Nat)
 |[]=>none
 |x::r=>match JaY σ x with
  |some y=>some y
  |none=>Jag σ r
def JlK (σ:Stt) (κ:Nat) (bs:List Nat) (o:Option (Nat×MV)):Leaf→Option MV
 | .int k n=>some (.int k n)
 | .bool b=>some (.bool b)
 | .nilp=>some .nilp
 | .nils=>some .nils
 | .nilm=>some .nilm
 | .slc κ'=>match o with
  |some (κ1,v)=>bif Nat.beq κ1 κ' then some v else Xp σ κ bs κ'
  |none=>Xp σ κ bs κ'
 |_=>none
def mvL (σ:Stt) (κ:Nat) (bs:List Nat) (o:Option (Nat×MV)):List Leaf→Option (List MV)
 |[]=>some []
 |x::r=>match JlK σ κ bs o x,mvL σ κ bs o r with
  |some v,some l=>some (v::l)
  |_,_=>none
def mvI:List Leaf→Option (List MV)
 |[]=>some []
 | .int k n::r=>(mvI r).map fun l=> .int k n::l
 | .bool b::r=>(mvI r).map fun l=> .bool b::l
 |_=>none
def mvZ:List Leaf→Option (List MV)
 |[]=>some []
 | .int k n::r=>(mvZ r).map fun l=> .int k n::l
 | .bool b::r=>(mvZ r).map fun l=> .bool b::l
 | .nilp::r=>(mvZ r).map fun l=> .nilp::l
 | .nils::r=>(mvZ r).map fun l=> .nils::l
 | .nilm::r=>(mvZ r).map fun l=> .nilm::l
 |_=>none
def Jcc (σ:Stt) (κ κ':Nat) (bs:List Nat) (H:AH) (ls:List Leaf):Option (List MV×AH×List (Nat×Ent)):=
 match Jag σ ls with
 |some (κ1,o,n)=>(mvL σ κ bs (some (κ1,.slc H.length 1 0 n)) ls).map fun vs=>(vs,H++[o],[(κ1,.apt κ' (.slc H.length 1 0 n))])
 |none=>(mvL σ κ bs none ls).map fun vs=>(vs,H,[])
def QG:SV→Option (List Leaf)
 | .v (.one y)=>some [y]
 | .v (.agg m)=>some m
 |_=>none
def Jlz (σ:Stt) (κ:Nat) (bs:List Nat) (H:AH) (sz:Nat):SV→Option (List MV×Nat×List Prop)
 | .v (.one .nils)=>some ([],0,[])
 | .v (.one (.slc κ'))=>match Jh σ κ' with
  |some (.rd k l)|some (.rdx k l)|some (.own _ k l)=>bif Nat.beq sz 1 then some (l.map (.int k),l.length,[]) else none
  |some (.rdb l)|some (.rdbx l)|some (.ownb _ l)=>bif Nat.beq sz 1 then some (l.map .bool,l.length,[]) else none
  |some (.lit _ n ls)=>match mvI ls with
   |some vs=>bif Nat.beq ls.length (n*sz) then some (vs,n,[]) else none
   |none=>none
  |some (.apt κb v)=>bif Nat.beq κb κ||bs.any (Nat.beq κb) then some (AH.view H v,v.len,[AH.isRow H sz v=true]) else none
  |_=>none
 |_=>none
def Yp:Option TD→Option (TypeId×Nat)
 |some (.slice e _)=>some (e,1)
 |some (.sliceR e sz)=>some (e,sz)
 |_=>none
def JkW:Option TD→Option (List MV)
 |some (.int k)=>some [.int k 0]
 |some .bool=>some [.bool false]
 |_=>none
def JhD:Option TD→Option (Bool×Nat)
 |some (.arr n _ _)=>some (true,n)
 |some (.struct n _ _)=>some (true,n)
 |some (.arrG n _ sz _)=>some (true,n*sz)
 |some _=>some (false,1)
 |none=>none
def Jnn:V1→Bool
 | .one _=>false
 | .agg _=>true
def boolL (σ:Stt):Nat→List (Nat×Operand)→Option (List MV)
 |_,[]=>some []
 | i,(j,x)::r=>bif Nat.beq i j then match Jg σ x,boolL σ (i+1) r with
   |some (.v (.one (.bool b))),some l=>some (.bool b::l)
   |_,_=>none
  else none
def arS (T:TypeId→Option TD) (σ:Stt) (κ:Nat) (ns:List Nat) (rw:Bool) (bs:List Nat) (H:AH) (op:Op):Option Eff:=
 match op with
 | .load t x=>((Jg σ x).bind (JiG σ κ bs)).bind fun p=>match T t,ns with
  |some (.int k),_=>some ⟨some (Yn k (AH.rd H p.1 p.2.1).num),[],[AH.ok H p.1 p.2.1 1=true,(AH.rd H p.1 p.2.1).isI k=true]++p.2.2⟩
  |some .bool,_=>some ⟨some (Wg (AH.rd H p.1 p.2.1).tr),[],[AH.ok H p.1 p.2.1 1=true,(AH.rd H p.1 p.2.1).isB=true]++p.2.2⟩
  |some .ptr,[κv]|some (.slice _ _),[κv]|some (.sliceR _ _),[κv]|some .mapP,[κv]=>some ⟨some (.v (.one (.slc κv))),[(κv,.apt κ (AH.rd H p.1 p.2.1))],[AH.ok H p.1 p.2.1 1=true]++p.2.2⟩
  |_,_=>none
 | .store t x y=>match rw,ns,(Jg σ x).bind (JiG σ κ bs),(Jg σ y).bind QG,JhD (T t) with
  |true,[κ'],some p,some ls,some (g,n)=>match Jcc σ κ κ' bs H ls,Jg σ y with
   | some (vs,H1,wr),some (.v y')=>bif Nat.beq vs.length n&&(bif Jnn y' then g else !g) then
     some ⟨none,(κ',.arena true (κ::bs) (AH.wr H1 p.1 p.2.1 vs))::(κ,.dead)::wr,[AH.ok H p.1 p.2.1 n=true,1≤n]++p.2.2⟩ else none
   |_,_=>none
  |_,_,_,_,_=>none
 | .box t x=>match rw,ns,Jg σ x with
  |true,[κ',κv],some (.v (.agg ls))=>match Jcc σ κ κ' bs H ls with
   |some (vs,H1,wr)=>some ⟨some (.v (.one (.slc κv))),(κ',.arena true (κ::bs) (H1++[.cells t vs]))::(κ,.dead)::(κv,.apt κ' (.ptr H1.length 0))::wr,[]⟩
   |none=>none
  |_,_,_=>none
 | .nilCheck x=>match Jg σ x with
  |some (.v (.one (.slc κ')))=>(Xp σ κ bs κ').bind fun v=>Vp (.v (.one (.slc κ'))) (v.isP=true∧AH.ok H v 0 1=true)
  |some (.v (.one (.per κ' sz i off)))=>(Xp σ κ bs κ').bind fun v=>Vp (.v (.one (.per κ' sz i off))) (AH.ok H v (i.toNat*sz+off) 1=true)
  |_=>none
 | .fieldAddr t x f=>match T t,Jg σ x with
  |some (.struct _ offs _),some (.v (.one (.slc κ')))=>(offs[f]?).bind fun o=>bif Nat.ble 1 o.2 then(Xp σ κ bs κ').bind fun v=>Vp (.v (.one (.per κ' 1 (.ofNat 0) o.1))) (v.isP=true∧AH.ok H v 0 1=true) else none
  |some (.struct _ offs _),some (.v (.one (.per κ' sz i off)))=>(offs[f]?).bind fun o=>bif Nat.ble 1 o.2 then(Xp σ κ bs κ').bind fun v=>Vp (.v (.one (.per κ' sz i (off+o.1)))) (AH.ok H v (i.toNat*sz+off) 1=true) else none
  |_,_=>none
 | .indexAddr t x i=>match T t,Jg σ x,Jg σ i with
  |some (.arrG n _ sz _),some (.v (.one (.slc κ'))),some (.v (.one (.int _ j)))=>(Xp σ κ bs κ').bind fun v=>Vp (.v (.one (.per κ' sz j 0))) ((0≤j∧j<n)∧v.isP=true∧AH.ok H v 0 1=true)
  |some (.arrG n _ sz _),some (.v (.one (.per κ' _ (.ofNat 0) off))),some (.v (.one (.int _ j)))=>(Xp σ κ bs κ').bind fun v=>Vp (.v (.one (.per κ' sz j off))) ((0≤j∧j<n)∧AH.ok H v off 1=true)
  |some d,some (.v (.one (.slc κ'))),some (.v (.one (.int _ j)))=>(Yp (some d)).bind fun e=>(Xp σ κ bs κ').bind fun v=>Vp (.v (.one (.per κ' e.2 j 0))) ((0≤j∧j<v.len)∧AH.isRow H e.2 v=true)
  |_,_,_=>none
 | .lookup t x k false=>match T t,ns,Jg σ x,Jg σ k with
  |some .mapP,[κv],some (.v (.one (.slc κ'))),some (.v (.one (.int .i64 n)))=>(Xp σ κ bs κ').bind fun v=>some ⟨some (.v (.one (.slc κv))),[(κv,.apt κ (AH.look H v n))],[AH.isMap H v=true]⟩
  |_,_,_,_=>none
 | .mapUpdate t x k y=>match T t,rw,ns,Jg σ x,Jg σ k with
  |some .mapP,true,[κ'],some (.v (.one (.slc κ1))),some (.v (.one (.int .i64 n)))=>match Xp σ κ bs κ1,Jg σ y with
   |some v,some (.v (.one (.slc κ2)))=>(Xp σ κ bs κ2).bind fun u=>some ⟨none,[(κ',.arena true (κ::bs) (AH.mset H v n u)),(κ,.dead)],[AH.isMap H v=true]⟩
   |_,_=>none
  |_,_,_,_,_=>none
 | .binOp op t x y _=>match T t,Jg σ x,Jg σ y with
  |some .ptr,some (.v (.one (.slc κ'))),some (.v (.one .nilp))=>(Xp σ κ bs κ').bind fun v=>match op with
   | .eql=>Vp (Wg v.isN) (v.isN=true∨(v.isP=true∧AH.ok H v 0 1=true))
   | .neq=>Vp (Wg (!v.isN)) (v.isN=true∨(v.isP=true∧AH.ok H v 0 1=true))
   |_=>none
  |_,_,_=>none
 | .slice t x lo hi none=>match Yp (T t),ns,Jg σ x,Jbm σ lo,Jbm σ hi with
  |some e,[κv],some (.v (.one (.slc κ'))),some l,some h=>(Xp σ κ bs κ').bind fun v=>match WD l 0,WD h v.len with
   |some a,some b=>some ⟨some (.v (.one (.slc κv))),[(κv,.apt κ (v.sub a.toNat b.toNat))],[0≤a∧a≤b∧b≤v.len,AH.isRow H e.2 v=true,v.lo=0]⟩
   |_,_=>none
  |_,_,_,_,_=>none
 | .makeMap t none=>match T t,rw,ns with
  |some .mapP,true,[κ',κv]=>some ⟨some (.v (.one (.slc κv))),[(κ',.arena true (κ::bs) (H++[.map []])),(κ,.dead),(κv,.apt κ' (.map H.length))],[]⟩
  |_,_,_=>none
 | .makeSlice t x y=>match T t,Jg σ x,Jg σ y,rw,ns with
  |some (.sliceR e 1),some (.v (.one (.int _ n))),some (.v (.one (.int _ m))),true,[κ',κv]=>match T e with
   |some .bool=>some ⟨some (.v (.one (.slc κv))),[(κ',.arena true (κ::bs) (H++[.row e 1 (List.replicate n.toNat (.bool false))])),(κ,.dead),(κv,.apt κ' (.slc H.length 1 0 n.toNat))],[n=m,0≤n∧n≤YJ]⟩
   |_=>none
  |_,_,_,_,_=>none
 | .buildSlice t n ps=>match T t,rw,ns with
  |some (.sliceR e 1),true,[κ',κv]=>match T e,boolL σ 0 ps.toList with
   |some .bool,some l=>bif Nat.beq l.length n&&Nat.beq n 1 then some ⟨some (.v (.one (.slc κv))),[(κ',.arena true (κ::bs) (H++[.row e 1 l])),(κ,.dead),(κv,.apt κ' (.slc H.length 1 0 n))],[]⟩ else none
   |_,_=>none
  |_,_,_=>none
 | .call ⟨.builtin .len,args,ts⟩=>match Yp ((ts[0]?).bind T),(args[0]?).bind (Jg σ) with
  |some e,some (.v (.one (.slc κ')))=>(Xp σ κ bs κ').bind fun v=>Vp (Yn .i64 v.len) (AH.isRow H e.2 v=true)
  |_,_=>none
 | .alloc t=>match T t,rw,ns with
  |some (.arrG _ _ _ z),true,[κ',κv]=>(mvZ z).bind fun vs=>some ⟨some (.v (.one (.slc κv))),[(κ',.arena true (κ::bs) (H++[.cells t vs])),(κ,.dead),(κv,.apt κ' (.ptr H.length 0))],[]⟩
  |_,_,_=>none
 | .call ⟨.builtin .append,args,ts⟩=>match args.toList,ts.toList with
  | [x,y],[t,t']=>bif Nat.beq t t' then match Yp (T t),rw,ns,(Jg σ x).bind (Jlx σ κ bs),Jg σ y with
    | some e,true,[κ',κv],some v,some u=>(Jlz σ κ bs H e.2 u).bind fun r=>some ⟨some (.v (.one (.slc κv))),[(κ',.arena true (κ::bs) (AH.app H v e.1 e.2 r.1)),(κ,.dead),(κv,.apt κ' (.slc H.length e.2 0 (v.len+r.2.1)))],
      [AH.isEnd H e.1 e.2 v=true,v.len+r.2.1≤YJ]++r.2.2⟩
    |_,_,_,_,_=>none
   else none
  |_,_=>none
 | .call ⟨.builtin .clear,args,ts⟩=>match Yp ((ts[0]?).bind T),rw,ns,(args[0]?).bind (Jg σ) with
  |some e,true,[κ'],some (.v (.one (.slc κ1)))=>(wvS σ κ bs κ1).bind fun v=>match JkW (T e.1) with
   |some z=>bif Nat.beq e.2 1 then some ⟨none,[(κ',.arena true (κ::bs) (AH.clr H v z)),(κ,.dead)],[AH.isRow H 1 v=true]⟩ else none
   |none=>none
  |_,_,_,_=>none
 | .call ⟨.builtin .delete,args,ts⟩=>match (ts[0]?).bind T,rw,ns,args.toList with
  |some .mapP,true,[κ'],[x,k]=>match Jg σ x,Jg σ k with
   |some (.v (.one (.slc κ1))),some (.v (.one (.int .i64 n)))=>(Xp σ κ bs κ1).bind fun v=>some ⟨none,[(κ',.arena true (κ::bs) (AH.mdel H v n)),(κ,.dead)],[AH.isMap H v=true]⟩
   |_,_=>none
  |_,_,_,_=>none
 |_=>none
def arW (T:TypeId→Option TD) (σ:Stt) (κ:Nat) (ns:List Nat) (bs:List Nat) (H:AH) (op:Op):Option Eff:=
 match op with
 | .slice t x lo hi none=>match Yp (T t),ns,Jg σ x,Jbm σ lo,Jbm σ hi with
  |some e,[κv],some (.v (.one (.slc κ'))),some l,some h=>(wvS σ κ bs κ').bind fun v=>match WD l 0,WD h v.len with
   |some a,some b=>some ⟨some (.v (.one (.slc κv))),[(κv,.wv κ (v.sub a.toNat b.toNat))],[0≤a∧a≤b∧b≤v.len,AH.isRow H e.2 v=true]⟩
   |_,_=>none
  |_,_,_,_,_=>none
 |_=>none
def pnK (σ:Stt) (κ:Nat):Bool:=match Jh σ κ with|some (.ptn ..)=>true|_=>false
def pnS (T:TypeId→Option TD) (σ:Stt) (op:Op):Option Eff:=
 match op with
 | .nilCheck x=>match Jg σ x with
  |some (.v (.one (.slc κ')))=>bif pnK σ κ' then Ju (.v (.one (.slc κ'))) else none
  |some (.v (.one (.per κ' sz i off)))=>bif pnK σ κ' then Ju (.v (.one (.per κ' sz i off))) else none
  |_=>none
 | .fieldAddr t x f=>match T t,Jg σ x with
  |some (.struct _ offs _),some (.v (.one (.slc κ')))=>(offs[f]?).bind fun o=>bif Nat.ble 1 o.2&&pnK σ κ' then Ju (.v (.one (.per κ' 1 (.ofNat 0) o.1))) else none
  |some (.struct _ offs _),some (.v (.one (.per κ' sz i off)))=>(offs[f]?).bind fun o=>bif Nat.ble 1 o.2&&pnK σ κ' then Ju (.v (.one (.per κ' sz i (off+o.1)))) else none
  |_,_=>none
 |_=>none
def gnS (_:TypeId→Option TD) (_:Stt) (_:List GK) (_:Op):Option Eff:=none
def Jbr (σ:Stt):SV→Option (List Bool)
 | .v (.one (.slc κ))=>match Jh σ κ with
  |some (.rdb l)|some (.rdbx l)|some (.ownb _ l)=>some l
  |_=>none
 |_=>none
def Je5 (T:TypeId→Option TD):Option TD→Option TypeId
 |some (.sliceR e 1)=>match T e with
  |some .bool=>some e
  |_=>none
 |_=>none
def bbS (T:TypeId→Option TD) (σ:Stt) (ns:List Nat) (op:Op):Option Eff:=
 match op with
 | .binOp op t x y _=>match Je5 T (T t),Jg σ x,Jg σ y with
  |some _,some (.v (.one (.slc κ))),some (.v (.one .nils))=>match Jh σ κ,op with
   |some (.rdbx _),.eql=>Ju (Wg false)
   |some (.rdbx _),.neq=>Ju (Wg true)
   |_,_=>none
  |some _,some (.v (.one .nils)),some (.v (.one .nils))=>match op with
   | .eql=>Ju (Wg true)
   | .neq=>Ju (Wg false)
   |_=>none
  |_,_,_=>none
 | .buildSlice t 0 ps=>match Je5 T (T t),ns with
  |some e,[κ']=>bif Nat.beq ps.size 0 then some ⟨some (.v (.one (.slc κ'))),[(κ',.ownb e [])],[]⟩ else none
  |_,_=>none
 | .call ⟨.builtin .append,args,ts⟩=>match args.toList,ts.toList,ns with
  | [x,y],[t,t'],[κ']=>bif Nat.beq t t' then match Je5 T (T t),Jg σ x,Jg σ y with
    |some e,some (.v (.one (.slc κ))),some u=>match Jh σ κ,Jbr σ u with
     |some (.ownb e' l),some l2=>bif Nat.beq e e' then some ⟨some (.v (.one (.slc κ'))),[(κ',.ownb e (l++l2)),(κ,.dead)],[l.length+l2.length≤YJ]⟩ else none
     |_,_=>none
    |_,_,_=>none
   else none
  |_,_,_=>none
 | .call ⟨.builtin .len,args,ts⟩=>match Je5 T ((ts[0]?).bind T),(args[0]?).bind (Jg σ) with
  |some _,some u=>(Jbr σ u).bind fun l=>Ju (Yn .i64 l.length)
  |_,_=>none
 | .indexAddr t x i=>match Je5 T (T t),Jg σ x,Jg σ i with
  |some _,some (.v (.one (.slc κ))),some (.v (.one (.int _ j)))=>(Jbr σ (.v (.one (.slc κ)))).bind fun l=>Vp (.v (.one (.per κ 1 j 0))) (0≤j∧j<l.length)
  |_,_,_=>none
 | .load t x=>match T t,Jg σ x with
  |some .bool,some (.v (.one (.per κ 1 i 0)))=>(Jbr σ (.v (.one (.slc κ)))).bind fun l=>Vp (Wg (l.getD i.toNat false)) (i<l.length)
  |_,_=>none
 |_=>none
def eiS (T:TypeId→Option TD) (σ:Stt) (op:Op):Option Eff:=
 match op with
 | .makeInterface t x=>match T t,Jg σ x with
  |some (.int k),some (.v (.one (.int k' n)))=>bif keq k k' then Ju (.v (.one (.ifi t k n))) else none
  |_,_=>none
 | .binOp op t x (.const .nilIface) _=>match T t,Jg σ x with
  |some .ifc,some (.v (.one (.slc κ)))=>match Jh σ κ,op with
   |some (.err _ _ _ n),.eql=>Ju (Wg (decide (n=0)))
   |some (.err _ _ _ n),.neq=>Ju (Wg (!decide (n=0)))
   |_,_=>none
  |some .ifc,some (.v (.one .nili))=>match op with
   | .eql=>Ju (Wg true)
   | .neq=>Ju (Wg false)
   |_=>none
  |_,_=>none
 |_=>none
def Qs (σ:Stt):SV→Option (TypeId×IntKind×List Int)
 | .v (.one (.slc κ))=>match Jh σ κ with
  |some (.ownf e k l)=>some (e,k,l)
  |_=>none
 |_=>none
def ofS (T:TypeId→Option TD) (σ:Stt) (ns:List Nat) (op:Op):Option Eff:=
 match op with
 | .slice t x (some lo) none none=>match T t,Jg σ x,Jg σ lo,ns with
  | some (.slice _ _),some (.v (.one (.slc κ))),some (.v (.one (.int _ m))),[κ']=>(Qs σ (.v (.one (.slc κ)))).bind fun r=>
    some ⟨some (.v (.one (.slc κ'))),[(κ',.ownf r.1 r.2.1 (r.2.2.drop m.toNat)),(κ,.dead)],[0≤m∧m≤r.2.2.length]⟩
  |_,_,_,_=>none
 | .call ⟨.builtin .append,args,ts⟩=>match args.toList,ts.toList,ns with
  | [x,y],[t,t'],[κ']=>bif Nat.beq t t' then match T t,Jg σ x,(Jg σ y).bind (JbW σ) with
    | some (.slice e k),some (.v (.one (.slc κ))),some (k2,l2)=>(Qs σ (.v (.one (.slc κ)))).bind fun r=>
      bif keq k r.2.1&&keq k k2&&Nat.beq e r.1 then some ⟨some (.v (.one (.slc κ'))),[(κ',.ownf e k (r.2.2++l2)),(κ,.dead)],[r.2.2.length+l2.length≤YJ]⟩ else none
    |_,_,_=>none
   else none
  |_,_,_=>none
 | .call ⟨.builtin .len,args,ts⟩=>match (ts[0]?).bind T,(args[0]?).bind (Jg σ) with
  |some (.slice _ _),some u=>(Qs σ u).bind fun r=>Ju (Yn .i64 r.2.2.length)
  |_,_=>none
 | .indexAddr t x i=>match T t,Jg σ x,Jg σ i with
  |some (.slice _ _),some (.v (.one (.slc κ))),some (.v (.one (.int _ j)))=>(Qs σ (.v (.one (.slc κ)))).bind fun r=>Vp (.v (.one (.per κ 1 j 0))) (0≤j∧j<r.2.2.length)
  |_,_,_=>none
 | .load t x=>match T t,Jg σ x with
  |some (.int _),some (.v (.one (.per κ 1 i 0)))=>(Qs σ (.v (.one (.slc κ)))).bind fun r=>Vp (Yn r.2.1 (r.2.2.getD i.toNat 0)) (i<r.2.2.length)
  |_,_=>none
 |_=>none
def QY (σ:Stt):SV→Option (TypeId×Nat×List Int)
 | .v (.one (.slc κ))=>match Jh σ κ with
  |some (.owni e sz l)=>some (e,sz,l)
  |_=>none
 |_=>none
def Jk4 (σ:Stt) (sz:Nat):SV→Option Nat
 | .v (.one (.slc κ))=>match Jh σ κ with
  |some (.owni _ sz' l)=>bif Nat.beq sz sz' then some (l.length/sz) else none
  |some (.rdn n)=>some n
  |_=>none
 |_=>none
def Jj3:Leaf→Bool
 | .int .i64 _=>true
 |_=>false
def Jlq:Leaf→Int
 | .int _ n=>n
 |_=>0
def oiS (T:TypeId→Option TD) (σ:Stt) (ns:List Nat) (op:Op):Option Eff:=
 match op with
 | .buildSlice t 1 ps=>match T t,ps.toList,ns with
  |some (.sliceR e sz),[(0,x)],[κ']=>match Jg σ x with
   |some (.v (.agg ls))=>bif Nat.beq ls.length sz&&ls.all Jj3 then some ⟨some (.v (.one (.slc κ'))),[(κ',.owni e sz (ls.map Jlq))],[]⟩ else none
   |_=>none
  |_,_,_=>none
 | .makeFunc (.func f) first caps=>match first.toList,caps.toList with
  |[],[x]=>match Jg σ x with
   |some (.v (.one (.ptr κ 0)))=>Ju (.v (.one (.clo f κ)))
   |_=>none
  |_,_=>none
 | .indexAddr t x i=>match T t,Jg σ x,Jg σ i with
  |some (.sliceR _ sz),some (.v (.one (.slc κ))),some (.v (.one (.int _ j)))=>(QY σ (.v (.one (.slc κ)))).bind fun r=>bif Nat.beq sz r.2.1 then Vp (.v (.one (.per κ sz j 0))) (0≤j∧j<(r.2.2.length/r.2.1:Nat)) else none
  |_,_,_=>none
 | .load t x=>match T t,Jg σ x with
  |some (.struct n _ _),some (.v (.one (.per κ sz i 0)))=>(QY σ (.v (.one (.slc κ)))).bind fun r=>bif Nat.beq sz r.2.1&&Nat.beq n sz then Vp (.v (.agg ((List.range r.2.1).map fun q=> .int .i64 (r.2.2.getD (i.toNat*r.2.1+q) 0)))) (i<(r.2.2.length/r.2.1:Nat)) else none
  |_,_=>none
 | .slice t x none (some y) none=>match T t,Jg σ x,Jg σ y,ns with
  |some (.sliceR _ sz),some (.v (.one (.slc κ))),some (.v (.one (.int _ j))),[κ']=>(QY σ (.v (.one (.slc κ)))).bind fun r=>bif Nat.beq sz r.2.1 then some ⟨some (.v (.one (.slc κ'))),[(κ',.owni r.1 r.2.1 (r.2.2.take (j.toNat*r.2.1))),(κ,.dead)],[0≤j∧j≤(r.2.2.length/r.2.1:Nat)]⟩ else none
  |_,_,_,_=>none
 | .call ⟨.builtin .append,args,ts⟩=>match args.toList,ts.toList,ns with
  | [x,y],[t,t'],[κ']=>bif Nat.beq t t' then match T t,Jg σ x,(Jg σ y).bind (QY σ) with
    | some (.sliceR e sz),some (.v (.one (.slc κ))),some r2=>(QY σ (.v (.one (.slc κ)))).bind fun r=>
      bif Nat.beq e r.1&&Nat.beq sz r.2.1&&Nat.beq sz r2.2.1 then some ⟨some (.v (.one (.slc κ'))),[(κ',.owni e sz (r.2.2++r2.2.2)),(κ,.dead)],[r.2.2.length/sz+r2.2.2.length/sz≤YJ]⟩ else none
    |_,_,_=>none
   else none
  |_,_,_=>none
 | .call ⟨.builtin .len,args,ts⟩=>match (ts[0]?).bind T,(args[0]?).bind (Jg σ) with
  |some (.sliceR _ sz),some u=>(Jk4 σ sz u).bind fun n=>Ju (Yn .i64 (n:Int))
  |_,_=>none
 |_=>none
def Qe (σ:Stt):Nat×CV→Option ((Nat×Ent)×List Prop)
 |(κ,.same)=>match Jh σ κ with
  |some (.arena ..)|some (.apt ..)|none=>none
  |some e=>some ((κ,e),[])
 |(κ,.ro)=>match Jh σ κ with
  |some (.arena _ _ H)=>some ((κ,.arena false [] H),[])
  |_=>none
 |(κ,.rw)=>match Jh σ κ with
  |some (.arena true _ H)=>some ((κ,.arena true [] H),[])
  |_=>none
 |(κ,.apt κa)=>match Jh σ κa with
  |some (.arena _ bs _)=>(Xp σ κa bs κ).map fun v=>((κ,.apt κa v),[])
  |_=>none
 |(κ,.rd k κa)=>match Jh σ κa with
  |some (.arena _ bs H)=>(Xp σ κa bs κ).map fun v=>((κ,.rd k (AH.ints H v)),[AH.isInts H k v=true])
  |_=>none
 |(κ,.rdb κa)=>match Jh σ κa with
  |some (.arena _ bs H)=>(Xp σ κa bs κ).map fun v=>((κ,.rdb (AH.bools H v)),[AH.isBools H v=true])
  |_=>none
 | (κ,.rows k κa κ1 κ2)=>match Jh σ κa,Jh σ κ with
  |some (.arena _ bs H),some (.lit _ 2 [.slc κ1',.slc κ2'])=>match Xp σ κa bs κ1,Jh σ κ2 with
   |some v,some (.rd k2 l2)=>bif keq k k2&&Nat.beq κ1 κ1'&&Nat.beq κ2 κ2' then some ((κ,.rows (.bs k [AH.ints H v,l2])),[AH.isInts H k v=true]) else none
   |_,_=>none
  |_,_=>none
def Ji5 (σ:Stt):List (Nat×CV)→Option (List (Nat×Ent)×List Prop)
 |[]=>some ([],[])
 |p::r=>match Qe σ p,Ji5 σ r with
  |some a,some b=>some (a.1::b.1,a.2++b.2)
  |_,_=>none
def Jh9 (ks:List (Nat×CV)):Bool:=
 ks.all fun p=>match p.2 with
  | .rd _ κa| .rdb κa| .rows _ κa _ _=>ks.all fun q=>match q.2 with| .rw=> !(Nat.beq q.1 κa)|_=>true
  |_=>true
def JlL:Option Ent→List Nat
 |some (.arena _ bs _)=>bs
 |_=>[]
def JaZ (σ:Stt) (p:Nat×Ent):Nat×Ent:=
 match p with
 |(κ,.arena rw bs H)=>(κ,.arena rw (bs++bs.flatMap fun κb=>JlL (Jh σ κb)) H)
 |p=>p
def JhA (ks:List (Nat×CV)) (pre news:List (Nat×Ent)):Bool:=
 news.all fun p=>bif ks.any (fun q=>Nat.beq q.1 p.1) then pre.any fun q=>Nat.beq q.1 p.1&&q.2.mut else true
def JhG (P:Program) (σ:Stt) (f:Nat) (args:List Operand) (ks:List (Nat×CV)) (res:SV) (news:List (Nat×Ent)):Option Eff:=
 match JdO σ args,Ji5 σ ks with
 |some l,some (pre,nd)=>bif Jh9 ks&&JhA ks pre news then some ⟨some res,news.map (JaZ σ),nd++[CallOk P f l pre res news]⟩ else none
 |_,_=>none
def JaQ (P:Program) (T:TypeId→Option TD) (σ:Stt) (hint:Hint) (op:Op):Option Eff:=
 match hint with
 | .ar κ ns=>match Jh σ κ with
  |some (.arena rw bs H)=>arS T σ κ ns rw bs H op
  |_=>none
 | .arN κ ns=>match arS T σ κ ns true [] [] op with
  |some e=>bif e.wr.any (fun p=>Nat.beq p.1 κ) then some e else none
  |none=>none
 | .arW κ ns=>match Jh σ κ with
  |some (.arena _ bs H)=>arW T σ κ ns bs H op
  |_=>none
 | .gk ks=>gnS T σ ks op
 | .pn=>pnS T σ op
 | .bb ns=>bbS T σ ns op
 | .ei=>eiS T σ op
 | .of ns=>ofS T σ ns op
 | .oi ns=>oiS T σ ns op
 | .callA ks res news=>match op with
  | .call ⟨.value c,args,_⟩=>match Jg σ c with
   |some (.v (.one (.fn f)))=>JhG P σ f args.toList ks res news
   |_=>none
  |_=>none
 |h=>JgR P T σ h op
end Go.Gw
