/- Memory that leads to memory, as plain data: objects, numbered; what is in them; what is done to them. -/
import Derived.Below
namespace Go.Gw
inductive MV where
 |int (k:IntKind) (n:Int)
 |bool (b:Bool)
 |nilp
 |ptr (i off:Nat)
 |nils
 |slc (i sz lo len:Nat)
 |nilm
 |map (i:Nat)
inductive MO where
 |cells (ty:TypeId) (l:List MV)
 |row (e:TypeId) (sz:Nat) (l:List MV)
 |map (l:List (Int×MV))
 |dead
abbrev AH:=List MO
def MO.flat:MO→List MV
 | .cells _ l=>l
 | .row _ _ l=>l
 |_=>[]
def MO.ents:MO→List (Int×MV)
 | .map l=>l
 |_=>[]
def AH.at (H:AH) (i:Nat):MO:=H.getD i .dead
def AH.fl (H:AH) (i:Nat):List MV:=(AH.at H i).flat
def MV.ob:MV→Nat
 | .ptr i _=>i
 | .slc i _ _ _=>i
 | .map i=>i
 |_=>0
def MV.ix:MV→Nat→Nat
 | .ptr _ off,j=>off+j
 | .slc _ sz lo _,j=>lo*sz+j
 |_,j=>j
def MV.isP:MV→Bool
 | .ptr ..=>true
 |_=>false
def MV.isN:MV→Bool
 | .nilp=>true
 |_=>false
def MV.isPt:MV→Bool
 | .ptr ..=>true
 | .nilp=>true
 |_=>false
def MV.isM:MV→Bool
 | .map _=>true
 |_=>false
def MV.isS:MV→Bool
 | .slc ..=>true
 | .nils=>true
 |_=>false
def MV.len:MV→Nat
 | .slc _ _ _ n=>n
 |_=>0
def MV.sz:MV→Nat
 | .slc _ s _ _=>s
 |_=>1
def MV.lo:MV→Nat
 | .slc _ _ l _=>l
 |_=>0
def MV.num:MV→Int
 | .int _ n=>n
 |_=>0
def MV.tr:MV→Bool
 | .bool b=>b
 |_=>false
def MV.isB:MV→Bool
 | .bool _=>true
 |_=>false
def kc:IntKind→Nat
 | .i8=>0| .i16=>1| .i32=>2| .i64=>3| .u8=>4| .u16=>5| .u32=>6| .u64=>7
def MV.isI (k:IntKind):MV→Bool
 | .int k' _=>Nat.beq (kc k) (kc k')
 |_=>false
def MV.bd:MV→Nat
 | .ptr i _=>i+1
 | .slc i _ _ _=>i+1
 | .map i=>i+1
 |_=>0
def MO.bd:MO→Nat
 | .cells _ l=>(l.map MV.bd).foldr max 0
 | .row _ _ l=>(l.map MV.bd).foldr max 0
 | .map l=>(l.map fun p=>p.2.bd).foldr max 0
 | .dead=>0
def MO.live:MO→Bool
 | .dead=>false
 |_=>true
def AH.rd (H:AH) (v:MV) (j:Nat):MV:=(AH.fl H v.ob).getD (v.ix j) .nilp
def Jgw (l:List MV) (j:Nat) (vs:List MV):List MV:=l.take j++(vs++l.drop (j+vs.length))
def MO.put (j:Nat) (vs:List MV):MO→MO
 | .cells ty l=> .cells ty (Jgw l j vs)
 | .row e sz l=> .row e sz (Jgw l j vs)
 |o=>o
def AH.wr (H:AH) (v:MV) (j:Nat) (vs:List MV):AH:=H.set v.ob ((AH.at H v.ob).put (v.ix j) vs)
def AH.isRow (H:AH) (sz:Nat):MV→Bool
 | .slc i s lo n=>Nat.beq s sz&&(match AH.at H i with| .row _ s' l=>Nat.beq s' sz&&Nat.ble (lo*sz+n*sz) l.length|_=>false)
 | .nils=>true
 |_=>false
def AH.ok (H:AH) (v:MV) (j n:Nat):Bool:=
 (match v with| .ptr ..=>true| .slc _ sz _ _=>AH.isRow H sz v|_=>false)&&Nat.ble (v.ix j+n) (AH.fl H v.ob).length
def AH.view (H:AH):MV→List MV
 | .slc i sz lo n=>((AH.fl H i).drop (lo*sz)).take (n*sz)
 |_=>[]
def AH.ints (H:AH) (v:MV):List Int:=(AH.view H v).map MV.num
def AH.bools (H:AH) (v:MV):List Bool:=(AH.view H v).map MV.tr
def AH.isInts (H:AH) (k:IntKind) (v:MV):Bool:=AH.isRow H 1 v&&(AH.view H v).all (MV.isI k)
def AH.isBools (H:AH) (v:MV):Bool:=AH.isRow H 1 v&&(AH.view H v).all MV.isB
def AH.isEnd (H:AH) (e sz:Nat):MV→Bool
 | .slc i s lo n=>Nat.beq s sz&&Nat.beq lo 0&&(match AH.at H i with| .row e' s' l=>Nat.beq e' e&&Nat.beq s' sz&&Nat.beq (n*sz) l.length|_=>false)
 | .nils=>true
 |_=>false
def MV.sub:MV→Nat→Nat→MV
 | .slc i sz lo _,a,b=> .slc i sz (lo+a) (b-a)
 |v,_,_=>v
def MV.dies:MV→AH→AH
 | .slc i _ _ _,H=>H.set i .dead
 |_,H=>H
def AH.app (H:AH) (v:MV) (e sz:Nat) (ys:List MV):AH:=MV.dies v H++[.row e sz (AH.view H v++ys)]
def AH.clr (H:AH) (v:MV) (z:List MV):AH:=AH.wr H v 0 (List.replicate v.len z).flatten
def QW:List (Int×MV)→Int→MV
 |[],_=> .nilp
 |(k,v)::r,n=>if k=n then v else QW r n
def Jha:List (Int×MV)→Int→MV→List (Int×MV)
 |[],n,x=>[(n,x)]
 |(k,v)::r,n,x=>if k=n then(k,x)::r else(k,v)::Jha r n x
def Jgq:List (Int×MV)→Int→List (Int×MV)
 |[],_=>[]
 |(k,v)::r,n=>if k=n then r else(k,v)::Jgq r n
def AH.isMap (H:AH):MV→Bool
 | .map i=>match AH.at H i with| .map _=>true|_=>false
 |_=>false
def AH.look (H:AH) (v:MV) (n:Int):MV:=QW (AH.at H v.ob).ents n
def AH.mset (H:AH) (v:MV) (n:Int) (x:MV):AH:=H.set v.ob (.map (Jha (AH.at H v.ob).ents n x))
def AH.mdel (H:AH) (v:MV) (n:Int):AH:=H.set v.ob (.map (Jgq (AH.at H v.ob).ents n))
end Go.Gw
