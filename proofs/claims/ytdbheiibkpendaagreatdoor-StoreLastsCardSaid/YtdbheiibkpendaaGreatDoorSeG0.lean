/- Two plain functions over maps, typed by hand: a disk's numbers of files, rising; how many bytes its files have. -/
import Derived.Test.YtdbheiibkpendaaGreatDoorGw0
namespace Go.Proofs.Se.D
open Go Go.Gw
def JcG (l:List (Int×MV)):List Int:=(l.map (·.1)).mergeSort fun x y=>decide (x≤y)
def Jc7 (l:List (Int×MV)):Prop:=(l.map (·.1)).Nodup∧(∀x∈l.map (·.1),(Lit.int .i64 x).wf=true)∧l.length≤4096
instance (l:List (Int×MV)):Decidable (Jc7 l):=by unfold Jc7;infer_instance
def Vx (H:AH) (d:MV):Option (List Int):=
 if MV.isP d=true∧AH.ok H d 1 1=true∧AH.isMap H (AH.rd H d 1)=true∧Jc7 (AH.at H (AH.rd H d 1).ob).ents then some (JcG (AH.at H (AH.rd H d 1).ob).ents) else none
def Jex (H:AH) (v:MV):Prop:=MV.isP v=true∧AH.ok H v 0 1=true∧AH.isRow H 1 (AH.rd H v 0)=true
instance (H:AH) (v:MV):Decidable (Jex H v):=by unfold Jex;infer_instance
def JkI (H:AH) (l:List (Int×MV)):Int:=(l.map fun p=>((AH.rd H p.2 0).len:Int)).sum
def Xc (H:AH) (d:MV):Option Int:=
 if MV.isP d=true∧AH.ok H d 1 1=true∧AH.isMap H (AH.rd H d 1)=true∧Jc7 (AH.at H (AH.rd H d 1).ob).ents∧(∀p∈(AH.at H (AH.rd H d 1).ob).ents,Jex H p.2) then
  some (IntKind.i64.wrap (JkI H (AH.at H (AH.rd H d 1).ob).ents)) else none
end Go.Proofs.Se.D
