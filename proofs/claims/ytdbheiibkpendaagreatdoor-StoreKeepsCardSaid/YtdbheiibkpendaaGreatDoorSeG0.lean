/- Two plain functions over maps, typed by hand: a disk's numbers of files, rising; how many bytes its files have. -/
import Derived.Test.YtdbheiibkpendaaGreatDoorGw0
namespace Go.Proofs.Se.D
open Go Go.Gw
def JbR (l:List (Int×MV)):List Int:=(l.map (·.1)).mergeSort fun x y=>decide (x≤y)
def JcI (l:List (Int×MV)):Prop:=(l.map (·.1)).Nodup∧(∀x∈l.map (·.1),(Lit.int .i64 x).wf=true)∧l.length≤4096
instance (l:List (Int×MV)):Decidable (JcI l):=by unfold JcI;infer_instance
def Vu (H:AH) (d:MV):Option (List Int):=
 if MV.isP d=true∧AH.ok H d 1 1=true∧AH.isMap H (AH.rd H d 1)=true∧JcI (AH.at H (AH.rd H d 1).ob).ents then some (JbR (AH.at H (AH.rd H d 1).ob).ents) else none
def Jei (H:AH) (v:MV):Prop:=MV.isP v=true∧AH.ok H v 0 1=true∧AH.isRow H 1 (AH.rd H v 0)=true
instance (H:AH) (v:MV):Decidable (Jei H v):=by unfold Jei;infer_instance
def Jjb (H:AH) (l:List (Int×MV)):Int:=(l.map fun p=>((AH.rd H p.2 0).len:Int)).sum
def WS (H:AH) (d:MV):Option Int:=
 if MV.isP d=true∧AH.ok H d 1 1=true∧AH.isMap H (AH.rd H d 1)=true∧JcI (AH.at H (AH.rd H d 1).ob).ents∧(∀p∈(AH.at H (AH.rd H d 1).ob).ents,Jei H p.2) then
  some (IntKind.i64.wrap (Jjb H (AH.at H (AH.rd H d 1).ob).ents)) else none
end Go.Proofs.Se.D
