/- The walk's engine, part 9b: other names for the same things. -/
import Derived.Test.YtdbheiibkpendaaGreatDoorGw9
namespace Go.Gw
open Go.RowKit
def Jv:List (Nat×Leaf)→Nat→Leaf
 |[],y=> .slc y
 |(κ,x)::r,y=>bif Nat.beq κ y then x else Jv r y
def Leaf.sub (m:List (Nat×Leaf)):Leaf→Leaf
 | .slc κ=>Jv m κ
 | .ptr κ off=>match Jv m κ with| .slc κ'=> .ptr κ' off|x=>x
 | .pe κ b n i=>match Jv m κ with| .slc κ'=> .pe κ' b n i|x=>x
 | .per κ s i off=>match Jv m κ with| .slc κ'=> .per κ' s i off|x=>x
 | .view κ b n lo hi=>match Jv m κ with| .slc κ'=> .view κ' b n lo hi|x=>x
 | .clo f κ=>match Jv m κ with| .slc κ'=> .clo f κ'|x=>x
 |x=>x
def Leaf.subOk (m:List (Nat×Leaf)):Leaf→Bool
 | .slc κ=>match Jv m κ with| .arr ..=>false|_=>true
 | .ptr κ _| .pe κ _ _ _| .per κ _ _ _| .view κ _ _ _ _| .clo _ κ=>match Jv m κ with| .slc _=>true|_=>false
 |_=>true
def V1.sub (m:List (Nat×Leaf)):V1→V1
 | .one x=> .one (x.sub m)
 | .agg l=> .agg (l.map (Leaf.sub m))
def V1.subOk (m:List (Nat×Leaf)):V1→Bool
 | .one x=>x.subOk m
 | .agg l=>l.all (Leaf.subOk m)
def SV.sub (m:List (Nat×Leaf)):SV→SV
 | .v x=> .v (x.sub m)
 | .tup l=> .tup (l.map (V1.sub m))
def SV.subOk (m:List (Nat×Leaf)):SV→Bool
 | .v x=>x.subOk m
 | .tup l=>l.all (V1.subOk m)
def Ws:Leaf→Nat
 | .slc κ=>κ
 |_=>0
def YV:Leaf→Bool
 | .slc _=>true
 |_=>false
theorem JaL {x:Leaf} (h:YV x=true):x= .slc (Ws x):=by cases x<;>first|rfl|cases h
def Ent.sub (m:List (Nat×Leaf)):Ent→Ent
 | .arena rw bs H=> .arena rw (bs.map fun κ=>Ws (Jv m κ)) H
 | .apt κ v=> .apt (Ws (Jv m κ)) v
 | .wv κ v=> .wv (Ws (Jv m κ)) v
 | .ptn κ v=> .ptn (Ws (Jv m κ)) v
 | .blk t l=> .blk t (l.map (Leaf.sub m))
 | .rblk t l=> .rblk t (l.map (Leaf.sub m))
 | .lit e n l=> .lit e n (l.map (Leaf.sub m))
 |e=>e
def Ent.subOk (m:List (Nat×Leaf)):Ent→Bool
 | .blk _ l| .rblk _ l| .lit _ _ l=>l.all (Leaf.subOk m)
 | .arena _ bs _=>bs.all fun κ=>YV (Jv m κ)
 | .apt κ _=>YV (Jv m κ)
 | .wv κ _=>YV (Jv m κ)
 | .ptn κ _=>YV (Jv m κ)
 |_=>true
variable {P:Program} {T:TypeId→Option TD} {B:Nat→Prop} {N:Nat} {w0:W0} {γ:Nat→Value} {σ:Stt} {a:Act} {w:World} {m:List (Nat×Leaf)}
def Qj (m:List (Nat×Leaf)) (γ:Nat→Value) (κ:Nat):Value:=((Jv m κ).cells γ).headD undef
def WK (m:List (Nat×Leaf)) (γ γ0:Nat→Value) (κ:Nat):Prop:=γ0 κ=Qj m γ κ
theorem JeL {γ0:Nat→Value} {x:Leaf} (h:x.subOk m=true) (hg:∀κ∈x.keys,WK m γ γ0 κ):(x.sub m).cells γ=x.cells γ0:=by
 cases x with
 | slc κ=>
  have hl:(Jv m κ).lone:=by
   simp only[Leaf.subOk] at h
   cases hx:Jv m κ<;>first|trivial|(rw [hx] at h;cases h)
  have h1:γ0 κ=((Jv m κ).cells γ).headD undef:=hg κ (by simp[Leaf.keys])
  show (Jv m κ).cells γ=[γ0 κ]
  rw[h1]
  exact WB hl
 |ptr κ off=>
  simp only[Leaf.subOk] at h
  cases hx:Jv m κ<;>first|(rw [hx] at h;cases h;done)|skip
  have:=hg κ (by simp[Leaf.keys])
  simp only[WK,Qj,hx,Leaf.cells,List.headD_cons] at this
  simp[Leaf.sub,hx,Leaf.cells,bk,this]
 |pe κ b n i=>
  simp only[Leaf.subOk] at h
  cases hx:Jv m κ<;>first|(rw [hx] at h;cases h;done)|skip
  have:=hg κ (by simp[Leaf.keys])
  simp only[WK,Qj,hx,Leaf.cells,List.headD_cons] at this
  simp[Leaf.sub,hx,Leaf.cells,bk,this]
 |per κ s i off=>
  simp only[Leaf.subOk] at h
  cases hx:Jv m κ<;>first|(rw [hx] at h;cases h;done)|skip
  have:=hg κ (by simp[Leaf.keys])
  simp only[WK,Qj,hx,Leaf.cells,List.headD_cons] at this
  simp[Leaf.sub,hx,Leaf.cells,this]
 |view κ b n lo hi=>
  simp only[Leaf.subOk] at h
  cases hx:Jv m κ<;>first|(rw [hx] at h;cases h;done)|skip
  have:=hg κ (by simp[Leaf.keys])
  simp only[WK,Qj,hx,Leaf.cells,List.headD_cons] at this
  simp[Leaf.sub,hx,Leaf.cells,bk,this]
 |clo f κ=>
  simp only[Leaf.subOk] at h
  cases hx:Jv m κ<;>first|(rw [hx] at h;cases h;done)|skip
  have:=hg κ (by simp[Leaf.keys])
  simp only[WK,Qj,hx,Leaf.cells,List.headD_cons] at this
  simp[Leaf.sub,hx,Leaf.cells,bk,this]
 |_=>rfl
theorem Ja2 {γ0:Nat→Value} {l:List Leaf} (h:l.all (Leaf.subOk m)=true) (hg:∀x∈l,∀κ∈x.keys,WK m γ γ0 κ):Jq γ (l.map (Leaf.sub m))=Jq γ0 l:=by
 induction l with
 |nil=>rfl
 |cons x r ih=>
  simp only[List.all_cons,Bool.and_eq_true] at h
  rw[List.map_cons,JP,JP,JeL h.1 (hg x (by simp)),ih h.2 fun y hy=>hg y (by simp[hy])]
theorem JkA {γ0:Nat→Value} {x:V1} (h:x.subOk m=true) (hg:∀κ∈x.keys,WK m γ γ0 κ):(x.sub m).den γ=x.den γ0:=by
 cases x with
 |one x=>
  simp only[V1.sub,V1.den]
  rw[JeL h (by simpa[V1.keys,Jbz] using hg)]
 |agg l=>
  simp only[V1.sub,V1.den]
  rw[Ja2 h fun x hx κ hκ=>hg κ (by simp only[V1.keys,List.mem_flatMap];exact⟨x,hx,by rwa [Jbz]⟩)]
theorem Jik {γ0:Nat→Value} {x:SV} (h:x.subOk m=true) (hg:∀κ∈x.keys,WK m γ γ0 κ):(x.sub m).den γ=x.den γ0:=by
 cases x with
 |v x=>exact JkA h hg
 |tup l=>
  simp only[SV.sub,SV.den,SV.subOk,List.all_eq_true] at*
  congr 2
  rw[List.map_map]
  exact List.map_congr_left fun x hx=>JkA (h x hx) fun κ hκ=>hg κ (by simp only[SV.keys,List.mem_flatMap];exact⟨x,hx,hκ⟩)
theorem Jfi {x:Leaf} (h:(x.sub m).ok) (hs:x.subOk m=true):x.ok:=by
 cases x with
 |pe κ b n i=>
  simp only[Leaf.subOk] at hs
  cases hx:Jv m κ<;>first|(rw [hx] at hs;cases hs;done)|skip
  simpa[Leaf.sub,hx,Leaf.ok] using h
 |per κ s i off=>
  simp only[Leaf.subOk] at hs
  cases hx:Jv m κ<;>first|(rw [hx] at hs;cases hs;done)|skip
  simpa[Leaf.sub,hx,Leaf.ok] using h
 |view κ b n lo hi=>
  simp only[Leaf.subOk] at hs
  cases hx:Jv m κ<;>first|(rw [hx] at hs;cases hs;done)|skip
  simpa[Leaf.sub,hx,Leaf.ok] using h
 |arr k n l=>exact h
 |_=>trivial
theorem JjE {x:Leaf} (h:(x.sub m).lone):x.lone:=by
 cases x<;>first|trivial|exact h
theorem JhR {x:V1} (h:(x.sub m).ok) (hs:x.subOk m=true):x.ok:=by
 cases x with
 |one x=>exact⟨Jfi h.1 hs,JjE h.2⟩
 |agg l=>
  intro x hx
  simp only[V1.subOk,List.all_eq_true] at hs
  exact Jfi (h (x.sub m) (by simp only[List.mem_map];exact⟨x,hx,rfl⟩)) (hs x hx)
theorem JhI {x:SV} (h:(x.sub m).ok) (hs:x.subOk m=true):x.ok:=by
 cases x with
 |v x=>exact JhR h hs
 |tup l=>
  intro x hx
  simp only[SV.subOk,List.all_eq_true] at hs
  exact JhR (h (x.sub m) (by simp only[List.mem_map];exact⟨x,hx,rfl⟩)) (hs x hx)
def Jau (m:List (Nat×Leaf)) (κ:Nat) (bs:List Nat) (κb:Nat):Bool:=YV (Jv m κb)&&(Nat.beq (Ws (Jv m κb)) κ||bs.any (Nat.beq (Ws (Jv m κb))))
inductive FitE (H:Nat→Option Ent) (m:List (Nat×Leaf)):Leaf→Ent→Prop
 |rd {κ:Nat} {k:IntKind} {l:List Int}:H κ=some (.rd k l)→FitE H m (.slc κ) (.rd k l)
 |rdxrd {κ:Nat} {k:IntKind} {l:List Int}:H κ=some (.rdx k l)→FitE H m (.slc κ) (.rd k l)
 |ownrd {κ:Nat} {e:TypeId} {k:IntKind} {l:List Int}:H κ=some (.own e k l)→FitE H m (.slc κ) (.rd k l)
 |rdx {κ:Nat} {k:IntKind} {l:List Int}:H κ=some (.rdx k l)→FitE H m (.slc κ) (.rdx k l)
 |nilrd {k:IntKind}:FitE H m .nils (.rd k [])
 |nilown {e:TypeId} {k:IntKind}:FitE H m .nils (.own e k [])
 | view {κ base n:Nat} {lo hi:Int} {ty:TypeId} {ls:List Leaf} {k:IntKind} {l:List Int}:H κ=some (.blk ty ls)→Xy ls base=some (.arr k n l)→(0≤lo∧lo≤hi∧hi≤n∧n≤maxLen)→
   FitE H m (.view κ base n lo hi) (.rd k ((l.take hi.toNat).drop lo.toNat))
 | rview {κ base n:Nat} {lo hi:Int} {ty:TypeId} {ls:List Leaf} {k:IntKind} {l:List Int}:H κ=some (.rblk ty ls)→Xy ls base=some (.arr k n l)→(0≤lo∧lo≤hi∧hi≤n∧n≤maxLen)→
   FitE H m (.view κ base n lo hi) (.rd k ((l.take hi.toNat).drop lo.toNat))
 |own {κ:Nat} {e:TypeId} {k:IntKind} {l:List Int}:H κ=some (.own e k l)→FitE H m (.slc κ) (.own e k l)
 |blk {κ:Nat} {ty:TypeId} {ls:List Leaf}:H κ=some (.blk ty (ls.map (Leaf.sub m)))→ls.all (Leaf.subOk m)=true→FitE H m (.slc κ) (.blk ty ls)
 |blkr {κ:Nat} {ty:TypeId} {ls:List Leaf}:H κ=some (.blk ty (ls.map (Leaf.sub m)))→ls.all (Leaf.subOk m)=true→FitE H m (.slc κ) (.rblk ty ls)
 |rblk {κ:Nat} {ty:TypeId} {ls:List Leaf}:H κ=some (.rblk ty (ls.map (Leaf.sub m)))→ls.all (Leaf.subOk m)=true→FitE H m (.slc κ) (.rblk ty ls)
 |rows {κ:Nat} {r:RowsK}:H κ=some (.rows r)→FitE H m (.slc κ) (.rows r)
 |orowsr {κ:Nat} {e:TypeId} {r:RowsK}:H κ=some (.orows e r)→FitE H m (.slc κ) (.rows r)
 |orows {κ:Nat} {e:TypeId} {r:RowsK}:H κ=some (.orows e r)→FitE H m (.slc κ) (.orows e r)
 |prowsr {κ:Nat} {e:TypeId} {r:RowsK}:H κ=some (.prows e r)→FitE H m (.slc κ) (.rows r)
 |prows {κ:Nat} {e:TypeId} {r:RowsK}:H κ=some (.prows e r)→FitE H m (.slc κ) (.prows e r)
 |nilprows {e:TypeId} {r:RowsK}:r.len=0→FitE H m .nils (.prows e r)
 |dead {x:Leaf}:FitE H m x .dead
 |nilrows {r:RowsK}:r.len=0→FitE H m .nils (.rows r)
 |nilorows {e:TypeId} {r:RowsK}:r.len=0→FitE H m .nils (.orows e r)
 |frows {κ:Nat} {e eb:TypeId} {f:Int} {r:RowsK}:H κ=some (.frows e eb f r)→FitE H m (.slc κ) (.frows e eb f r)
 |frowsr {κ:Nat} {e eb:TypeId} {r:RowsK}:H κ=some (.frows e eb (.ofNat 0) r)→FitE H m (.slc κ) (.rows r)
 |nilfrows {e eb:TypeId} {f:Int} {r:RowsK}:r.len=0→FitE H m .nils (.frows e eb f r)
 |litrc {κ κ1:Nat} {e e1:TypeId} {n:Int} {l:List Int}:H κ=some (.lit e 1 [.int .i64 n,.slc κ1])→H κ1=some (.own e1 .u8 l)→FitE H m (.slc κ) (.rows (.rc [(n,l)]))
 |arena {κ:Nat} {rw:Bool} {bs bs':List Nat} {D:AH}:H κ=some (.arena rw bs D)→bs'.all (Jau m κ bs)=true→FitE H m (.slc κ) (.arena rw bs' D)
 |arenaro {κ:Nat} {rw:Bool} {bs bs':List Nat} {D:AH}:H κ=some (.arena rw bs D)→bs'.all (Jau m κ bs)=true→FitE H m (.slc κ) (.arena false bs' D)
 |arena0 {rw:Bool}:FitE H m (.fn 0) (.arena rw [] [])
 |apt {κ κa κ0 κb:Nat} {rw:Bool} {bs:List Nat} {D:AH} {v:MV}:H κ=some (.apt κb v)→Jv m κa= .slc κ0→H κ0=some (.arena rw bs D)→(Nat.beq κb κ0||bs.any (Nat.beq κb))=true→FitE H m (.slc κ) (.apt κa v)
 |apts {κ κa κb:Nat} {v:MV}:H κ=some (.apt κb v)→Jv m κa= .slc κb→FitE H m (.slc κ) (.apt κa v)
 |aptn {κ κa κ0 κb:Nat} {rw:Bool} {bs:List Nat} {D:AH} {v:MV}:H κ=some (.ptn κb v)→Jv m κa= .slc κ0→H κ0=some (.arena rw bs D)→(Nat.beq κb κ0||bs.any (Nat.beq κb))=true→FitE H m (.slc κ) (.apt κa v)
 |aptsn {κ κa κb:Nat} {v:MV}:H κ=some (.ptn κb v)→Jv m κa= .slc κb→FitE H m (.slc κ) (.apt κa v)
 |ptns {κ κa κb:Nat} {v:MV}:H κ=some (.ptn κb v)→Jv m κa= .slc κb→FitE H m (.slc κ) (.ptn κa v)
 |ptn {κ κa κ0 κb:Nat} {rw:Bool} {bs:List Nat} {D:AH} {v:MV}:H κ=some (.apt κb v)→Jv m κa= .slc κ0→H κ0=some (.arena rw bs D)→(Nat.beq κb κ0||bs.any (Nat.beq κb))=true→v.isP=true∧AH.ok D v 0 1=true→FitE H m (.slc κ) (.ptn κa v)
 |aptnil {κa:Nat}:FitE H m .nilp (.apt κa .nilp)
 |aptnils {κa:Nat}:FitE H m .nils (.apt κa .nils)
 |rdb {κ:Nat} {l:List Bool}:H κ=some (.rdb l)→FitE H m (.slc κ) (.rdb l)
 |rdbnil:FitE H m .nils (.rdb [])
 |rdbx {κ:Nat} {l:List Bool}:H κ=some (.rdbx l)→FitE H m (.slc κ) (.rdbx l)
 |rdbxr {κ:Nat} {l:List Bool}:H κ=some (.rdbx l)→FitE H m (.slc κ) (.rdb l)
 |rdbown {κ:Nat} {e:TypeId} {l:List Bool}:H κ=some (.ownb e l)→FitE H m (.slc κ) (.rdb l)
 |ownb {κ:Nat} {e:TypeId} {l:List Bool}:H κ=some (.ownb e l)→FitE H m (.slc κ) (.ownb e l)
 |ownbnil {e:TypeId}:FitE H m .nils (.ownb e [])
 |err {κ:Nat} {tp ts te:TypeId} {n:Int}:H κ=some (.err tp ts te n)→FitE H m (.slc κ) (.err tp ts te n)
 |erni {tp ts te:TypeId}:FitE H m .nili (.err tp ts te 0)
 |ownf {κ:Nat} {e:TypeId} {k:IntKind} {l:List Int}:H κ=some (.ownf e k l)→FitE H m (.slc κ) (.ownf e k l)
 |ownfo {κ:Nat} {e:TypeId} {k:IntKind} {l:List Int}:H κ=some (.own e k l)→FitE H m (.slc κ) (.ownf e k l)
 |owni {κ:Nat} {e:TypeId} {sz:Nat} {l:List Int}:H κ=some (.owni e sz l)→FitE H m (.slc κ) (.owni e sz l)
 |rdn {κ n:Nat}:H κ=some (.rdn n)→FitE H m (.slc κ) (.rdn n)
 |rdni {κ:Nat} {e:TypeId} {sz:Nat} {l:List Int}:H κ=some (.owni e sz l)→FitE H m (.slc κ) (.rdn (l.length/sz))
 |rdnnil:FitE H m .nils (.rdn 0)
 |owninil {e:TypeId} {sz:Nat}:FitE H m .nils (.owni e sz [])
 |ownfnil {e:TypeId} {k:IntKind}:FitE H m .nils (.ownf e k [])
 |ownfr {κ:Nat} {e:TypeId} {k:IntKind} {l:List Int}:H κ=some (.ownf e k l)→FitE H m (.slc κ) (.rd k l)
 |gv {κ b:Nat} {v:Value}:H κ=some (.gv b v)→FitE H m (.slc κ) (.gv b v)
theorem FitE.rd' {H:Nat→Option Ent} {m:List (Nat×Leaf)} {κ:Nat} {k:IntKind} {l:List Int} (h0:H κ=some (.rd k l):=by kernel_rfl):FitE H m (.slc κ) (.rd k l):= .rd h0
theorem FitE.ownrd' {H:Nat→Option Ent} {m:List (Nat×Leaf)} {κ:Nat} {e:TypeId} {k:IntKind} {l:List Int} (h0:H κ=some (.own e k l):=by kernel_rfl):FitE H m (.slc κ) (.rd k l):= .ownrd h0
theorem FitE.own' {H:Nat→Option Ent} {m:List (Nat×Leaf)} {κ:Nat} {e:TypeId} {k:IntKind} {l:List Int} (h0:H κ=some (.own e k l):=by kernel_rfl):FitE H m (.slc κ) (.own e k l):= .own h0
theorem FitE.blk' {H:Nat→Option Ent} {m:List (Nat×Leaf)} {κ:Nat} {ty:TypeId} {ls:List Leaf} (h0:H κ=some (.blk ty (ls.map (Leaf.sub m))):=by kernel_rfl) (h1:ls.all (Leaf.subOk m)=true:=by kernel_rfl):FitE H m (.slc κ) (.blk ty ls):= .blk h0 h1
theorem FitE.blkr' {H:Nat→Option Ent} {m:List (Nat×Leaf)} {κ:Nat} {ty:TypeId} {ls:List Leaf} (h0:H κ=some (.blk ty (ls.map (Leaf.sub m))):=by kernel_rfl) (h1:ls.all (Leaf.subOk m)=true:=by kernel_rfl):FitE H m (.slc κ) (.rblk ty ls):= .blkr h0 h1
theorem FitE.rblk' {H:Nat→Option Ent} {m:List (Nat×Leaf)} {κ:Nat} {ty:TypeId} {ls:List Leaf} (h0:H κ=some (.rblk ty (ls.map (Leaf.sub m))):=by kernel_rfl) (h1:ls.all (Leaf.subOk m)=true:=by kernel_rfl):FitE H m (.slc κ) (.rblk ty ls):= .rblk h0 h1
theorem FitE.rows' {H:Nat→Option Ent} {m:List (Nat×Leaf)} {κ:Nat} {r:RowsK} (h0:H κ=some (.rows r):=by kernel_rfl):FitE H m (.slc κ) (.rows r):= .rows h0
theorem FitE.orowsr' {H:Nat→Option Ent} {m:List (Nat×Leaf)} {κ:Nat} {e:TypeId} {r:RowsK} (h0:H κ=some (.orows e r):=by kernel_rfl):FitE H m (.slc κ) (.rows r):= .orowsr h0
theorem FitE.orows' {H:Nat→Option Ent} {m:List (Nat×Leaf)} {κ:Nat} {e:TypeId} {r:RowsK} (h0:H κ=some (.orows e r):=by kernel_rfl):FitE H m (.slc κ) (.orows e r):= .orows h0
theorem FitE.nilorows' {H:Nat→Option Ent} {m:List (Nat×Leaf)} {e:TypeId} {r:RowsK} (h0:r.len=0:=by kernel_rfl):FitE H m .nils (.orows e r):= .nilorows h0
theorem FitE.arena' {H:Nat→Option Ent} {m:List (Nat×Leaf)} {κ:Nat} {rw:Bool} {bs bs':List Nat} {D:AH} (h0:H κ=some (.arena rw bs D):=by kernel_rfl) (h1:bs'.all (Jau m κ bs)=true:=by kernel_rfl):FitE H m (.slc κ) (.arena rw bs' D):= .arena h0 h1
theorem FitE.apt' {H:Nat→Option Ent} {m:List (Nat×Leaf)} {κ κa κ0 κb:Nat} {rw:Bool} {bs:List Nat} {D:AH} {v:MV} (h0:H κ=some (.apt κb v):=by kernel_rfl) (h1:Jv m κa= .slc κ0:=by kernel_rfl) (h2:H κ0=some (.arena rw bs D):=by kernel_rfl) (h3:(Nat.beq κb κ0||bs.any (Nat.beq κb))=true:=by kernel_rfl):FitE H m (.slc κ) (.apt κa v):= .apt h0 h1 h2 h3
theorem FitE.apts' {H:Nat→Option Ent} {m:List (Nat×Leaf)} {κ κa κb:Nat} {v:MV} (h0:H κ=some (.apt κb v):=by kernel_rfl) (h1:Jv m κa= .slc κb:=by kernel_rfl):FitE H m (.slc κ) (.apt κa v):= .apts h0 h1
theorem FitE.ptn' {H:Nat→Option Ent} {m:List (Nat×Leaf)} {κ κa κ0 κb:Nat} {rw:Bool} {bs:List Nat} {D:AH} {v:MV} (h4:v.isP=true∧AH.ok D v 0 1=true) (h0:H κ=some (.apt κb v):=by kernel_rfl) (h1:Jv m κa= .slc κ0:=by kernel_rfl) (h2:H κ0=some (.arena rw bs D):=by kernel_rfl) (h3:(Nat.beq κb κ0||bs.any (Nat.beq κb))=true:=by kernel_rfl):FitE H m (.slc κ) (.ptn κa v):= .ptn h0 h1 h2 h3 h4
theorem FitE.rdb' {H:Nat→Option Ent} {m:List (Nat×Leaf)} {κ:Nat} {l:List Bool} (h0:H κ=some (.rdb l):=by kernel_rfl):FitE H m (.slc κ) (.rdb l):= .rdb h0
theorem FitE.err' {H:Nat→Option Ent} {m:List (Nat×Leaf)} {κ:Nat} {tp ts te:TypeId} {n:Int} (h0:H κ=some (.err tp ts te n):=by kernel_rfl):FitE H m (.slc κ) (.err tp ts te n):= .err h0
theorem FitE.owni' {H:Nat→Option Ent} {m:List (Nat×Leaf)} {κ:Nat} {e:TypeId} {sz:Nat} {l:List Int} (h0:H κ=some (.owni e sz l):=by kernel_rfl):FitE H m (.slc κ) (.owni e sz l):= .owni h0
theorem FitE.rdn' {H:Nat→Option Ent} {m:List (Nat×Leaf)} {κ n:Nat} (h0:H κ=some (.rdn n):=by kernel_rfl):FitE H m (.slc κ) (.rdn n):= .rdn h0
theorem FitE.rdni' {H:Nat→Option Ent} {m:List (Nat×Leaf)} {κ:Nat} {e:TypeId} {sz:Nat} {l:List Int} (h0:H κ=some (.owni e sz l):=by kernel_rfl):FitE H m (.slc κ) (.rdn (l.length/sz)):= .rdni h0
theorem FitE.ownf' {H:Nat→Option Ent} {m:List (Nat×Leaf)} {κ:Nat} {e:TypeId} {k:IntKind} {l:List Int} (h0:H κ=some (.ownf e k l):=by kernel_rfl):FitE H m (.slc κ) (.ownf e k l):= .ownf h0
theorem FitE.ownfr' {H:Nat→Option Ent} {m:List (Nat×Leaf)} {κ:Nat} {e:TypeId} {k:IntKind} {l:List Int} (h0:H κ=some (.ownf e k l):=by kernel_rfl):FitE H m (.slc κ) (.rd k l):= .ownfr h0
theorem FitE.gv' {H:Nat→Option Ent} {m:List (Nat×Leaf)} {κ b:Nat} {v:Value} (h0:H κ=some (.gv b v):=by kernel_rfl):FitE H m (.slc κ) (.gv b v):= .gv h0
theorem Jbq {κ:Nat} {bs:List Nat} {κb:Nat} (h:Jau m κ bs κb=true):∃κ0,Jv m κb= .slc κ0∧(κ0=κ∨κ0∈bs):=by
 simp only[Jau,Bool.and_eq_true,Bool.or_eq_true] at h
 refine⟨_,JaL h.1,?_⟩
 rcases h.2 with h|h
 ·exact .inl (Nat.eq_of_beq_eq_true h)
 ·obtain⟨x,hx,he⟩:=List.any_eq_true.1 h
  exact .inr (by rw[Nat.eq_of_beq_eq_true he];exact hx)
theorem Jlb {e:TypeId} {l:List Bool} {v:Value} (h:w.ownsRow 0 e 1 v l.length (l.map .bool)):RdB w v l:=by
 rcases h.2 with⟨h1,h2⟩|⟨g,cap,cur,hv,_,hg,hnc,hcm,hcs,htake⟩
 ·exact .inl ⟨⟨none,h1⟩,List.length_eq_zero_iff.1 h2⟩
 ·refine .inr ⟨⟨g,0,none⟩,cap,hv,hnc,hcm,(Array.getElem?_eq_some_iff.1 hg).1,rfl,fun i hi=> ?_⟩
  have:=h.cells (g:=g) (by rw[hv];rfl) i (.bool (l.getD i false)) (by simp[List.getD,hi])
  exact this
theorem JdK {κ base n:Nat} {lo hi:Int} {ty:TypeId} {ls:List Leaf} {k:IntKind} {l:List Int} (hb:BlkAt γ w κ ty ls) (hl:Xy ls base=some (.arr k n l)) (h:0≤lo∧lo≤hi∧hi≤n∧n≤maxLen):
  RdI w (((Leaf.view κ base n lo hi).cells γ).headD undef) k ((l.take hi.toNat).drop lo.toNat)∧∀b,Jw (((Leaf.view κ base n lo hi).cells γ).headD undef)=some b→Jw (γ κ)=some b:=by
 obtain⟨b,fr,hv,hg,hok⟩:=hb
 obtain⟨h0,h1,h2,h3⟩:=h
 obtain⟨p,r,e1,e2,_⟩:=WX ls base _ hl
 subst e1
 have okp:∀x∈p,x.ok:=fun x hx=>hok x (by simp[hx])
 have hlen:l.length=n:=hok (.arr k n l) (by simp)
 have hbk:bk γ κ=b:=by simp[bk,hv]
 have hlt:=(Array.getElem?_eq_some_iff.1 hg).1
 rw[JF,JP] at hg
 have hll:((l.take hi.toNat).drop lo.toNat).length=hi.toNat-lo.toNat:=by simp;omega
 simp only[Leaf.cells,List.headD_cons,hbk]
 refine⟨.inr ⟨⟨b,if n=lo.toNat then base else base+lo.toNat,none⟩,n-lo.toNat,by rw[hll],by rw[hll];omega,by omega,hlt,rfl,fun i hi'=> ?_⟩,fun b' hb'=> ?_⟩
 ·rw[hll] at hi'
  rw[if_neg (by omega),Jn,Jf7 _ _ _ _ hi',cell_of_row w b _ _ ty fr hg,Nat.add_assoc]
  refine JdB (by rw[Vq okp,e2]) ?_
  have:lo.toNat+i<l.length:=by omega
  simp[Leaf.cells,List.getD,this]
 ·simp[Jw] at hb'
  simp[hv,Jw,hb']
theorem Jd8 {e:TypeId} {κ κ1:Nat} {n:Int} (h:(Ent.lit e 1 [.int .i64 n,.slc κ1]).at B γ w κ):∃b,γ κ= .slice (some ⟨b,0,none⟩) 1 1∧b<w.heap.size∧∀j,w.cell? ((⟨b,0,none⟩:Addr).add j)=[Value.int .i64 n,γ κ1][j]? :=by
 obtain⟨b,h1,h2,h3,h4,h5⟩:=h
 refine⟨b,h1,(Array.getElem?_eq_some_iff.1 h4).1,fun j=> ?_⟩
 rw[Jn,Nat.zero_add,cell_of_row w b j _ e (0,0) h4]
 simp[Jq,Leaf.cells]
theorem FitE.sound {H:Nat→Option Ent} (Hok:∀κ e,H κ=some e→e.at B γ w κ) {γ0:Nat→Value} {κ:Nat} {e:Ent} (h:FitE H m (Jv m κ) e) (hg:WK m γ γ0 κ) (hk:∀κ'∈e.keys,WK m γ γ0 κ'):e.at B γ0 w κ:=by
 have hl:∀(l:List Leaf),l.all (Leaf.subOk m)=true→(∀κ'∈l.flatMap Leaf.keys,WK m γ γ0 κ')→Jq γ (l.map (Leaf.sub m))=Jq γ0 l:=fun l h1 h2=>
  Ja2 h1 fun x hx κ' hκ'=>h2 κ' (by simp only[List.mem_flatMap];exact⟨x,hx,hκ'⟩)
 have okl:∀(l:List Leaf),l.all (Leaf.subOk m)=true→(∀x∈l.map (Leaf.sub m),x.ok)→∀x∈l,x.ok:=fun l h1 h2 x hx=>
  Jfi (h2 _ (by simp only[List.mem_map];exact⟨x,hx,rfl⟩)) (List.all_eq_true.1 h1 x hx)
 unfold WK Qj at hg
 generalize hx:Jv m κ=x at h hg
 cases h with
 |rd h=>have:=Hok _ _ h;simp only[Ent.at,hg,Leaf.cells,List.headD_cons] at*;exact this
 |rdxrd h=>have:=Hok _ _ h;simp only[Ent.at,hg,Leaf.cells,List.headD_cons] at*;exact this.1
 |ownrd h=>have:=Hok _ _ h;simp only[Ent.at,hg,Leaf.cells,List.headD_cons] at*;exact Ql this.1
 |rdx h=>have:=Hok _ _ h;simp only[Ent.at,hg,Leaf.cells,List.headD_cons] at*;exact this
 |nilrd=>simp only[Ent.at,hg,Leaf.cells,List.headD_cons];exact .inl ⟨⟨none,rfl⟩,rfl⟩
 |nilown=>simp only[Ent.at,hg,Leaf.cells,List.headD_cons];exact⟨World.ownsRow_nil w 0 _ 1,fun b hb=>by simp[Jw] at hb⟩
 |view h1 h2 h3=>simp only[Ent.at,hg];exact(JdK (.of (Hok _ _ h1)) h2 h3).1
 |rview h1 h2 h3=>simp only[Ent.at,hg];exact(JdK (Hok _ _ h1) h2 h3).1
 |own h=>have:=Hok _ _ h;simp only[Ent.at,hg,Leaf.cells,List.headD_cons] at*;exact this
 |blk h h2=>
  obtain⟨b,q1,q2,q3,q4⟩:=Hok _ _ h
  exact⟨b,by rw[hg];exact q1,q2,by rw[←hl _ h2 hk];exact q3,okl _ h2 q4⟩
 |blkr h h2=>
  obtain⟨b,q1,q2,q3,q4⟩:=Hok _ _ h
  exact⟨b,_,by rw[hg];exact q1,by rw[←hl _ h2 hk];exact q3,okl _ h2 q4⟩
 |rblk h h2=>
  obtain⟨b,fr,q1,q3,q4⟩:=Hok _ _ h
  exact⟨b,fr,by rw[hg];exact q1,by rw[←hl _ h2 hk];exact q3,okl _ h2 q4⟩
 |rows h=>have:=Hok _ _ h;simp only[Ent.at,hg,Leaf.cells,List.headD_cons] at*;exact this
 |orowsr h=>have:=Hok _ _ h;simp only[Ent.at,hg,Leaf.cells,List.headD_cons] at*;exact this.1
 |orows h=>have:=Hok _ _ h;simp only[Ent.at,hg,Leaf.cells,List.headD_cons] at*;exact this
 |prowsr h=>have:=Hok _ _ h;simp only[Ent.at,hg,Leaf.cells,List.headD_cons] at*;exact this.1
 |prows h=>have:=Hok _ _ h;simp only[Ent.at,hg,Leaf.cells,List.headD_cons] at*;exact this
 | @nilprows e r h=>
  simp only[Ent.at,hg,Leaf.cells,List.headD_cons,h]
  exact⟨.inl ⟨rfl,h⟩,⟨[],⟨by simp,.inl ⟨rfl,rfl⟩⟩,by simp⟩,fun b hb=>by simp[Jw] at hb,fun b ⟨_,_,_,_,_,hb,_⟩=>by cases hb⟩
 |dead=>trivial
 |nilrows h=>simp only[Ent.at,hg,Leaf.cells,List.headD_cons];exact .inl ⟨rfl,h⟩
 | @nilorows e r h=>
  simp only[Ent.at,hg,Leaf.cells,List.headD_cons,h]
  exact⟨.inl ⟨rfl,h⟩,⟨[],⟨by simp,.inl ⟨rfl,rfl⟩⟩,by simp⟩,fun b hb=>by simp[Jw] at hb,fun b ⟨_,_,_,_,_,hb,_⟩=>by cases hb⟩
 |frows h=>have:=Hok _ _ h;simp only[Ent.at,hg,Leaf.cells,List.headD_cons] at*;exact this
 |frowsr h=>have:=Hok _ _ h;simp only[Ent.at,hg,Leaf.cells,List.headD_cons] at*;exact FR.rd this
 | @nilfrows e eb f r h=>
  simp only[Ent.at,hg,Leaf.cells,List.headD_cons]
  have hc:r.cells=[]:=List.length_eq_zero_iff.1 (by rw[RowsK.cells_len,h,Nat.zero_mul])
  exact⟨[],by rw[h];exact World.ownsRow_nil w 0 e _,by simp,by simp[Jw],fun j d _ hd=>by rw[hc] at hd;simp at hd,fun j u b _ h=>by simp at h,fun j j' u u' b _ _ _ h=>by simp at h⟩
 | @litrc κl κ1 e e1 n l h1 h2=>
  obtain⟨b,q1,q2,q3⟩:=Jd8 (Hok _ _ h1)
  have hr:=Ql (Hok _ _ h2).1
  simp only[Ent.at,hg,Leaf.cells,List.headD_cons]
  refine .inr ⟨⟨b,0,none⟩,1,q1,Nat.le_refl _,by simp[maxLen],q2,rfl,fun j d hd=> ?_⟩
  match j with
  |0=>simp[RowsK.cells] at hd;subst hd;exact⟨_,q3 0,rfl,rfl⟩
  |1=>simp[RowsK.cells] at hd;subst hd;exact⟨_,q3 1,(Jj6 (Hok _ _ h2).1).2,hr⟩
  |j+2=>simp[RowsK.cells] at hd
 |arena h h2=>
  obtain⟨q1,q2,q3⟩:=Hok _ _ h
  simp only[Ent.at,hg,Leaf.cells,List.headD_cons]
  refine⟨q1,q2,fun κb hb=> ?_⟩
  obtain⟨κ0,e1,e2⟩:=Jbq (List.all_eq_true.1 h2 κb hb)
  have ha:=hk κb hb
  unfold WK Qj at ha
  rw[ha,e1]
  rcases e2 with rfl|e2
  ·exact SkPre.refl _
  ·exact q3 _ e2
 |arenaro h h2=>
  obtain⟨q1,q2,q3⟩:=Hok _ _ h
  simp only[Ent.at,hg,Leaf.cells,List.headD_cons]
  refine⟨q1,(fun h=>by cases h),fun κb hb=> ?_⟩
  obtain⟨κ0,e1,e2⟩:=Jbq (List.all_eq_true.1 h2 κb hb)
  have ha:=hk κb hb
  unfold WK Qj at ha
  rw[ha,e1]
  rcases e2 with rfl|e2
  ·exact SkPre.refl _
  ·exact q3 _ e2
 |arena0=>
  simp only[Ent.at,hg,Leaf.cells,List.headD_cons]
  exact⟨⟨⟨[],rfl⟩,rfl,(fun i hi=>by simp at hi),(fun i j b _ hi=>by have:=WN hi;simp at this),fun i=>by rw[Jgr (by simp)];exact Nat.zero_le _⟩,(fun _ b ⟨i,hi,_⟩=>by have:=WN hi;simp at this),fun κb hb=>by cases hb⟩
 | @apt κ κa κ0 κb rw' bs D v h h2 h3 h4=>
  obtain⟨q1,q2⟩:=Hok _ _ h
  obtain⟨p1,p2,p3⟩:=Hok _ _ h3
  have ha:=hk κa (by simp[Ent.keys])
  unfold WK Qj at ha
  rw[h2] at ha
  simp only[Leaf.cells,List.headD_cons] at ha
  have hp:SkPre (γ κb) (γ κ0):=by
   simp only[Bool.or_eq_true] at h4
   rcases h4 with h4|h4
   ·rw[Nat.eq_of_beq_eq_true h4];exact SkPre.refl _
   ·obtain⟨x,hx,he⟩:=List.any_eq_true.1 h4
    rw[Nat.eq_of_beq_eq_true he];exact p3 x hx
  simp only[Ent.at,hg,Leaf.cells,List.headD_cons,ha]
  exact⟨q1.trans (MV.den_pre hp q2).symm,Nat.le_trans q2 hp.1⟩
 | @apts κ κa κb v h h2=>
  obtain⟨q1,q2⟩:=Hok _ _ h
  have ha:=hk κa (by simp[Ent.keys])
  unfold WK Qj at ha
  rw[h2] at ha
  simp only[Leaf.cells,List.headD_cons] at ha
  simp only[Ent.at,hg,Leaf.cells,List.headD_cons,ha]
  exact⟨q1,q2⟩
 | @aptn κ κa κ0 κb rw' bs D v h h2 h3 h4=>
  obtain⟨q1,q2,_⟩:=Hok _ _ h
  obtain⟨p1,p2,p3⟩:=Hok _ _ h3
  have ha:=hk κa (by simp[Ent.keys])
  unfold WK Qj at ha
  rw[h2] at ha
  simp only[Leaf.cells,List.headD_cons] at ha
  have hp:SkPre (γ κb) (γ κ0):=by
   simp only[Bool.or_eq_true] at h4
   rcases h4 with h4|h4
   ·rw[Nat.eq_of_beq_eq_true h4];exact SkPre.refl _
   ·obtain⟨x,hx,he⟩:=List.any_eq_true.1 h4
    rw[Nat.eq_of_beq_eq_true he];exact p3 x hx
  simp only[Ent.at,hg,Leaf.cells,List.headD_cons,ha]
  exact⟨q1.trans (MV.den_pre hp q2).symm,Nat.le_trans q2 hp.1⟩
 | @ptn κ κa κ0 κb rw' bs D v h h2 h3 h4 h5=>
  obtain⟨q1,q2⟩:=Hok _ _ h
  obtain⟨p1,p2,p3⟩:=Hok _ _ h3
  have ha:=hk κa (by simp[Ent.keys])
  unfold WK Qj at ha
  rw[h2] at ha
  simp only[Leaf.cells,List.headD_cons] at ha
  have hp:SkPre (γ κb) (γ κ0):=by
   simp only[Bool.or_eq_true] at h4
   rcases h4 with h4|h4
   ·rw[Nat.eq_of_beq_eq_true h4];exact SkPre.refl _
   ·obtain⟨x,hx,he⟩:=List.any_eq_true.1 h4
    rw[Nat.eq_of_beq_eq_true he];exact p3 x hx
  simp only[Ent.at,hg,Leaf.cells,List.headD_cons,ha]
  have e1:=q1.trans (MV.den_pre hp q2).symm
  obtain⟨b,o,q3⟩:=Yi p1 h5.2 (Nat.le_refl 1)
  rw[QK h5.1] at q3
  exact⟨e1,Nat.le_trans q2 hp.1,b,o,e1.trans q3⟩
 | @aptsn κ κa κb v h h2=>
  obtain⟨q1,q2,_⟩:=Hok _ _ h
  have ha:=hk κa (by simp[Ent.keys])
  unfold WK Qj at ha
  rw[h2] at ha
  simp only[Leaf.cells,List.headD_cons] at ha
  simp only[Ent.at,hg,Leaf.cells,List.headD_cons,ha]
  exact⟨q1,q2⟩
 | @ptns κ κa κb v h h2=>
  obtain⟨q1,q2,q3⟩:=Hok _ _ h
  have ha:=hk κa (by simp[Ent.keys])
  unfold WK Qj at ha
  rw[h2] at ha
  simp only[Leaf.cells,List.headD_cons] at ha
  simp only[Ent.at,hg,Leaf.cells,List.headD_cons,ha]
  exact⟨q1,q2,q3⟩
 |aptnil=>simp only[Ent.at,hg,Leaf.cells,List.headD_cons];exact⟨rfl,Nat.zero_le _⟩
 |aptnils=>simp only[Ent.at,hg,Leaf.cells,List.headD_cons];exact⟨rfl,Nat.zero_le _⟩
 |rdb h=>have:=Hok _ _ h;simp only[Ent.at,hg,Leaf.cells,List.headD_cons] at*;exact this
 |rdbnil=>simp only[Ent.at,hg,Leaf.cells,List.headD_cons];exact .inl ⟨⟨none,rfl⟩,rfl⟩
 |rdbx h=>have:=Hok _ _ h;simp only[Ent.at,hg,Leaf.cells,List.headD_cons] at*;exact this
 |rdbxr h=>have:=Hok _ _ h;simp only[Ent.at,hg,Leaf.cells,List.headD_cons] at*;exact this.1
 |rdbown h=>have:=Hok _ _ h;simp only[Ent.at,hg,Leaf.cells,List.headD_cons] at*;exact Jlb this.1
 |ownb h=>have:=Hok _ _ h;simp only[Ent.at,hg,Leaf.cells,List.headD_cons] at*;exact this
 |ownbnil=>simp only[Ent.at,hg,Leaf.cells,List.headD_cons];exact⟨World.ownsRow_nil w 0 _ 1,fun b hb=>by simp[Jw] at hb⟩
 |err h=>have:=Hok _ _ h;simp only[Ent.at,hg,Leaf.cells,List.headD_cons] at*;exact this
 |erni=>simp only[Ent.at,hg,Leaf.cells,List.headD_cons];exact .inl ⟨rfl,rfl⟩
 |gv h=>exact Hok _ _ h
 |ownf h=>have:=Hok _ _ h;simp only[Ent.at,hg,Leaf.cells,List.headD_cons] at*;exact this
 |ownfo h=>have:=Hok _ _ h;simp only[Ent.at,hg,Leaf.cells,List.headD_cons] at*;exact⟨OwnF.of_own this.1,this.2⟩
 |owni h=>have:=Hok _ _ h;simp only[Ent.at,hg,Leaf.cells,List.headD_cons] at*;exact this
 |rdn h=>have:=Hok _ _ h;simp only[Ent.at,hg,Leaf.cells,List.headD_cons] at*;exact this
 |rdni h=>
  have:=Hok _ _ h
  simp only[Ent.at,hg,Leaf.cells,List.headD_cons] at*
  rcases this.1.2 with⟨q,q0⟩|⟨g,cap,cur,q,_⟩
  ·exact⟨none,0,by rw[q,q0]⟩
  ·exact⟨_,_,q⟩
 |rdnnil=>simp only[Ent.at,hg,Leaf.cells,List.headD_cons];exact⟨none,0,rfl⟩
 |owninil=>simp only[Ent.at,hg,Leaf.cells,List.headD_cons];exact⟨⟨by simp,.inl ⟨rfl,by simp⟩⟩,fun b hb=>by simp[Jw] at hb⟩
 |ownfnil=>simp only[Ent.at,hg,Leaf.cells,List.headD_cons];exact⟨.inl ⟨rfl,rfl⟩,fun b hb=>by simp[Jw] at hb⟩
 |ownfr h=>have:=Hok _ _ h;simp only[Ent.at,hg,Leaf.cells,List.headD_cons] at*;exact OwnF.rd this.1
def kx (H:Nat→Option Ent) (x:Leaf):List Nat:=x.keys++x.keys.flatMap fun κ=>match H κ with|some (.lit _ _ ls)=>ls.flatMap Leaf.keys|_=>[]
theorem Wf (H:Nat→Option Ent) (κ:Nat):κ∈kx H (.slc κ):=by simp[kx,Leaf.keys]
theorem FitE.foot {H:Nat→Option Ent} (Hok:∀κ e,H κ=some e→e.at B γ w κ) {γ0:Nat→Value} {κ:Nat} {e:Ent} (h:FitE H m (Jv m κ) e) (hg:WK m γ γ0 κ) {b:Nat} (hb:e.foot γ0 w κ b):
  ∃κ' e',H κ'=some e'∧κ'∈kx H (Jv m κ)∧e'.foot γ w κ' b∧(e.mut=true→e'.mut=true∧(Jv m κ).keys=[κ']∧(Jw (γ0 κ)=some b→Jw (γ κ')=some b)∧(e.reg γ0 w κ b→e'.reg γ w κ' b)):=by
 unfold WK Qj at hg
 generalize hx:Jv m κ=x at h hg
 cases h with
 |rd h=>simp only[Ent.foot,hg,Leaf.cells,List.headD_cons] at hb;exact⟨_,_,h,Wf H _,hb,fun h=>by cases h⟩
 |rdxrd h=>simp only[Ent.foot,hg,Leaf.cells,List.headD_cons] at hb;exact⟨_,_,h,Wf H _,hb,fun h=>by cases h⟩
 |ownrd h=>simp only[Ent.foot,hg,Leaf.cells,List.headD_cons] at hb;exact⟨_,_,h,Wf H _,WO hb,fun h=>by cases h⟩
 |rdx h=>simp only[Ent.foot,hg,Leaf.cells,List.headD_cons] at hb;exact⟨_,_,h,Wf H _,hb,fun h=>by cases h⟩
 |nilrd=>simp[Ent.foot,hg,Leaf.cells,YP] at hb
 |nilown=>simp[Ent.foot,hg,Leaf.cells,Jw] at hb
 |view h1 h2 h3=>simp only[Ent.foot,hg] at hb;exact⟨_,_,h1,by simp[kx,Leaf.keys],(JdK (.of (Hok _ _ h1)) h2 h3).2 b (WO hb),fun h=>by cases h⟩
 |rview h1 h2 h3=>simp only[Ent.foot,hg] at hb;exact⟨_,_,h1,by simp[kx,Leaf.keys],(JdK (Hok _ _ h1) h2 h3).2 b (WO hb),fun h=>by cases h⟩
 |own h=>simp only[Ent.foot,hg,Leaf.cells,List.headD_cons] at hb;exact⟨_,_,h,Wf H _,hb,fun _=>⟨rfl,rfl,by rw[hg];exact id,by simp only[Ent.reg,hg];exact id⟩⟩
 |blk h h2=>simp only[Ent.foot,hg,Leaf.cells,List.headD_cons] at hb;exact⟨_,_,h,Wf H _,hb,fun _=>⟨rfl,rfl,by rw[hg];exact id,by simp only[Ent.reg,hg];exact id⟩⟩
 |blkr h h2=>simp only[Ent.foot,hg,Leaf.cells,List.headD_cons] at hb;exact⟨_,_,h,Wf H _,hb,fun h=>by cases h⟩
 |rblk h h2=>simp only[Ent.foot,hg,Leaf.cells,List.headD_cons] at hb;exact⟨_,_,h,Wf H _,hb,fun h=>by cases h⟩
 |rows h=>simp only[Ent.foot,hg,Leaf.cells,List.headD_cons] at hb;exact⟨_,_,h,Wf H _,hb,fun h=>by cases h⟩
 |orowsr h=>simp only[Ent.foot,hg,Leaf.cells,List.headD_cons] at hb;exact⟨_,_,h,Wf H _,hb,fun h=>by cases h⟩
 |orows h=>simp only[Ent.foot,hg,Leaf.cells,List.headD_cons] at hb;exact⟨_,_,h,Wf H _,hb,fun _=>⟨rfl,rfl,by rw[hg];exact id,by simp only[Ent.reg,hg];exact id⟩⟩
 |prowsr h=>simp only[Ent.foot,hg,Leaf.cells,List.headD_cons] at hb;exact⟨_,_,h,Wf H _,hb,fun h=>by cases h⟩
 |prows h=>simp only[Ent.foot,hg,Leaf.cells,List.headD_cons] at hb;exact⟨_,_,h,Wf H _,hb,fun _=>⟨rfl,rfl,by rw[hg];exact id,by simp only[Ent.reg,hg];exact id⟩⟩
 |nilprows h=>
  simp only[Ent.foot,hg,Leaf.cells,List.headD_cons] at hb
  rcases hb with hb|⟨_,_,_,_,_,hb,_⟩
  ·simp[Jw] at hb
  ·cases hb
 |dead=>exact hb.elim
 |nilrows h=>
  simp only[Ent.foot,hg,Leaf.cells,List.headD_cons] at hb
  rcases hb with hb|⟨_,_,_,_,_,hb,_⟩
  ·simp[Jw] at hb
  ·cases hb
 |nilorows h=>
  simp only[Ent.foot,hg,Leaf.cells,List.headD_cons] at hb
  rcases hb with hb|⟨_,_,_,_,_,hb,_⟩
  ·simp[Jw] at hb
  ·cases hb
 |frows h=>simp only[Ent.foot,hg,Leaf.cells,List.headD_cons] at hb;exact⟨_,_,h,Wf H _,hb,fun _=>⟨rfl,rfl,by rw[hg];exact id,by simp only[Ent.reg,hg];exact id⟩⟩
 | @frowsr κ' e eb r h=>
  simp only[Ent.foot,hg,Leaf.cells,List.headD_cons] at hb
  refine⟨_,_,h,Wf H _,?_,fun h=>by cases h⟩
  rcases hb with hb|⟨ad,len,cap,j,u,q1,q2,q3,q4⟩
  ·exact .inl hb
  ·obtain⟨xs,x1,_⟩:=Hok _ _ h
   rcases x1.2 with⟨hv,_⟩|⟨g,cap',cur,hv,_⟩
   ·rw[q1] at hv;cases hv
   ·rw[q1] at hv
    simp only[Value.slice.injEq,Option.some.injEq] at hv
    obtain⟨rfl,_,_⟩:=hv
    have hj:j<xs.length:=by rw[x1.1];exact q2
    have hc:=x1.cells (g:=g) (by rw[q1];rfl) j _ (List.getElem?_eq_getElem hj)
    rw[q3] at hc
    have hu:u=xs[j]:=Option.some.inj hc
    exact .inr ⟨xs,j,u,x1,by simp,by rw[hu];exact List.getElem?_eq_getElem hj,WO q4⟩
 | @nilfrows e eb f r h=>
  simp only[Ent.foot,hg,Leaf.cells,List.headD_cons] at hb
  rcases hb with hb|⟨xs,j,u,q1,_,q3,_⟩
  ·simp[Jw] at hb
  ·have:=q1.1
   rw[h,Nat.zero_mul] at this
   rw[List.length_eq_zero_iff.1 this] at q3
   simp at q3
 | @litrc κl κ1 e e1 n l h1 h2=>
  obtain⟨b',q1,q2,q3⟩:=Jd8 (Hok _ _ h1)
  simp only[Ent.foot,hg,Leaf.cells,List.headD_cons] at hb
  rcases hb with hb|⟨ad,len,cap,j,u,s1,s2,s3,s4⟩
  ·exact⟨_,_,h1,Wf H _,hb,fun h=>by cases h⟩
  ·rw[q1] at s1
   simp only[Value.slice.injEq,Option.some.injEq] at s1
   obtain⟨rfl,_,_⟩:=s1
   rw[q3 j] at s3
   match j with
   |0=>simp at s3;subst s3;simp[YP] at s4
   |1=>
    simp at s3;subst s3
    exact⟨κ1,_,h2,by simp[kx,Leaf.keys,h1],WO s4,fun h=>by cases h⟩
   |j+2=>simp at s3
 | @arena κ rw' bs bs' D h h2=>
  simp only[Ent.foot,hg,Leaf.cells,List.headD_cons] at hb
  refine⟨_,_,h,Wf H _,hb,fun hm=>⟨hm,rfl,by rw[hg];exact id,?_⟩⟩
  cases rw' with
  |true=>simp only[Ent.reg,hg];exact id
  |false=>cases hm
 |arenaro h h2=>simp only[Ent.foot,hg,Leaf.cells,List.headD_cons] at hb;exact⟨_,_,h,Wf H _,hb,fun h=>by cases h⟩
 |arena0=>
  obtain⟨i,hi,_⟩:=hb
  have:=WN hi
  simp at this
 |apt h h2 h3 h4=>exact hb.elim
 |apts h h2=>exact hb.elim
 |aptn h h2 h3 h4=>exact hb.elim
 |ptn h h2 h3 h4 h5=>exact hb.elim
 |aptsn h h2=>exact hb.elim
 |ptns h h2=>exact hb.elim
 |aptnil=>exact hb.elim
 |aptnils=>exact hb.elim
 |rdb h=>simp only[Ent.foot,hg,Leaf.cells,List.headD_cons] at hb;exact⟨_,_,h,Wf H _,hb,fun h=>by cases h⟩
 |rdbnil=>simp[Ent.foot,hg,Leaf.cells,YP] at hb
 |rdbx h=>simp only[Ent.foot,hg,Leaf.cells,List.headD_cons] at hb;exact⟨_,_,h,Wf H _,hb,fun h=>by cases h⟩
 |rdbxr h=>simp only[Ent.foot,hg,Leaf.cells,List.headD_cons] at hb;exact⟨_,_,h,Wf H _,hb,fun h=>by cases h⟩
 |rdbown h=>simp only[Ent.foot,hg,Leaf.cells,List.headD_cons] at hb;exact⟨_,_,h,Wf H _,WO hb,fun h=>by cases h⟩
 |ownb h=>simp only[Ent.foot,hg,Leaf.cells,List.headD_cons] at hb;exact⟨_,_,h,Wf H _,hb,fun _=>⟨rfl,rfl,by rw[hg];exact id,by simp only[Ent.reg,hg];exact id⟩⟩
 |ownbnil=>simp[Ent.foot,hg,Leaf.cells,Jw] at hb
 |err h=>simp only[Ent.foot,hg,Leaf.cells,List.headD_cons] at hb;exact⟨_,_,h,Wf H _,hb,fun h=>by cases h⟩
 |erni=>simp[Ent.foot,hg,Leaf.cells,Jly] at hb
 |gv h=>exact⟨_,_,h,Wf H _,hb,fun h=>by cases h⟩
 |ownf h=>simp only[Ent.foot,hg,Leaf.cells,List.headD_cons] at hb;exact⟨_,_,h,Wf H _,hb,fun _=>⟨rfl,rfl,by rw[hg];exact id,by simp only[Ent.reg,hg];exact id⟩⟩
 |ownfo h=>simp only[Ent.foot,hg,Leaf.cells,List.headD_cons] at hb;exact⟨_,_,h,Wf H _,hb,fun _=>⟨rfl,rfl,by rw[hg];exact id,by simp only[Ent.reg,hg];exact id⟩⟩
 |owni h=>simp only[Ent.foot,hg,Leaf.cells,List.headD_cons] at hb;exact⟨_,_,h,Wf H _,hb,fun _=>⟨rfl,rfl,by rw[hg];exact id,by simp only[Ent.reg,hg];exact id⟩⟩
 |rdn h=>exact hb.elim
 |rdni h=>exact hb.elim
 |rdnnil=>exact hb.elim
 |owninil=>simp[Ent.foot,hg,Leaf.cells,Jw] at hb
 |ownfnil=>simp[Ent.foot,hg,Leaf.cells,Jw] at hb
 |ownfr h=>simp only[Ent.foot,hg,Leaf.cells,List.headD_cons] at hb;exact⟨_,_,h,Wf H _,WO hb,fun h=>by cases h⟩
def FitL (H:Nat→Option Ent) (m:List (Nat×Leaf)):List (Nat×Ent)→Prop
 |[]=>True
 |p::r=>FitE H m (Jv m p.1) p.2∧FitL H m r
theorem FitL.mem {H:Nat→Option Ent}:∀{l:List (Nat×Ent)},FitL H m l→∀p∈l,FitE H m (Jv m p.1) p.2
 |[],_,p,hp=>by simp at hp
 |q::r,h,p,hp=>by
  rcases List.mem_cons.1 hp with rfl|hp
  ·exact h.1
  ·exact h.2.mem p hp
def Qn (H:Nat→Option Ent) (m:List (Nat×Leaf)) (l:List (Nat×Ent)):Bool:=
 l.all fun p=> !p.2.mut||l.all fun q=>Nat.beq p.1 q.1||(match q.2 with| .dead| .apt ..| .ptn ..| .rdn ..=>true|_=>false)|| !((kx H (Jv m p.1)).any fun κ=>(kx H (Jv m q.1)).any (Nat.beq κ))
theorem Jd2 {H:Nat→Option Ent} (Hok:∀κ e,H κ=some e→e.at B γ w κ) (Hap:∀κ e κ' e',H κ=some e→H κ'=some e'→κ≠κ'→e.mut=true→∀b,e.reg γ w κ b→¬e'.foot γ w κ' b)
  {γ0:Nat→Value} {l:List (Nat×Ent)} (h:FitL H m l) (hg:∀p∈l,WK m γ γ0 p.1) (hd:Qn H m l=true):YQ γ0 w l:=by
 intro p hp q hq hne hm b hb hf
 obtain⟨κ1,e1,h1,k1,f1,m1⟩:=FitE.foot Hok (h.mem p hp) (hg p hp) (Ent.reg_foot hb)
 obtain⟨κ2,e2,h2,k2,f2,m2⟩:=FitE.foot Hok (h.mem q hq) (hg q hq) hf
 have hdis:=List.all_eq_true.1 hd p hp
 simp only[hm,Bool.not_true,Bool.false_or] at hdis
 have:=List.all_eq_true.1 hdis q hq
 simp only[Bool.or_eq_true,Bool.not_eq_true'] at this
 rcases this with(h'|h')|h'
 ·exact hne (Nat.eq_of_beq_eq_true h')
 ·split at h'
  ·rename_i hq2;rw[hq2] at hf;exact hf
  ·rename_i hq2;rw[hq2] at hf;exact hf
  ·rename_i hq2;rw[hq2] at hf;exact hf
  ·rename_i hq2;rw[hq2] at hf;exact hf
  ·cases h'
 ·have hk:κ1≠κ2:=fun e=>by
   subst e
   have hany:((kx H (Jv m p.1)).any fun κ=>(kx H (Jv m q.1)).any (Nat.beq κ))=true:=List.any_eq_true.2 ⟨κ1,k1,Jcv.2 k2⟩
   rw[hany] at h';cases h'
  exact Hap κ1 e1 κ2 e2 h1 h2 hk (m1 hm).1 b ((m1 hm).2.2.2 hb) f2
def YL:SS→List (Nat×Ent)
 |[]=>[]
 |(.h κ,.e e)::r=>(κ,e)::YL r
 |_::r=>YL r
def Jas:SS→List Loc
 |[]=>[]
 |(.s t,.v _)::r=> .s t::Jas r
 |_::r=>Jas r
def Xx (m:List (Nat×Leaf)):SS→SS
 |[]=>[]
 |(.s t,.v x)::r=>(.s t,.v (x.sub m))::Xx m r
 |_::r=>Xx m r
def XY (m:List (Nat×Leaf)):SS→Bool
 |[]=>true
 |(.s _,.v x)::r=>x.subOk m&&XY m r
 |(.h _,.e _)::r=>XY m r
 |_::_=>false
theorem QA:∀{σ:SS} {κ:Nat} {e:Ent},look σ (.h κ)=some (.e e)→(κ,e)∈YL σ
 |[],κ,e,h=>by simp[look] at h
 | (l,c)::r,κ,e,h=>by
  simp only[look] at h
  cases hb:l.beq (.h κ) with
  |true=>
   simp only[hb,cond_true,Option.some.injEq] at h
   have:=Loc.beq_iff.1 hb
   subst this;subst h
   simp[YL]
  |false=>
   simp only[hb,cond_false] at h
   have ih:=QA h
   cases l<;>cases c<;>simp[YL,ih]
theorem Jba:∀{σ:SS} {t:Nat} {x:SV},look σ (.s t)=some (.v x)→XY m σ=true→x.subOk m=true∧look (Xx m σ) (.s t)=some (.v (x.sub m))
 |[],t,x,h,_=>by simp[look] at h
 | (l,c)::r,t,x,h,hs=>by
  simp only[look] at h
  cases hb:l.beq (.s t) with
  |true=>
   simp only[hb,cond_true,Option.some.injEq] at h
   have:=Loc.beq_iff.1 hb
   subst this;subst h
   simp only[XY,Bool.and_eq_true] at hs
   exact⟨hs.1,by simp[Xx,look,Loc.beq]⟩
  | false=>
   simp only[hb,cond_false] at h
   cases l with
   | s t'=>
    cases c with
    |v x'=>
     simp only[XY,Bool.and_eq_true] at hs
     obtain⟨h1,h2⟩:=Jba h hs.2
     refine⟨h1,?_⟩
     simp only[Xx,look,hb,cond_false]
     exact h2
    |e e=>cases hs
   | h κ=>
    cases c with
    |v x'=>cases hs
    |e e=>
     simp only[XY] at hs
     obtain⟨h1,h2⟩:=Jba h hs
     exact⟨h1,h2⟩
def Jb4 (pre:List (Nat×Ent)) (κ:Nat):Option Ent:=
 match pre with
 |[]=>none
 |(κ',e)::r=>bif Nat.beq κ' κ then some e else Jb4 r κ
theorem Qm:∀{pre:List (Nat×Ent)} {κ:Nat} {e:Ent},Jb4 pre κ=some e→(κ,e)∈pre
 |[],κ,e,h=>by simp[Jb4] at h
 | (κ',e')::r,κ,e,h=>by
  simp only[Jb4] at h
  cases hb:Nat.beq κ' κ with
  |true=>
   simp only[hb,cond_true,Option.some.injEq] at h
   rw[Nat.eq_of_beq_eq_true hb,h]
   simp
  |false=>
   simp only[hb,cond_false] at h
   exact List.mem_cons_of_mem _ (Qm h)
theorem Jf2 (h1:∀κ,(γ κ).oneCell'=true) (hm:∀p∈m,p.2.lone) (κ:Nat):(Qj m γ κ).oneCell'=true:=by
 have:(Jv m κ).lone:=by
  induction m with
  |nil=>trivial
  |cons p r ih=>
   obtain⟨κ',x⟩:=p
   simp only[Jv]
   cases Nat.beq κ' κ with
   |true=>exact hm (κ',x) (by simp)
   |false=>exact ih fun p hp=>hm p (by simp[hp])
 exact QC h1 this
def JeH:Leaf→Bool
 | .arr ..=>false
 |_=>true
theorem JcJ {x:Leaf} (h:JeH x=true):x.lone:=by cases x<;>first|trivial|cases h
theorem JcX {κ:Nat}:∀{m:List (Nat×Leaf)},(m.all fun p=>Nat.blt p.1 9000&&JeH p.2)=true→9000≤κ→Jv m κ= .slc κ
 |[],_,_=>rfl
 | (κ',x)::r,h,hκ=>by
  simp only[List.all_cons,Bool.and_eq_true,Nat.blt_eq] at h
  simp only[Jv]
  have:Nat.beq κ' κ=false:=by
   cases hb:Nat.beq κ' κ with
   |false=>rfl
   |true=>have:=Nat.eq_of_beq_eq_true hb;omega
  rw[this]
  exact JcX h.2 hκ
theorem Inv.fit {σ σ':SS} (I:Inv B N w0 γ (look σ) a w) (hm:(m.all fun p=>Nat.blt p.1 9000&&JeH p.2)=true) (hs:restr σ (Jas σ')=some (Xx m σ')) (hok:XY m σ'=true)
  {ents:List (Nat×Ent)} (hen:YL σ'=ents) (he:FitL (Jh (look σ)) m ents) (hd:Qn (Jh (look σ)) m ents=true):Inv B N w0 (Qj m γ) (look σ') a w:=by
 have lone:∀p∈m,p.2.lone:=fun p hp=>by
  have:=List.all_eq_true.1 hm p hp
  simp only[Bool.and_eq_true] at this
  exact JcJ this.2
 have Hok:∀κ e,Jh (look σ) κ=some e→e.at B γ w κ:=fun κ e h=>(I.key h).2
 have ag:∀κ,WK m γ (Qj m γ) κ:=fun κ=>rfl
 subst hen
 refine⟨I.size,I.defers,fun t x hx=> ?_,fun κ e hx=>FitE.sound Hok (he.mem (κ,e) (QA hx)) (ag κ) fun κ' _=>ag κ',fun κ e κ' e' h1 h2 hne hmu b hb=> ?_,I.below,I.top,Jf2 I.cell1 lone,fun κ v hv=> ?_⟩
 ·obtain⟨h1,h2⟩:=Jba hx hok
  have:=I.slot t _ (YD hs _ _ h2)
  exact⟨by rw[this.1];exact Jik h1 fun κ _=>ag κ,JhI this.2 h1⟩
 ·exact Jd2 Hok (fun κ e κ' e' h1 h2=>I.apart κ e κ' e' (I.key h1).1 (I.key h2).1) he (fun p _=>ag p.1) hd (κ,e) (QA h1) (κ',e') (QA h2) hne hmu b hb
 ·obtain⟨g1,g2⟩:=I.fixed κ v hv
  refine⟨?_,g2⟩
  rw[Qj,JcX hm g2]
  exact g1
def Jb2 (l:List (Nat×Ent)) (κ:Nat):Bool:=l.any fun p=>Nat.beq p.1 κ
theorem XH {l:List (Nat×Ent)} {κ:Nat}:Jb2 l κ=true↔∃p∈l,p.1=κ:=by
 simp only[Jb2,List.any_eq_true]
 constructor
 ·rintro ⟨p,hp,h⟩;exact⟨p,hp,Nat.eq_of_beq_eq_true h⟩
 ·rintro ⟨p,hp,h⟩;exact⟨p,hp,by rw[h];exact Nat.beq_refl κ⟩
def Jnd (m:List (Nat×Leaf)) (res:SV) (pre news pre1:List (Nat×Ent)):Bool:=
 (m.all fun p=>JeH p.2)&&
 (news.all fun p=>YV (Jv m p.1)&&(Jb2 pre p.1||(!(Jb2 pre1 (Ws (Jv m p.1)))&&
  (pre.all fun q=> !((Jv m q.1).keys.any (Nat.beq (Ws (Jv m p.1)))))&&(news.all fun q=>Nat.beq q.1 p.1|| !(Nat.beq (Ws (Jv m q.1)) (Ws (Jv m p.1)))))))&&
 (res.keys.all fun κ=>YV (Jv m κ)&&(Jb2 news κ||Jb2 pre κ))&&
 (news.all fun p=>p.2.subOk m&&p.2.keysL.all fun κ=>YV (Jv m κ)&&(Jb2 news κ||Jb2 pre κ))&&res.subOk m
theorem Jl3 {B:Nat→Prop} {γ0:Nat→Value} {κ κ':Nat} {e:Ent} (h:e.at B γ0 w κ) (h0:γ0 κ=γ κ') (hs:e.subOk m=true) (hg:∀κ∈e.keys,WK m γ γ0 κ) (hi:∀κ∈e.keys,YV (Jv m κ)=true):
  (e.sub m).at B γ w κ'∧(e.sub m).mut=e.mut∧(∀b,(e.sub m).foot γ w κ' b↔e.foot γ0 w κ b)∧∀b,(e.sub m).reg γ w κ' b↔e.reg γ0 w κ b:=by
 have hl:∀(l:List Leaf),l.all (Leaf.subOk m)=true→(∀κ'∈l.flatMap Leaf.keys,WK m γ γ0 κ')→Jq γ (l.map (Leaf.sub m))=Jq γ0 l:=fun l h1 h2=>
  Ja2 h1 fun x hx κ' hκ'=>h2 κ' (by simp only[List.mem_flatMap];exact⟨x,hx,hκ'⟩)
 have okl:∀(l:List Leaf),(∀κ∈l.flatMap Leaf.keys,YV (Jv m κ)=true)→(∀x∈l,x.ok)→∀y∈l.map (Leaf.sub m),y.ok:=fun l h1 h2 y hy=>by
  obtain⟨x,hx,rfl⟩:=List.mem_map.1 hy
  have hk:∀κ∈x.keys,YV (Jv m κ)=true:=fun κ hκ=>h1 κ (by simp only[List.mem_flatMap];exact⟨x,hx,hκ⟩)
  have:=h2 x hx
  cases x with
  |slc κ=>
   have:=hk κ (by simp[Leaf.keys])
   simp only[Leaf.sub]
   cases hx:Jv m κ<;>first|trivial|(rw [hx] at this;cases this)
  |ptr κ o|pe κ b n i|per κ s i o|view κ b n lo hi|clo _ κ=>
   have h':=hk κ (by simp[Leaf.keys])
   simp only[Leaf.sub]
   cases hx:Jv m κ<;>first|exact this|(rw [hx] at h';cases h')
  |_=>exact this
 cases e with
 |blk ty l=>
  obtain⟨b,h1,h2,h3,h4⟩:=h
  refine⟨⟨b,h0.symm.trans h1,h2,by rw[hl l hs hg];exact h3,okl l hi h4⟩,rfl,(fun b=>by simp only[Ent.sub,Ent.foot,h0]),fun b=>by simp only[Ent.sub,Ent.reg,h0]⟩
 |rblk ty l=>
  obtain⟨b,fr,h1,h3,h4⟩:=h
  refine⟨⟨b,fr,h0.symm.trans h1,by rw[hl l hs hg];exact h3,okl l hi h4⟩,rfl,(fun b=>by simp only[Ent.sub,Ent.foot,h0]),fun b=>by simp only[Ent.sub,Ent.reg]⟩
 |lit e n l=>
  obtain⟨b,h1,h2,h3,h4,h5⟩:=h
  refine⟨⟨b,h0.symm.trans h1,h2,h3,by rw[hl l hs hg];exact h4,okl l hi h5⟩,rfl,(fun b=>by simp only[Ent.sub,Ent.foot,h0]),fun b=>by simp only[Ent.sub,Ent.reg,h0]⟩
 |arena rw' bs D=>
  obtain⟨q1,q2,q3⟩:=h
  rw[h0] at q1
  refine⟨⟨q1,by rw[h0] at q2;exact q2,fun κb hb=> ?_⟩,rfl,(fun b=>by simp only[Ent.sub,Ent.foot,h0]),fun b=>by cases rw'<;>simp only[Ent.sub,Ent.reg,h0]⟩
  obtain⟨κ0,hκ0,rfl⟩:=List.mem_map.1 hb
  have ha:=hg κ0 hκ0
  have hs0:=JaL (hi κ0 hκ0)
  unfold WK Qj at ha
  rw[hs0] at ha
  simp only[Leaf.cells,List.headD_cons] at ha
  rw[←ha,←h0]
  exact q3 κ0 hκ0
 |apt κa v=>
  obtain⟨q1,q2⟩:=h
  have ha:=hg κa (by simp[Ent.keys])
  have hs0:=JaL (hi κa (by simp[Ent.keys]))
  unfold WK Qj at ha
  rw[hs0] at ha
  simp only[Leaf.cells,List.headD_cons] at ha
  exact⟨⟨by rw[←h0,←ha];exact q1,by rw[←ha];exact q2⟩,rfl,(fun b=>Iff.rfl),fun b=>Iff.rfl⟩
 |ptn κa v=>
  obtain⟨q1,q2,q3⟩:=h
  have ha:=hg κa (by simp[Ent.keys])
  have hs0:=JaL (hi κa (by simp[Ent.keys]))
  unfold WK Qj at ha
  rw[hs0] at ha
  simp only[Leaf.cells,List.headD_cons] at ha
  exact⟨⟨by rw[←h0,←ha];exact q1,by rw[←ha];exact q2,by rw[←h0];exact q3⟩,rfl,(fun b=>Iff.rfl),fun b=>Iff.rfl⟩
 |wv κa v=>
  obtain⟨q1,q2⟩:=h
  have ha:=hg κa (by simp[Ent.keys])
  have hs0:=JaL (hi κa (by simp[Ent.keys]))
  unfold WK Qj at ha
  rw[hs0] at ha
  simp only[Leaf.cells,List.headD_cons] at ha
  exact⟨⟨by rw[←ha];exact q1,by rw[←h0,←ha];exact q2⟩,rfl,(fun b=>Iff.rfl),fun b=>Iff.rfl⟩
 |dead=>exact⟨trivial,rfl,(fun b=>Iff.rfl),fun b=>Iff.rfl⟩
 |_=>exact⟨by simp only[Ent.sub,Ent.at,h0] at*;exact h,rfl,(fun b=>by simp only[Ent.sub,Ent.foot,h0]),fun b=>by simp only[Ent.sub,Ent.reg,h0]⟩
theorem JkE (e:Ent):e.keysL=e.keys:=by
 have:=JdM (.e e)
 simpa[Cont.keysL,Cont.keys] using this
theorem JmI {x:SV} (h:x.ok) (hi:∀κ∈x.keys,YV (Jv m κ)=true):(x.sub m).ok:=by
 have one:∀x:Leaf,x.ok→(∀κ∈x.keys,YV (Jv m κ)=true)→(x.sub m).ok∧(x.lone→(x.sub m).lone):=fun x h hk=>by
  cases x with
  |slc κ=>
   have:=hk κ (by simp[Leaf.keys])
   simp only[Leaf.sub]
   cases hx:Jv m κ<;>first|exact⟨trivial,fun _=>trivial⟩|(rw [hx] at this;cases this)
  |ptr κ o|pe κ b n i|per κ s i o|view κ b n lo hi|clo _ κ=>
   have h':=hk κ (by simp[Leaf.keys])
   simp only[Leaf.sub]
   cases hx:Jv m κ<;>first|exact⟨h,fun _=>trivial⟩|(rw [hx] at h';cases h')
  |_=>exact⟨h,id⟩
 have v1:∀x:V1,x.ok→(∀κ∈x.keys,YV (Jv m κ)=true)→(x.sub m).ok:=fun x h hk=>by
  cases x with
  |one x=>exact⟨(one x h.1 (by simpa[V1.keys,Jbz] using hk)).1,(one x h.1 (by simpa[V1.keys,Jbz] using hk)).2 h.2⟩
  |agg l=>
   intro y hy
   obtain⟨x,hx,rfl⟩:=List.mem_map.1 hy
   exact(one x (h x hx) fun κ hκ=>hk κ (by simp only[V1.keys,List.mem_flatMap];exact⟨x,hx,by rwa [Jbz]⟩)).1
 cases x with
 |v x=>exact v1 x h hi
 |tup l=>
  intro y hy
  obtain⟨x,hx,rfl⟩:=List.mem_map.1 hy
  exact v1 x (h x hx) fun κ hκ=>hi κ (by simp only[SV.keys,List.mem_flatMap];exact⟨x,hx,hκ⟩)
theorem CallOk.tr {f:Nat} {args args1:List SV} {pre pre1 news news1:List (Nat×Ent)} {res res1:SV} (h:CallOk P f args pre res news) (m:List (Nat×Leaf))
  (ha:args.map (SV.sub m)=args1) (hao:(args.all (SV.subOk m))=true) (hp:FitL (Jb4 pre1) m pre) (hd:Qn (Jb4 pre1) m pre=true) (ht:Jnd m res pre news pre1=true)
  (hr:res.sub m=res1) (hn:news.map (fun p=>(Ws (Jv m p.1),p.2.sub m))=news1):CallOk P f args1 pre1 res1 news1:=by
 subst ha;subst hr;subst hn
 intro B γ w h1 hap hok htop hc1
 simp only[Jnd,Bool.and_eq_true] at ht
 obtain⟨⟨⟨⟨hlone,hnews⟩,hres⟩,hcont⟩,hrs⟩:=ht
 have lone:∀p∈m,p.2.lone:=fun p hp=>JcJ (List.all_eq_true.1 hlone p hp)
 have Hok:∀κ e,Jb4 pre1 κ=some e→e.at B γ w κ:=fun κ e h=>h1 (κ,e) (Qm h)
 have Hap:∀κ e κ' e',Jb4 pre1 κ=some e→Jb4 pre1 κ'=some e'→κ≠κ'→e.mut=true→∀b,e.reg γ w κ b→¬e'.foot γ w κ' b:=fun κ e κ' e' g1 g2 g3 g4=>hap (κ,e) (Qm g1) (κ',e') (Qm g2) g3 g4
 have ag:∀κ,WK m γ (Qj m γ) κ:=fun κ=>rfl
 have e0:(args.map (SV.den (Qj m γ)))=(args.map (SV.sub m)).map (SV.den γ):=by
  rw[List.map_map]
  exact List.map_congr_left fun x hx=>(Jik (List.all_eq_true.1 hao x hx) fun κ _=>ag κ).symm
 have hcall:=h B (Qj m γ) w (fun p hpp=>FitE.sound Hok (hp.mem p hpp) (ag p.1) fun κ' _=>ag κ') (Jd2 Hok Hap hp (fun p _=>ag p.1) hd)
  (fun x hx=>JhI (hok (x.sub m) (by simp only[List.mem_map];exact⟨x,hx,rfl⟩)) (List.all_eq_true.1 hao x hx)) htop (Jf2 hc1 lone)
 rw[e0] at hcall
 unfold RunOk at hcall ⊢
 have nm:∀p∈news,∃κ',Jv m p.1= .slc κ':=fun p hp=>by
  have:=List.all_eq_true.1 hnews p hp
  simp only[Bool.and_eq_true] at this
  have:=this.1
  cases hx:Jv m p.1<;>first|exact⟨_,rfl⟩|(rw [hx] at this;cases this)
 have fresh:∀p∈news,(∀q∈pre,q.1≠p.1)→(∀q∈pre1,q.1≠Ws (Jv m p.1))∧(∀q∈pre,Ws (Jv m p.1)∉(Jv m q.1).keys)∧∀q∈news,Ws (Jv m q.1)=Ws (Jv m p.1)→q.1=p.1:=fun p hp hnp=>by
  have:=List.all_eq_true.1 hnews p hp
  simp only[Bool.and_eq_true,Bool.or_eq_true] at this
  rcases this.2 with h|⟨⟨h2,h3⟩,h4⟩
  ·obtain⟨q,hq,hqe⟩:=XH.1 h
   exact absurd hqe (hnp q hq)
  ·refine⟨fun q hq he=> ?_,fun q hq hk=> ?_,fun q hq he=> ?_⟩
   ·rw[XH.2 ⟨q,hq,he⟩] at h2;cases h2
   ·have:=List.all_eq_true.1 h3 q hq
    have hany:(Jv m q.1).keys.any (Nat.beq (Ws (Jv m p.1)))=true:=Jcv.2 hk
    rw[hany] at this;cases this
   ·have:=List.all_eq_true.1 h4 q hq
    simp only[Bool.or_eq_true] at this
    rcases this with h|h
    ·exact Nat.eq_of_beq_eq_true h
    ·rw[he,Nat.beq_refl] at h;cases h
 have fin:∀v w',(∃γ':Nat→Value,(∀κ,(∀p∈news,p.1=κ→∃q∈pre,q.1=κ)→γ' κ=Qj m γ κ)∧(∀κ,(γ' κ).oneCell'=true)∧v=res.den γ'∧res.ok∧BelowX (Touch (Qj m γ) w pre news) w w'∧
    (∀p∈news,p.2.at (Touch (Qj m γ) w pre news) γ' w' p.1∧∀b,p.2.foot γ' w' p.1 b→Touch (Qj m γ) w pre news b)∧YQ γ' w' news)→
   ∃γ':Nat→Value,(∀κ,(∀p∈news.map (fun p=>(Ws (Jv m p.1),p.2.sub m)),p.1=κ→∃q∈pre1,q.1=κ)→γ' κ=γ κ)∧(∀κ,(γ' κ).oneCell'=true)∧v=(res.sub m).den γ'∧(res.sub m).ok∧
    BelowX (Touch γ w pre1 (news.map fun p=>(Ws (Jv m p.1),p.2.sub m))) w w'∧
    (∀p∈news.map (fun p=>(Ws (Jv m p.1),p.2.sub m)),p.2.at (Touch γ w pre1 (news.map fun p=>(Ws (Jv m p.1),p.2.sub m))) γ' w' p.1∧∀b,p.2.foot γ' w' p.1 b→Touch γ w pre1 (news.map fun p=>(Ws (Jv m p.1),p.2.sub m)) b)∧
    YQ γ' w' (news.map fun p=>(Ws (Jv m p.1),p.2.sub m)):=by
  rintro v w' ⟨γ',g1,g2,g3,g4,g5,g6,g7⟩
  classical
  let isNew:Nat→Prop:=fun κ'=>∃p∈news,(∀q∈pre,q.1≠p.1)∧Ws (Jv m p.1)=κ'
  let γ1:Nat→Value:=fun κ'=>if h:isNew κ' then γ' (Classical.choose h).1 else γ κ'
  have γ1_new:∀p∈news,(∀q∈pre,q.1≠p.1)→γ1 (Ws (Jv m p.1))=γ' p.1:=fun p hp hnp=>by
   have hN:isNew (Ws (Jv m p.1)):=⟨p,hp,hnp,rfl⟩
   have hc:=Classical.choose_spec hN
   have:(Classical.choose hN).1=p.1:=(fresh p hp hnp).2.2 _ hc.1 hc.2.2
   show (if h:isNew (Ws (Jv m p.1)) then γ' (Classical.choose h).1 else _)=_
   rw[dif_pos hN,this]
  have γ1_old:∀κ',¬isNew κ'→γ1 κ'=γ κ':=fun κ' h=>dif_neg h
  have keyslc:∀{κ κ':Nat},Jv m κ= .slc κ'→Ws (Jv m κ)=κ':=fun h=>by rw[h];rfl
  have agr:∀κ,YV (Jv m κ)=true→(Jb2 news κ=true∨Jb2 pre κ=true)→γ' κ=γ1 (Ws (Jv m κ)):=fun κ hi hk=>by
   by_cases hpre:Jb2 pre κ=true
   ·obtain⟨q,hq,hqe⟩:=XH.1 hpre
    obtain⟨κ',hκ'⟩:∃κ',Jv m κ= .slc κ':=by cases hx:Jv m κ<;>first|exact⟨_,rfl⟩|(rw [hx] at hi;cases hi)
    have hn:¬isNew (Ws (Jv m κ)):=by
     rintro ⟨p,hp,hnp,he⟩
     refine(fresh p hp hnp).2.1 q hq ?_
     have he':Ws (Jv m p.1)=κ':=by rw[he,hκ'];rfl
     rw[hqe,hκ',he']
     simp[Leaf.keys]
    rw[γ1_old _ hn,g1 κ fun p hp he=>⟨q,hq,hqe⟩,Qj,hκ']
    rfl
   ·rcases hk with hk|hk
    ·obtain⟨p,hp,rfl⟩:=XH.1 hk
     exact(γ1_new p hp fun q hq he=>hpre (XH.2 ⟨q,hq,he⟩)).symm
    ·exact absurd hk hpre
  have agree:∀κ,YV (Jv m κ)=true→(Jb2 news κ=true∨Jb2 pre κ=true)→WK m γ1 γ' κ:=fun κ hi hk=>by
   obtain⟨κ',hκ'⟩:∃κ',Jv m κ= .slc κ':=by cases hx:Jv m κ<;>first|exact⟨_,rfl⟩|(rw [hx] at hi;cases hi)
   have:=agr κ hi hk
   unfold WK Qj
   rw[this,hκ']
   rfl
  have isl:∀p∈news,YV (Jv m p.1)=true:=fun p hp=>by obtain⟨κ',h⟩:=nm p hp;rw[h];rfl
  have tch:∀b,Touch (Qj m γ) w pre news b→Touch γ w pre1 (news.map fun p=>(Ws (Jv m p.1),p.2.sub m)) b:=by
   rintro b (h|⟨p,hpp,hm,⟨q,hq,hqe⟩,hb⟩)
   ·exact .inl h
   ·obtain⟨κ',e',k1,k2,k3,k4⟩:=FitE.foot Hok (hp.mem p hpp) (ag p.1) (Ent.reg_foot hb)
    refine .inr ⟨(κ',e'),Qm k1,(k4 hm).1,⟨(Ws (Jv m q.1),q.2.sub m),by simp only[List.mem_map];exact⟨q,hq,rfl⟩,?_⟩,(k4 hm).2.2.2 hb⟩
    obtain⟨κ2,hκ2⟩:=nm q hq
    have k5:=(k4 hm).2.1
    rw[hqe] at hκ2 ⊢
    rw[hκ2] at k5 ⊢
    simpa[Leaf.keys,Ws] using k5
  have ents:∀p∈news,(p.2.sub m).at (Touch (Qj m γ) w pre news) γ1 w' (Ws (Jv m p.1))∧(p.2.sub m).mut=p.2.mut∧(∀b,(p.2.sub m).foot γ1 w' (Ws (Jv m p.1)) b↔p.2.foot γ' w' p.1 b)∧∀b,(p.2.sub m).reg γ1 w' (Ws (Jv m p.1)) b↔p.2.reg γ' w' p.1 b:=fun p hp=>by
   have hc:=List.all_eq_true.1 hcont p hp
   simp only[Bool.and_eq_true] at hc
   have hks:∀κ∈p.2.keys,YV (Jv m κ)=true∧(Jb2 news κ=true∨Jb2 pre κ=true):=fun κ hκ=>by
    have:=List.all_eq_true.1 hc.2 κ (by rw[JkE];exact hκ)
    simpa using this
   exact Jl3 (g6 p hp).1 (agr p.1 (isl p hp) (.inl (XH.2 ⟨p,hp,rfl⟩))) hc.1 (fun κ hκ=>agree κ (hks κ hκ).1 (hks κ hκ).2) fun κ hκ=>(hks κ hκ).1
  refine⟨γ1,fun κ hκ=>γ1_old κ ?_,fun κ=> ?_,?_,?_,g5.mono fun b _ h=>tch b h,?_,?_⟩
  ·rintro ⟨p,hp,hnp,he⟩
   obtain⟨q,hq,hqe⟩:=hκ (Ws (Jv m p.1),p.2.sub m) (by simp only[List.mem_map];exact⟨p,hp,rfl⟩) he
   exact(fresh p hp hnp).1 q hq (hqe.trans he.symm)
  ·by_cases hN:isNew κ
   ·show (if h:isNew κ then γ' (Classical.choose h).1 else γ κ).oneCell'=true
    rw[dif_pos hN]
    exact g2 _
   ·rw[γ1_old κ hN];exact hc1 κ
  ·rw[g3]
   refine(Jik hrs fun κ hκ=> ?_).symm
   have:=List.all_eq_true.1 hres κ hκ
   simp only[Bool.and_eq_true,Bool.or_eq_true] at this
   exact agree κ this.1 this.2
  ·refine JmI g4 fun κ hκ=> ?_
   have:=List.all_eq_true.1 hres κ hκ
   simp only[Bool.and_eq_true] at this
   exact this.1
  ·intro p1 hp1
   obtain⟨p,hp,rfl⟩:=List.mem_map.1 hp1
   obtain⟨a1,a2,a3,_⟩:=ents p hp
   exact⟨Ent.at_mono tch a1,fun b hb=>tch b ((g6 p hp).2 b ((a3 b).1 hb))⟩
  ·intro p1 hp1 q1 hq1 hne hm b hb hf
   obtain⟨p,hp,rfl⟩:=List.mem_map.1 hp1
   obtain⟨q,hq,rfl⟩:=List.mem_map.1 hq1
   obtain⟨a1,a2,a3,a4⟩:=ents p hp
   obtain⟨b1,b2,b3,_⟩:=ents q hq
   exact g7 p hp q hq (fun e=>hne (by simp only[e])) (a2▸hm) b ((a4 b).1 hb) ((b3 b).1 hf)
 generalize (callFunc f ((args.map (SV.sub m)).map (SV.den γ)).toArray).run P w=r at hcall ⊢
 cases r with
 | ok x w'=>
  cases x<;>first
   |exact fin _ _ hcall
   |exact Calls.mono hcall fun e w'' ⟨v,k1,k2⟩=>⟨v,k1,fin _ _ k2⟩
   |exact hcall
 |halt x w'=>exact hcall
theorem CallOk.tr1 {P:Program} {f:Nat} {args:List SV} {pre news:List (Nat×Ent)} {res:SV} (h:CallOk P f args pre res news) (m:List (Nat×Leaf)) (pre1:List (Nat×Ent)) (hp:FitL (Jb4 pre1) m pre)
  (hao:(args.all (SV.subOk m))=true:=by kernel_rfl) (hd:Qn (Jb4 pre1) m pre=true:=by kernel_rfl) (ht:Jnd m res pre news pre1=true:=by kernel_rfl):
  CallOk P f (args.map (SV.sub m)) pre1 (res.sub m) (news.map fun p=>(Ws (Jv m p.1),p.2.sub m)):=h.tr m rfl hao hp hd ht rfl rfl
end Go.Gw
