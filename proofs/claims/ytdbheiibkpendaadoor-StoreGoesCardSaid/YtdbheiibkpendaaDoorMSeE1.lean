/- Errors of a store: what wrap, number and errors.Is hand back, out of the code (errors.Is and errors.As walked at such errors, after the kit's worked examples Sentry and Toyas). -/
import Derived.Test.YtdbheiibkpendaaDoorSeA
import Derived.LaidEql
import Derived.Stop.Asserts
import Derived.Lib.IfaceEq
import Derived.RowKitTokens
import Derived.WalkKit
import Derived.Below
import Derived.Test.YtdbheiibkpendaaDoorSeG1
import Derived.Test.YtdbheiibkpendaaDoorGwI
import Derived.MapKept
import Derived.Shelf.Slices.Reverse
import Derived.Sort.OwnSortedInts
namespace Go.Proofs
open Go.RowKit Go.Extern.Stop Go.Stop Go.Extern
theorem Tryd.eTypeOf24 (v:Value) (w:World):(ReflectliteType.typeOf #[.iface 24 v]).run Tryd.prog w= .ok (.iface 125 (.agg #[.pointer (some ⟨1,24,none⟩)])) w:=by kernel_rfl
theorem Tryd.eTypeOf97 (v:Value) (w:World):(ReflectliteType.typeOf #[.iface 97 v]).run Tryd.prog w= .ok (.iface 125 (.agg #[.pointer (some ⟨1,97,none⟩)])) w:=by kernel_rfl
theorem Tryd.eComparable24 (w:World):((ReflectliteType.method fun t=>do Rtype.noPackHeld "Comparable" t;pure (.bool (←typeInfo t).comparable)) #[.agg #[.pointer (some ⟨1,24,none⟩)]]).run Tryd.prog w= .ok (.bool true) w:=by kernel_rfl
theorem Tryd.eMethodComparable (v:Value) (w:World):(Go.method 290 125 v "Comparable").run Tryd.prog w= .ok (117,v) w:=by kernel_rfl
theorem Tryd.eComp24:(Tryd.prog.info? 24).map (·.comparable)=some true:=by kernel_rfl
theorem Tryd.eNoIs97 (v:Value) (xT:TypeId) (w:World):(Instr.typeAssert (.iface 97 v) xT 127 true).run Tryd.prog w= .ok (.tuple #[.nilIface,.bool false]) w:=run_typeAssert_lacksB Tryd.underlying127 (by kernel_rfl) (by kernel_rfl) v xT w
theorem Tryd.eNoIs24 (v:Value) (xT:TypeId) (w:World):(Instr.typeAssert (.iface 24 v) xT 127 true).run Tryd.prog w= .ok (.tuple #[.nilIface,.bool false]) w:=run_typeAssert_lacksB Tryd.underlying127 (by kernel_rfl) (by kernel_rfl) v xT w
theorem Tryd.eNoAs97 (v:Value) (xT:TypeId) (w:World):(Instr.typeAssert (.iface 97 v) xT 136 true).run Tryd.prog w= .ok (.tuple #[.nilIface,.bool false]) w:=run_typeAssert_lacksB Tryd.underlying136 (by kernel_rfl) (by kernel_rfl) v xT w
theorem Tryd.eUnwrap97 (v:Value) (xT:TypeId) (w:World):(Instr.typeAssert (.iface 97 v) xT 130 true).run Tryd.prog w= .ok (.tuple #[.iface 97 v,.bool true]) w:=run_typeAssert_hasB Tryd.underlying130 (by kernel_rfl) v xT w
theorem Tryd.eNoUnwrap24 (v:Value) (xT:TypeId) (w:World):(Instr.typeAssert (.iface 24 v) xT 130 true).run Tryd.prog w= .ok (.tuple #[.nilIface,.bool false]) w:=run_typeAssert_lacksB Tryd.underlying130 (by kernel_rfl) (by kernel_rfl) v xT w
theorem Tryd.eNoUnwraps24 (v:Value) (xT:TypeId) (w:World):(Instr.typeAssert (.iface 24 v) xT 131 true).run Tryd.prog w= .ok (.tuple #[.nilIface,.bool false]) w:=run_typeAssert_lacksB Tryd.underlying131 (by kernel_rfl) (by kernel_rfl) v xT w
theorem Tryd.eMethodUnwrap (v:Value) (w:World):(Go.method 290 97 v "Unwrap").run Tryd.prog w= .ok (111,v) w:=by kernel_rfl
theorem Tryd.is_nil (m:Int) (w:World):Calls Tryd.prog 46 #[.nilIface,.iface 24 (.int .i64 m)] w fun e w'=>e= .returned (.bool false)∧w'=w:=by
 have hn:=run_eql_iface_nil_left (P:=Tryd.prog) w 24 (.int .i64 m) Tryd.underlying65
 go_enter Tryd.func46,Tryd.ntmps46
 go_wp2
 go_ret
 exact⟨rfl,rfl⟩
theorem Tryd.is_wrap (b:Nat) (n m:Int) (w:World) (h1:w.cell? ⟨b,2,none⟩=some (.iface 24 (.int .i64 n))):
  Calls Tryd.prog 46 #[.iface 97 (.pointer (some ⟨b,0,none⟩)),.iface 24 (.int .i64 m)] w fun e w'=>e= .returned (.bool (n==m))∧w'=w:=by
 have h8:= @run_callFunc_extern Tryd.prog 57 _ ReflectliteType.typeOf Tryd.func57 (by kernel_rfl) (by kernel_rfl) (by kernel_rfl) (by kernel_rfl)
 have h32:= @run_callFunc_extern Tryd.prog 117 _ (ReflectliteType.method fun t=>do Rtype.noPackHeld "Comparable" t;pure (.bool (←typeInfo t).comparable)) Tryd.func117 (by kernel_rfl) (by kernel_rfl) (by kernel_rfl) (by kernel_rfl)
 have tT:=Tryd.eTypeOf24
 have cT:=Tryd.eComparable24
 generalize (ReflectliteType.method fun t=>do Rtype.noPackHeld "Comparable" t;pure (.bool (←typeInfo t).comparable))=MC at h32 cT
 have mR:=Tryd.eMethodComparable
 have nW:=Tryd.eNoIs97
 have nE:=Tryd.eNoIs24
 have uW:=Tryd.eUnwrap97
 have uE:=Tryd.eNoUnwrap24
 have vE:=Tryd.eNoUnwraps24
 have mU:=Tryd.eMethodUnwrap
 have heq:=Lib.run_eql_iface_int (P:=Tryd.prog) w (k:= .i64) n m Tryd.underlying65 Tryd.eComp24 Tryd.underlying24
 have hty:=run_eql_iface_types (P:=Tryd.prog) 97 24 (.pointer (some ⟨b,0,none⟩)) (.int .i64 m) Tryd.underlying65 (by decide) w
 by_cases hnm:n=m
 ·subst hnm
  simp only[beq_self_eq_true] at heq ⊢
  go_enter Tryd.func46,Tryd.ntmps46
  go_wp2
  refine wp_loop_rounds 2 ?_
  rw[rounds_succ]
  go_wp2
  rw[rounds_succ]
  go_wp2
  go_ret
  exact⟨rfl,rfl⟩
 ·have hb:(n==m)=false:=by simp[hnm]
  rw[hb] at heq ⊢
  go_enter Tryd.func46,Tryd.ntmps46
  go_wp2
  refine wp_loop_rounds 2 ?_
  rw[rounds_succ]
  go_wp2
  rw[rounds_succ]
  go_wp2
  go_ret
  exact⟨rfl,rfl⟩
theorem Tryd.wrap_nil (s:ByteArray) (f:Int) (w:World):Calls Tryd.prog 32 #[.string s,.int .i64 f,.int .i64 0] w fun e w'=>e= .returned .nilIface∧w'=w:=by
 go_enter Tryd.func32,Tryd.ntmps32
 go_wp2
 go_ret
 exact⟨rfl,rfl⟩
theorem Tryd.wrap_err (s:ByteArray) (f n:Int) (w:World) (hn:n≠0):Calls Tryd.prog 32 #[.string s,.int .i64 f,.int .i64 n] w fun e w'=>
  e= .returned (.iface 97 (.pointer (some ⟨w.heap.size,0,none⟩)))∧w'=w.alloc (.cells #[.string s,.int .i64 f,.iface 24 (.int .i64 n)] 99):=by
 have hb:(n==0)=false:=by simp[hn]
 go_enter Tryd.func32,Tryd.ntmps32
 go_wp2
 go_ret
 exact⟨rfl,rfl⟩
end Go.Proofs
/- The number of a store's error: errors.As walked at such errors, after the kit's worked example Toyas. -/
namespace Go.Proofs
open Go.RowKit Go.Extern.Stop Go.Stop Go.Extern
theorem Tryd.aValueOf94 (t:Addr) (w:World):(ReflectliteValue.unpack (.iface 94 (.pointer (some t)))).run Tryd.prog w
  = .ok (.agg #[.pointer (some ⟨1,94,none⟩),.pointer (some ⟨w.heap.size,0,none⟩),.int .u64 150]) (w.alloc (.cells #[.pointer (some t)] 94)):=by kernel_rfl
theorem Tryd.aType94 (a:Addr) (w:World):(ReflectliteValue.methodAny (ReflectliteValue.valueError "reflectlite.Value.Type" 0) (fun t _ _ _=>ReflectliteType.toType t) #[.agg #[.pointer (some ⟨1,94,none⟩),.pointer (some a),.int .u64 150]]).run Tryd.prog w
  = .ok (.iface 125 (.agg #[.pointer (some ⟨1,94,none⟩)])) w:=by kernel_rfl
theorem Tryd.aMethodKind (h:Value) (w:World):(Go.method 290 125 (.agg #[h]) "Kind").run Tryd.prog w= .ok (106,h) w:=by kernel_rfl
theorem Tryd.aKind94 (w:World):((ReflectliteType.abiMethod fun t=>(fun a:Nat=>Value.int IntKind.u8 (a:Int))<$>Rtype.kind t) #[.pointer (some ⟨1,94,none⟩)]).run Tryd.prog w= .ok (.int .u8 22) w:=by kernel_rfl
theorem Tryd.aKind24 (w:World):((ReflectliteType.abiMethod fun t=>(fun a:Nat=>Value.int IntKind.u8 (a:Int))<$>Rtype.kind t) #[.pointer (some ⟨1,24,none⟩)]).run Tryd.prog w= .ok (.int .u8 2) w:=by kernel_rfl
theorem Tryd.rlm (z:Sem Value) (f:TypeId→Addr→Nat→Nat→Sem Value) (v:Value):
  ReflectliteValue.method z f #[v]=(do match ←ReflectliteValue.parts v with|none=>z|some (t,a,fl)=>f t a fl (fl%32)):=rfl
theorem Tryd.aParts94 (a:Addr) (w:World):(ReflectliteValue.parts (.agg #[.pointer (some ⟨1,94,none⟩),.pointer (some a),.int .u64 150])).run Tryd.prog w= .ok (some (94,a,150)) w:=by kernel_rfl
theorem Tryd.aIsNil94 (a p:Addr) (W:World) (ha:W.cell? a=some (.pointer (some p))):
  (ReflectliteValue.method (ReflectliteValue.valueError "reflectlite.Value.IsNil" 0) ReflectliteValue.isNil #[.agg #[.pointer (some ⟨1,94,none⟩),.pointer (some a),.int .u64 150]]).run Tryd.prog W= .ok (.bool false) W:=by
 rw[Tryd.rlm]
 simp only[Sem.run_bind,Tryd.aParts94,Result.andThen]
 simp[ReflectliteValue.isNil,loadVar,isAgg,underlying,Tryd.underlying94,ha,Result.andThen]
theorem Tryd.aMethodElem (h:Value) (w:World):(Go.method 290 125 (.agg #[h]) "Elem").run Tryd.prog w= .ok (118,.agg #[h]) w:=by kernel_rfl
theorem Tryd.aMethodImplements (h:Value) (w:World):(Go.method 290 125 (.agg #[h]) "Implements").run Tryd.prog w= .ok (119,.agg #[h]) w:=by kernel_rfl
theorem Tryd.aMethodAssignableTo (h:Value) (w:World):(Go.method 290 125 (.agg #[h]) "AssignableTo").run Tryd.prog w= .ok (116,.agg #[h]) w:=by kernel_rfl
theorem Tryd.aElem94 (w:World):(ReflectliteType.method ReflectliteType.elem #[.agg #[.pointer (some ⟨1,94,none⟩)]]).run Tryd.prog w= .ok (.iface 125 (.agg #[.pointer (some ⟨1,24,none⟩)])) w:=by kernel_rfl
theorem Tryd.aImplements24 (w:World):(ReflectliteType.relation "Implements" ReflectliteType.implements_ #[.agg #[.pointer (some ⟨1,24,none⟩)],.iface 125 (.agg #[.pointer (some ⟨1,65,none⟩)])]).run Tryd.prog w= .ok (.bool true) w:=by kernel_rfl
theorem Tryd.aAssignable24 (w:World):(ReflectliteType.relation "AssignableTo" ReflectliteType.assignableTo #[.agg #[.pointer (some ⟨1,24,none⟩)],.iface 125 (.agg #[.pointer (some ⟨1,24,none⟩)])]).run Tryd.prog w= .ok (.bool true) w:=by kernel_rfl
theorem Tryd.aAssignable97 (w:World):(ReflectliteType.relation "AssignableTo" ReflectliteType.assignableTo #[.agg #[.pointer (some ⟨1,97,none⟩)],.iface 125 (.agg #[.pointer (some ⟨1,24,none⟩)])]).run Tryd.prog w= .ok (.bool false) w:=by kernel_rfl
theorem Tryd.aValueOf24 (n:Int) (w:World):(ReflectliteValue.unpack (.iface 24 (.int .i64 n))).run Tryd.prog w
  = .ok (.agg #[.pointer (some ⟨1,24,none⟩),.pointer (some ⟨w.heap.size,0,none⟩),.int .u64 130]) (w.alloc (.cells #[.int .i64 n] 24)):=by kernel_rfl
theorem Tryd.aElemOf94 (w:World):(Rtype.elem? 94).run Tryd.prog w= .ok (some 24) w:=by kernel_rfl
theorem Tryd.aMk24 (p:Addr) (w:World):(ReflectliteValue.mk 24 p ReflectliteValue.flagAddr).run Tryd.prog w= .ok (.agg #[.pointer (some ⟨1,24,none⟩),.pointer (some p),.int .u64 386]) w:=by kernel_rfl
theorem Tryd.aElemV94 (a p:Addr) (W:World) (ha:W.cell? a=some (.pointer (some p))):
  (ReflectliteValue.method (ReflectliteValue.valueError "reflectlite.Value.Elem" 0) ReflectliteValue.elem #[.agg #[.pointer (some ⟨1,94,none⟩),.pointer (some a),.int .u64 150]]).run Tryd.prog W
   = .ok (.agg #[.pointer (some ⟨1,24,none⟩),.pointer (some p),.int .u64 386]) W:=by
 rw[Tryd.rlm]
 simp only[Sem.run_bind,Tryd.aParts94,Result.andThen]
 simp[ReflectliteValue.elem,loadVar,isAgg,underlying,Tryd.underlying94,ha,Result.andThen,Tryd.aElemOf94,Tryd.aMk24]
theorem Tryd.rls (v x:Value):ReflectliteValue.set #[v,x]=(do
  let (some (dst,a,fl),some (src,b,_)):=(←ReflectliteValue.parts v,←ReflectliteValue.parts x)
   |unsupported (.noEntry "extern/(internal/reflectlite.Value).Set.zeroValue")
  if fl/ReflectliteValue.flagAddr%2==0 then unsupported (.noEntry "extern/(internal/reflectlite.Value).Set.unaddressable")
  let val ←loadVar src b
  if←Rtype.directlyAssignable dst src then storeVar dst a val
  else if←Rtype.implements dst src then
   if(←Rtype.kind src)==20 then
    match val with
    | .nilIface=>unsupported (.noEntry "extern/reflectlite: a nil value of one interface type handed on as a value of another")
    |_=>storeVar dst a val
   else storeVar dst a (.iface src val)
  else panicString ("reflectlite.Set: value of type "++(←Rtype.spelt src)++ " is not assignable to type "++(←Rtype.spelt dst))
  pure (.tuple #[])):=rfl
theorem Tryd.aParts24a (a:Addr) (w:World):(ReflectliteValue.parts (.agg #[.pointer (some ⟨1,24,none⟩),.pointer (some a),.int .u64 386])).run Tryd.prog w= .ok (some (24,a,386)) w:=by kernel_rfl
theorem Tryd.aParts24 (a:Addr) (w:World):(ReflectliteValue.parts (.agg #[.pointer (some ⟨1,24,none⟩),.pointer (some a),.int .u64 130])).run Tryd.prog w= .ok (some (24,a,130)) w:=by kernel_rfl
theorem Tryd.aDirect24 (w:World):(Rtype.directlyAssignable 24 24).run Tryd.prog w= .ok true w:=by kernel_rfl
theorem Tryd.aSet24 (ta b:Addr) (n:Int) (old:Value) (W:World) (hb:W.cell? b=some (.int .i64 n)) (ht:W.cell? ta=some old) (hf:W.frozen? ta=false):
  (ReflectliteValue.set #[.agg #[.pointer (some ⟨1,24,none⟩),.pointer (some ta),.int .u64 386],.agg #[.pointer (some ⟨1,24,none⟩),.pointer (some b),.int .u64 130]]).run Tryd.prog W
   = .ok (.tuple #[]) (W.setCell ta (.int .i64 n)):=by
 rw[Tryd.rls]
 simp only[Sem.run_bind,Tryd.aParts24a,Tryd.aParts24,Result.andThen]
 simp[ReflectliteValue.flagAddr,loadVar,isAgg,underlying,Tryd.underlying24,hb,Result.andThen,Tryd.aDirect24,storeVar,Value.cells,storeCells,Addr.add]
 rw[run_store Tryd.prog W ta _ _ (by rfl)]
 simp[ht,hf]
theorem Tryd.as_nil (t:Value) (w:World):
  Calls Tryd.prog 49 #[.nilIface,t] w fun e w'=>e= .returned (.bool false)∧w'=w:=by
 go_enter Tryd.func49,Tryd.ntmps49
 go_wp2
 go_ret
 exact⟨rfl,rfl⟩
end Go.Proofs
/- The number of a store's error. -/
namespace Go.Proofs
open Go.RowKit Go.Extern.Stop Go.Stop Go.Extern
set_option maxHeartbeats 4000000 in
theorem Tryd.as_hit (b:Nat) (n:Int) (t:Addr) (old:Value) (w:World) (h1:w.cell? ⟨b,2,none⟩=some (.iface 24 (.int .i64 n)))
  (hg:w.cell? ⟨0,0,none⟩=some (.iface 125 (.agg #[.pointer (some ⟨1,65,none⟩)]))) (ht0:w.cell? t=some old) (hf0:w.frozen? t=false):
  Calls Tryd.prog 49 #[.iface 97 (.pointer (some ⟨b,0,none⟩)),.iface 94 (.pointer (some t))] w fun ev w'=>ev= .returned (.bool true)∧w'=((((w.alloc (.cells #[.pointer (some t)] 94)).alloc (.cells #[.pointer (some ⟨1,94,none⟩),.pointer (some ⟨w.heap.size,0,none⟩),.int .u64 150] 114)).alloc (.cells #[.pointer (some ⟨1,94,none⟩),.pointer (some ⟨w.heap.size,0,none⟩),.int .u64 150] 114)).alloc (.cells #[.int .i64 n] 24)).setCell t (.int .i64 n):=by
 have h6:= @run_callFunc_extern Tryd.prog 63 _ (fun args=>ReflectliteValue.unpack (args.getD 0 (.tuple #[]))) Tryd.func63 (by kernel_rfl) (by kernel_rfl) (by kernel_rfl) (by kernel_rfl)
 have h7:= @run_callFunc_extern Tryd.prog 64 _ (ReflectliteValue.methodAny (ReflectliteValue.valueError "reflectlite.Value.Type" 0) (fun t _ _ _=>ReflectliteType.toType t)) Tryd.func64 (by kernel_rfl) (by kernel_rfl) (by kernel_rfl) (by kernel_rfl)
 have h8:= @run_callFunc_extern Tryd.prog 65 _ (ReflectliteValue.method (ReflectliteValue.valueError "reflectlite.Value.IsNil" 0) ReflectliteValue.isNil) Tryd.func65 (by kernel_rfl) (by kernel_rfl) (by kernel_rfl) (by kernel_rfl)
 have h27:= @run_callFunc_extern Tryd.prog 106 _ (ReflectliteType.abiMethod fun t=>do pure (.int .u8 (←Rtype.kind t))) Tryd.func106 (by kernel_rfl) (by kernel_rfl) (by kernel_rfl) (by kernel_rfl)
 have h37:= @run_callFunc_extern Tryd.prog 118 _ (ReflectliteType.method ReflectliteType.elem) Tryd.func118 (by kernel_rfl) (by kernel_rfl) (by kernel_rfl) (by kernel_rfl)
 have h38:= @run_callFunc_extern Tryd.prog 119 _ (ReflectliteType.relation "Implements" ReflectliteType.implements_) Tryd.func119 (by kernel_rfl) (by kernel_rfl) (by kernel_rfl) (by kernel_rfl)
 have h10:= @run_callFunc_extern Tryd.prog 57 _ ReflectliteType.typeOf Tryd.func57 (by kernel_rfl) (by kernel_rfl) (by kernel_rfl) (by kernel_rfl)
 have h35:= @run_callFunc_extern Tryd.prog 116 _ (ReflectliteType.relation "AssignableTo" ReflectliteType.assignableTo) Tryd.func116 (by kernel_rfl) (by kernel_rfl) (by kernel_rfl) (by kernel_rfl)
 have h11:= @run_callFunc_extern Tryd.prog 71 _ (ReflectliteValue.method (ReflectliteValue.valueError "reflectlite.Value.Elem" 0) ReflectliteValue.elem) Tryd.func71 (by kernel_rfl) (by kernel_rfl) (by kernel_rfl) (by kernel_rfl)
 have h12:= @run_callFunc_extern Tryd.prog 72 _ ReflectliteValue.set Tryd.func72 (by kernel_rfl) (by kernel_rfl) (by kernel_rfl) (by kernel_rfl)
 have tO:=Tryd.eTypeOf24
 have tW:=Tryd.eTypeOf97
 have nA:=Tryd.eNoAs97
 have uW:=Tryd.eUnwrap97
 have mU:=Tryd.eMethodUnwrap
 have mA:=Tryd.aMethodAssignableTo
 have a25:=Tryd.aAssignable24
 have a97:=Tryd.aAssignable97
 have v25:=Tryd.aValueOf24
 have f6:=Tryd.aValueOf94
 have f7:=Tryd.aType94
 have mK:=Tryd.aMethodKind
 have mE:=Tryd.aMethodElem
 have mI:=Tryd.aMethodImplements
 have k27:=Tryd.aKind94
 have k25:=Tryd.aKind24
 have e27:=Tryd.aElem94
 have i25:=Tryd.aImplements24
 have n8:=Tryd.aIsNil94 ⟨w.heap.size,0,none⟩ t ((w.alloc (.cells #[.pointer (some t)] 94)).alloc (.cells #[.pointer (some ⟨1,94,none⟩),.pointer (some ⟨w.heap.size,0,none⟩),.int .u64 150] 114)) (by simp)
 have lt:∀{q:Addr} {v:Value},w.cell? q=some v→q.block<w.heap.size:=fun {q v} hq=>by
  rcases Nat.lt_or_ge q.block w.heap.size with h|h
  ·exact h
  ·simp[World.cell?,Array.getElem?_eq_none h] at hq
 have hlt:0<w.heap.size:=lt hg
 have hbl:b<w.heap.size:=lt h1
 have htl:t.block<w.heap.size:=lt ht0
 have hg2:((w.alloc (.cells #[.pointer (some t)] 94)).alloc (.cells #[.pointer (some ⟨1,94,none⟩),.pointer (some ⟨w.heap.size,0,none⟩),.int .u64 150] 114)).cell? ⟨0,0,none⟩=some (.iface 125 (.agg #[.pointer (some ⟨1,65,none⟩)])):=by
  rw[World.cell?_alloc_lt _ _ ⟨0,0,none⟩ (by simp),World.cell?_alloc_lt _ _ ⟨0,0,none⟩ hlt];exact hg
 have hb2:(((w.alloc (.cells #[.pointer (some t)] 94)).alloc (.cells #[.pointer (some ⟨1,94,none⟩),.pointer (some ⟨w.heap.size,0,none⟩),.int .u64 150] 114)).alloc (.cells #[.pointer (some ⟨1,94,none⟩),.pointer (some ⟨w.heap.size,0,none⟩),.int .u64 150] 114)).cell? ⟨b,2,none⟩=some (.iface 24 (.int .i64 n)):=by
  rw[World.cell?_alloc_lt _ _ ⟨b,2,none⟩ (by simp;omega),World.cell?_alloc_lt _ _ ⟨b,2,none⟩ (by simp;omega),World.cell?_alloc_lt _ _ ⟨b,2,none⟩ hbl];exact h1
 have el:=Tryd.aElemV94 ⟨w.heap.size,0,none⟩ t (((w.alloc (.cells #[.pointer (some t)] 94)).alloc (.cells #[.pointer (some ⟨1,94,none⟩),.pointer (some ⟨w.heap.size,0,none⟩),.int .u64 150] 114)).alloc (.cells #[.pointer (some ⟨1,94,none⟩),.pointer (some ⟨w.heap.size,0,none⟩),.int .u64 150] 114)) (by rw[World.cell?_alloc_lt _ _ ⟨w.heap.size,0,none⟩ (by simp;omega)];simp)
 have st:=Tryd.aSet24 t ⟨w.heap.size+1+1+1,0,none⟩ n old ((((w.alloc (.cells #[.pointer (some t)] 94)).alloc (.cells #[.pointer (some ⟨1,94,none⟩),.pointer (some ⟨w.heap.size,0,none⟩),.int .u64 150] 114)).alloc (.cells #[.pointer (some ⟨1,94,none⟩),.pointer (some ⟨w.heap.size,0,none⟩),.int .u64 150] 114)).alloc (.cells #[.int .i64 n] 24))
  (by rw[World.cell?_alloc_at _ _ _ _ (by simp)];rfl)
  (by rw[World.cell?_alloc_lt _ _ t (by simp;omega),World.cell?_alloc_lt _ _ t (by simp;omega),World.cell?_alloc_lt _ _ t (by simp;omega),World.cell?_alloc_lt _ _ t htl];exact ht0)
  (by rw[World.frozen?_alloc_old _ _ t (by simp;omega),World.frozen?_alloc_old _ _ t (by simp;omega),World.frozen?_alloc_old _ _ t (by simp;omega),World.frozen?_alloc_old _ _ t (Nat.ne_of_lt htl)];exact hf0)
 go_enter Tryd.func49,Tryd.ntmps49
 go_wp2
 refine wp_loop_rounds 2 ?_
 rw[rounds_succ]
 go_wp2
 rw[rounds_succ]
 go_wp2
 go_ret
 exact⟨rfl,rfl⟩
set_option maxHeartbeats 4000000 in
theorem Tryd.number_nil (w:World):Calls Tryd.prog 29 #[.nilIface] w fun e w'=>e= .returned (.int .i64 0)∧Below w.heap.size w w':=by
 go_enter Tryd.func29,Tryd.ntmps29
 go_wp2_with (first|(go_at_call 49;refine(Tryd.as_nil _ _).mono ?_;rintro e w' ⟨rfl,rfl⟩))
 go_ret
 exact⟨rfl,(Below.refl _ w).alloc (Nat.le_refl _) _⟩
set_option maxHeartbeats 4000000 in
theorem Tryd.number_err (b:Nat) (n:Int) (w:World) (h1:w.cell? ⟨b,2,none⟩=some (.iface 24 (.int .i64 n)))
  (hg:w.cell? ⟨0,0,none⟩=some (.iface 125 (.agg #[.pointer (some ⟨1,65,none⟩)]))):
  Calls Tryd.prog 29 #[.iface 97 (.pointer (some ⟨b,0,none⟩))] w fun e w'=>e= .returned (.int .i64 n)∧Below w.heap.size w w':=by
 have lt:∀{q:Addr} {v:Value},w.cell? q=some v→q.block<w.heap.size:=fun {q v} hq=>by
  rcases Nat.lt_or_ge q.block w.heap.size with h|h
  ·exact h
  ·simp[World.cell?,Array.getElem?_eq_none h] at hq
 have hlt:0<w.heap.size:=lt hg
 have hbl:b<w.heap.size:=lt h1
 have hgA:(w.alloc (.cells #[.int .i64 0] 24)).cell? ⟨0,0,none⟩=some (.iface 125 (.agg #[.pointer (some ⟨1,65,none⟩)])):=by
  rw[World.cell?_alloc_lt _ _ ⟨0,0,none⟩ hlt];exact hg
 have hbA:(w.alloc (.cells #[.int .i64 0] 24)).cell? ⟨b,2,none⟩=some (.iface 24 (.int .i64 n)):=by
  rw[World.cell?_alloc_lt _ _ ⟨b,2,none⟩ hbl];exact h1
 have htA:(w.alloc (.cells #[.int .i64 0] 24)).cell? ⟨w.heap.size,0,none⟩=some (.int .i64 0):=by simp
 have hfA:(w.alloc (.cells #[.int .i64 0] 24)).frozen? ⟨w.heap.size,0,none⟩=false:=by simp
 go_enter Tryd.func29,Tryd.ntmps29
 go_wp2_with (first|(go_at_call 49;refine(Tryd.as_hit _ _ _ (.int .i64 0) _ hbA hgA htA hfA).mono ?_;rintro e w' ⟨rfl,rfl⟩))
 go_ret
 have hs:∀{W:World} (o:Obj),w.heap.size≤W.heap.size→w.heap.size≤(W.alloc o).heap.size:=fun {W} o h=>by simp;omega
 have h0:=Nat.le_refl w.heap.size
 exact⟨rfl,(((((Below.refl _ w).alloc h0 _).alloc (hs _ h0) _).alloc (hs _ (hs _ h0)) _).alloc (hs _ (hs _ (hs _ h0))) _).alloc (hs _ (hs _ (hs _ (hs _ h0)))) _⟩
end Go.Proofs
/- Errors: wrap, errors.Is, number, as the engine asks them. -/
namespace Go.Proofs.Se
open Go Go.Gw Go.RowKit Go.Proofs.Se.D
theorem Jkw {B:Nat→Prop} (w:World):BelowX B w w:=⟨rfl,rfl,rfl,Nat.le_refl _,fun _ _ _=>rfl⟩
theorem Jee {γ:Nat→Value} {w w':World} {v:Value} {n:Int} (h1:∀κ,(γ κ).oneCell'=true) (hv:v.oneCell'=true) (hb:Below w.heap.size w w')
  (he:ErrAt (fun b=>w.heap.size≤b) w' v 97 99 24 n):
  ∃ γ':Nat→Value,(∀κ,(∀p∈[(8900,Ent.err 97 99 24 n)],p.1=κ→∃q∈([]:List (Nat×Ent)),q.1=κ)→γ' κ=γ κ)∧(∀κ,(γ' κ).oneCell'=true)∧v=(SV.v (.one (.slc 8900))).den γ'∧(SV.v (.one (.slc 8900))).ok∧
   BelowX (Gw.Touch γ w [] [(8900,Ent.err 97 99 24 n)]) w w'∧
    (∀p∈[(8900,Ent.err 97 99 24 n)],p.2.at (Gw.Touch γ w [] [(8900,Ent.err 97 99 24 n)]) γ' w' p.1∧∀b,p.2.foot γ' w' p.1 b→Gw.Touch γ w [] [(8900,Ent.err 97 99 24 n)] b)∧Qw γ' w' [(8900,Ent.err 97 99 24 n)]:=by
 have hT:∀b,w.heap.size≤b→Gw.Touch γ w [] [(8900,Ent.err 97 99 24 n)] b:=fun b h=> .inl h
 refine⟨fun x=>if x=8900 then v else γ x,fun κ hκ=> ?_,fun κ=> ?_,?_,⟨trivial,trivial⟩,⟨hb.os,hb.tape,hb.output,hb.size,fun k hk _=>hb.block k hk⟩,fun p hp=> ?_,fun p hp q hq hne=> ?_⟩
 ·refine if_neg ?_
  rintro rfl
  obtain⟨q,hq,_⟩:=hκ _ (List.mem_singleton.2 rfl) rfl
  cases hq
 ·show (if κ=8900 then v else γ κ).oneCell'=true
  split
  ·exact hv
  ·exact h1 κ
 ·simp[SV.den,V1.den,Leaf.cells]
 ·rw[List.mem_singleton] at hp
  subst hp
  have he':ErrAt (Gw.Touch γ w [] [(8900,Ent.err 97 99 24 n)]) w' v 97 99 24 n:=ErrAt.mono hT he
  refine⟨by simpa[Ent.at] using he',fun b hb'=> ?_⟩
  simp only[Ent.foot,if_pos] at hb'
  exact(ErrAt.lt he' hb').2
 ·rw[List.mem_singleton] at hp hq
  subst hp;subst hq
  exact absurd rfl hne
theorem VB (s:ByteArray) (f:Int) (e r:Int) (h:JO e=some r):CallOk P 32 [.v (.one (.str s)),.v (.one (.int .i64 f)),.v (.one (.int .i64 e))] [] (.v (.one (.slc 8900))) [(8900,.err 97 99 24 r)]:=by
 obtain rfl:e=r:=Option.some.inj h
 intro B γ w hp hap hok ht h1
 unfold RunOk
 have hargs:([SV.v (.one (.str s)),.v (.one (.int .i64 f)),.v (.one (.int .i64 e))].map (SV.den γ)).toArray= #[.string s,.int .i64 f,.int .i64 e]:=by
  simp[SV.den,V1.den,Leaf.cells]
 rw[Vy Tryd.func32 (by kernel_rfl) rfl,hargs]
 by_cases he:e=0
 ·subst he
  refine(Tryd.wrap_nil s f w).mono ?_
  rintro ev w' ⟨rfl,rfl⟩
  exact⟨_,rfl,Jee h1 rfl (Below.refl _ _) (.inl ⟨rfl,rfl⟩)⟩
 ·refine(Tryd.wrap_err s f e w he).mono ?_
  rintro ev w' ⟨rfl,rfl⟩
  exact⟨_,rfl,Jee h1 rfl ((Below.refl _ _).alloc (Nat.le_refl _) _) (.inr ⟨he,w.heap.size,s,f,rfl,Nat.le_refl _,(Go.MapKept.heap_alloc w _).1⟩)⟩
theorem JfV {w:World} {b:Nat} {s:ByteArray} {f n:Int} (h:w.heap[b]?=some (.cells #[.string s,.int .i64 f,.iface 24 (.int .i64 n)] 99 (0,0))):w.cell? ⟨b,2,none⟩=some (.iface 24 (.int .i64 n)):=by
 simp[World.cell?,h]
theorem Jew (n m:Int) (r:Bool) (h:YH n m=some r):CallOk P 46 [.v (.one (.slc 9000)),.v (.one (.ifi 24 .i64 m))] [(9000,.err 97 99 24 n)] (.v (.one (.bool r))) []:=by
 have hr:(!(decide (n=0))&&(n==m))=r:=Option.some.inj h
 intro B γ w hp hap hok ht h1
 have he:ErrAt B w (γ 9000) 97 99 24 n:=hp (9000,.err 97 99 24 n) (List.mem_singleton.2 rfl)
 unfold RunOk
 have hargs:([SV.v (.one (.slc 9000)),.v (.one (.ifi 24 .i64 m))].map (SV.den γ)).toArray= #[γ 9000,.iface 24 (.int .i64 m)]:=by
  simp[SV.den,V1.den,Leaf.cells]
 rw[Vy Tryd.func46 (by kernel_rfl) rfl,hargs]
 have fin:∀{ev:Ending} {w':World},ev= .returned (.bool r)∧w'=w→∃v,ev= .returned v∧∃γ':Nat→Value,(∀κ,(∀p∈([]:List (Nat×Ent)),p.1=κ→∃q∈[(9000,Ent.err 97 99 24 n)],q.1=κ)→γ' κ=γ κ)∧(∀κ,(γ' κ).oneCell'=true)∧v=(SV.v (.one (.bool r))).den γ'∧(SV.v (.one (.bool r))).ok∧
   BelowX (Gw.Touch γ w [(9000,Ent.err 97 99 24 n)] []) w w'∧(∀p∈([]:List (Nat×Ent)),p.2.at (Gw.Touch γ w [(9000,Ent.err 97 99 24 n)] []) γ' w' p.1∧∀b,p.2.foot γ' w' p.1 b→Gw.Touch γ w [(9000,Ent.err 97 99 24 n)] [] b)∧Qw γ' w' []:=by
  rintro ev w' ⟨rfl,rfl⟩
  exact⟨_,rfl,γ,fun κ _=>rfl,h1,rfl,⟨trivial,trivial⟩,Jkw _,fun p hp'=>(by cases hp'),fun p hp'=>(by cases hp')⟩
 rcases he with⟨h0,hv⟩|⟨h0,b,s,f,hv,_,hc⟩
 ·rw[hv]
  have:r=false:=by rw[←hr,h0];rfl
  subst this
  exact(Tryd.is_nil m w).mono fun ev w' h=>fin h
 ·rw[hv]
  have:r=(n==m):=by rw[←hr];simp[h0]
  subst this
  exact(Tryd.is_wrap b n m w (JfV hc)).mono fun ev w' h=>fin h
theorem XM (n r:Int) (h:Yn n=some r):CallOk P 29 [.v (.one (.slc 9000))] [(9000,.err 97 99 24 n),(9999,.gv 0 hv)] (.v (.one (.int .i64 r))) []:=by
 obtain rfl:n=r:=Option.some.inj h
 intro B γ w hp hap hok ht h1
 have he:ErrAt B w (γ 9000) 97 99 24 n:=hp (9000,.err 97 99 24 n) (List.mem_cons_self ..)
 have hg:w.cell? ⟨0,0,none⟩=some hv:=hp (9999,.gv 0 hv) (List.mem_cons_of_mem _ (List.mem_singleton.2 rfl))
 unfold RunOk
 have hargs:([SV.v (.one (.slc 9000))].map (SV.den γ)).toArray= #[γ 9000]:=by
  simp[SV.den,V1.den,Leaf.cells]
 rw[Vy Tryd.func29 (by kernel_rfl) rfl,hargs]
 have fin:∀{ev:Ending} {w':World},ev= .returned (.int .i64 n)∧Below w.heap.size w w'→∃v,ev= .returned v∧∃γ':Nat→Value,(∀κ,(∀p∈([]:List (Nat×Ent)),p.1=κ→∃q∈[(9000,Ent.err 97 99 24 n),(9999,.gv 0 hv)],q.1=κ)→γ' κ=γ κ)∧(∀κ,(γ' κ).oneCell'=true)∧v=(SV.v (.one (.int .i64 n))).den γ'∧(SV.v (.one (.int .i64 n))).ok∧
   BelowX (Gw.Touch γ w [(9000,Ent.err 97 99 24 n),(9999,.gv 0 hv)] []) w w'∧(∀p∈([]:List (Nat×Ent)),p.2.at (Gw.Touch γ w [(9000,Ent.err 97 99 24 n),(9999,.gv 0 hv)] []) γ' w' p.1∧∀b,p.2.foot γ' w' p.1 b→Gw.Touch γ w [(9000,Ent.err 97 99 24 n),(9999,.gv 0 hv)] [] b)∧Qw γ' w' []:=by
  rintro ev w' ⟨rfl,g3⟩
  exact⟨_,rfl,γ,fun κ _=>rfl,h1,rfl,⟨trivial,trivial⟩,⟨g3.os,g3.tape,g3.output,g3.size,fun k hk _=>g3.block k hk⟩,fun p hp'=>(by cases hp'),fun p hp'=>(by cases hp')⟩
 rcases he with⟨h0,hv⟩|⟨h0,b,s,f,hv,_,hc⟩
 ·rw[hv]
  subst h0
  exact(Tryd.number_nil w).mono fun ev w' h=>fin h
 ·rw[hv]
  exact(Tryd.number_err b n w (JfV hc) hg).mono fun ev w' h=>fin h
end Go.Proofs.Se
/- slices.Reverse at a slice of the function's own, by the shelf's contract. -/
namespace Go.Proofs
open Go.Shelf
set_option maxRecDepth 100000
def Tryd.rev_ren:Go.Shelf.Ren:=⟨fun|112=>60|n=>n,fun|0=>0|3=>3|4=>4|28=>22|n=>n,fun|n=>n⟩
theorem Tryd.rev:Lays.n112 Tryd.prog Tryd.rev_ren:={
 mixed:=by kernel_rfl
 f112:=Tryd.func60.trans (congrArg some (by kernel_rfl))
 t0:=Tryd.underlying0
 a0:=Tryd.isAgg0
 z0:=Tryd.sizeOf0
 v0:=Tryd.zeroValue0
 t3:=Tryd.underlying3
 a3:=Tryd.isAgg3
 z3:=Tryd.sizeOf3
 v3:=Tryd.zeroValue3
 t4:=Tryd.underlying4
 a4:=Tryd.isAgg4
 z4:=Tryd.sizeOf4
 v4:=Tryd.zeroValue4
 t28:=Tryd.underlying22
 a28:=Tryd.isAgg22
 z28:=Tryd.sizeOf22
 v28:=Tryd.zeroValue22}
end Go.Proofs
namespace Go.Proofs.Se
open Go Go.Gw Go.RowKit Go.Sort Go.Proofs.Se.D
theorem Yw (s r:List Int) (h:VX s=some r):CallOk P 60 [.v (.one (.slc 9000))] [(9000,.own 3 .i64 s)] (.tup []) [(9000,.own 3 .i64 r)]:=by
 obtain rfl:s.reverse=r:=Option.some.inj h
 intro B γ w hp hap hok ht h1
 have hv:w.ownsRow 0 3 1 (γ 9000) s.length (s.map (.int .i64))∧∀b,Jx (γ 9000)=some b→B b:=hp (9000,.own 3 .i64 s) (List.mem_singleton.2 rfl)
 unfold RunOk
 have hargs:([SV.v (.one (.slc 9000))].map (SV.den γ)).toArray= #[γ 9000]:=by simp[SV.den,V1.den,Leaf.cells]
 rw[Vy Tryd.func60 (by kernel_rfl) rfl,hargs]
 have fin:∀{ev:Ending} {w':World},ev= .returned (.tuple #[])→w'.ownsRow 0 3 1 (γ 9000) s.length (s.reverse.map (.int .i64))→BelowX (fun b=>Jx (γ 9000)=some b) w w'→
   ∃v,ev= .returned v∧∃γ':Nat→Value,(∀κ,(∀p∈[(9000,Ent.own 3 .i64 s.reverse)],p.1=κ→∃q∈[(9000,Ent.own 3 .i64 s)],q.1=κ)→γ' κ=γ κ)∧(∀κ,(γ' κ).oneCell'=true)∧v=(SV.tup []).den γ'∧(SV.tup []).ok∧
    BelowX (Gw.Touch γ w [(9000,Ent.own 3 .i64 s)] [(9000,Ent.own 3 .i64 s.reverse)]) w w'∧
    (∀p∈[(9000,Ent.own 3 .i64 s.reverse)],p.2.at (Gw.Touch γ w [(9000,Ent.own 3 .i64 s)] [(9000,Ent.own 3 .i64 s.reverse)]) γ' w' p.1∧∀b,p.2.foot γ' w' p.1 b→Gw.Touch γ w [(9000,Ent.own 3 .i64 s)] [(9000,Ent.own 3 .i64 s.reverse)] b)∧Qw γ' w' [(9000,Ent.own 3 .i64 s.reverse)]:=by
  intro ev w' he ho hb
  have hT:∀b,Jx (γ 9000)=some b→Gw.Touch γ w [(9000,Ent.own 3 .i64 s)] [(9000,Ent.own 3 .i64 s.reverse)] b:=fun b hb=> .inr ⟨_,List.mem_singleton.2 rfl,rfl,⟨_,List.mem_singleton.2 rfl,rfl⟩,hb⟩
  refine⟨_,he,γ,fun κ _=>rfl,h1,rfl,fun x hx=>(by cases hx),⟨hb.os,hb.tape,hb.output,hb.size,fun k hk hn=>hb.block k hk fun q=>hn (hT k q)⟩,fun p hp=> ?_,fun p hp q hq hne=> ?_⟩
  ·rw[List.mem_singleton] at hp
   subst hp
   exact⟨⟨by rw[List.length_reverse];exact ho,hT⟩,hT⟩
  ·rw[List.mem_singleton] at hp hq
   subst hp;subst hq
   exact absurd rfl hne
 rcases hv.1.2 with⟨h0,hn⟩|⟨g,cap,cur,h0,_,hg,hnc,hcm,hcs,htk⟩
 ·have hs:s=[]:=List.length_eq_zero_iff.1 hn
  rw[h0]
  refine(Any.slices_Reverse_int_empty Tryd.rev none 0 w).mono ?_
  rintro ev w' ⟨rfl,rfl⟩
  refine fin rfl ?_ ⟨rfl,rfl,rfl,Nat.le_refl _,fun _ _ _=>rfl⟩
  rw[h0,hs]
  exact⟨rfl,.inl ⟨rfl,rfl⟩⟩
 ·rw[h0]
  have htk':cur.toList.take s.length=s.map (Value.int .i64):=by rw[←htk,Nat.mul_one]
  refine(Any.slices_Reverse_int Tryd.rev g 0 cap s w (holds_of_blockI hg htk') (by simp only[maxLen] at hcm;omega)).mono ?_
  rintro ev w' ⟨rfl,n,rfl⟩
  have gr:∀W:World,grow W #[]=W:=fun W=>by simp[grow]
  have ho:=ownsRow_sortedI (base:=0) (n:=n) (os:= #[]) (ts:=s.reverse) List.length_reverse (Nat.zero_le g) hg hnc hcm hcs
  have hb:=grownBy_sortedI (w:=w) (g:=g) (n:=n) (os:= #[]) s.reverse.toArray
  rw[gr] at ho hb
  refine fin rfl (by rw[h0];exact ho) ⟨hb.os,hb.tape,hb.output,hb.size,fun k hk hn=>hb.block k hk fun q=>hn (by rw[h0];simp only[Jx];exact q.symm)⟩
end Go.Proofs.Se
