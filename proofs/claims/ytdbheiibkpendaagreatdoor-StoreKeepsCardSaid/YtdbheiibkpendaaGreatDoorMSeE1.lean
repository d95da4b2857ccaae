/- Errors of a store: what wrap, number and errors.Is hand back, out of the code (errors.Is and errors.As walked at such errors, after the kit's worked examples Sentry and Toyas). -/
import Derived.Test.YtdbheiibkpendaaGreatDoorSeA
import Derived.LaidEql
import Derived.Stop.Asserts
import Derived.Lib.IfaceEq
import Derived.RowKitTokens
import Derived.WalkKit
import Derived.Below
import Derived.Test.YtdbheiibkpendaaGreatDoorSeG1
import Derived.Test.YtdbheiibkpendaaGreatDoorGwI
import Derived.MapKept
import Derived.Shelf.Slices.Reverse
import Derived.Sort.OwnSortedInts
import Derived.Test.YtdbheiibkpendaaGreatDoorSeG2
import Derived.Shelf.SlicesE.Clone
import Derived.Shelf.SlicesE.DeleteFunc
namespace Go.Proofs
open Go.RowKit Go.Extern.Stop Go.Stop Go.Extern
theorem Tryz.eTypeOf24 (v:Value) (w:World):(ReflectliteType.typeOf #[.iface 26 v]).run Tryz.prog w= .ok (.iface 153 (.agg #[.pointer (some ⟨1,26,none⟩)])) w:=by kernel_rfl
theorem Tryz.eTypeOf97 (v:Value) (w:World):(ReflectliteType.typeOf #[.iface 124 v]).run Tryz.prog w= .ok (.iface 153 (.agg #[.pointer (some ⟨1,124,none⟩)])) w:=by kernel_rfl
theorem Tryz.eComparable24 (w:World):((ReflectliteType.method fun t=>do Rtype.noPackHeld "Comparable" t;pure (.bool (←typeInfo t).comparable)) #[.agg #[.pointer (some ⟨1,26,none⟩)]]).run Tryz.prog w= .ok (.bool true) w:=by kernel_rfl
theorem Tryz.eMethodComparable (v:Value) (w:World):(Go.method 318 153 v "Comparable").run Tryz.prog w= .ok (145,v) w:=by kernel_rfl
theorem Tryz.eComp24:(Tryz.prog.info? 26).map (·.comparable)=some true:=by kernel_rfl
theorem Tryz.eNoIs97 (v:Value) (xT:TypeId) (w:World):(Instr.typeAssert (.iface 124 v) xT 155 true).run Tryz.prog w= .ok (.tuple #[.nilIface,.bool false]) w:=run_typeAssert_lacksB Tryz.underlying155 (by kernel_rfl) (by kernel_rfl) v xT w
theorem Tryz.eNoIs24 (v:Value) (xT:TypeId) (w:World):(Instr.typeAssert (.iface 26 v) xT 155 true).run Tryz.prog w= .ok (.tuple #[.nilIface,.bool false]) w:=run_typeAssert_lacksB Tryz.underlying155 (by kernel_rfl) (by kernel_rfl) v xT w
theorem Tryz.eNoAs97 (v:Value) (xT:TypeId) (w:World):(Instr.typeAssert (.iface 124 v) xT 164 true).run Tryz.prog w= .ok (.tuple #[.nilIface,.bool false]) w:=run_typeAssert_lacksB Tryz.underlying164 (by kernel_rfl) (by kernel_rfl) v xT w
theorem Tryz.eUnwrap97 (v:Value) (xT:TypeId) (w:World):(Instr.typeAssert (.iface 124 v) xT 158 true).run Tryz.prog w= .ok (.tuple #[.iface 124 v,.bool true]) w:=run_typeAssert_hasB Tryz.underlying158 (by kernel_rfl) v xT w
theorem Tryz.eNoUnwrap24 (v:Value) (xT:TypeId) (w:World):(Instr.typeAssert (.iface 26 v) xT 158 true).run Tryz.prog w= .ok (.tuple #[.nilIface,.bool false]) w:=run_typeAssert_lacksB Tryz.underlying158 (by kernel_rfl) (by kernel_rfl) v xT w
theorem Tryz.eNoUnwraps24 (v:Value) (xT:TypeId) (w:World):(Instr.typeAssert (.iface 26 v) xT 159 true).run Tryz.prog w= .ok (.tuple #[.nilIface,.bool false]) w:=run_typeAssert_lacksB Tryz.underlying159 (by kernel_rfl) (by kernel_rfl) v xT w
theorem Tryz.eMethodUnwrap (v:Value) (w:World):(Go.method 318 124 v "Unwrap").run Tryz.prog w= .ok (139,v) w:=by kernel_rfl
theorem Tryz.is_nil (m:Int) (w:World):Calls Tryz.prog 74 #[.nilIface,.iface 26 (.int .i64 m)] w fun e w'=>e= .returned (.bool false)∧w'=w:=by
 have hn:=run_eql_iface_nil_left (P:=Tryz.prog) w 26 (.int .i64 m) Tryz.underlying78
 go_enter Tryz.func74,Tryz.ntmps74
 go_wp2
 go_ret
 exact⟨rfl,rfl⟩
theorem Tryz.is_wrap (b:Nat) (n m:Int) (w:World) (h1:w.cell? ⟨b,2,none⟩=some (.iface 26 (.int .i64 n))):
  Calls Tryz.prog 74 #[.iface 124 (.pointer (some ⟨b,0,none⟩)),.iface 26 (.int .i64 m)] w fun e w'=>e= .returned (.bool (n==m))∧w'=w:=by
 have h8:= @run_callFunc_extern Tryz.prog 88 _ ReflectliteType.typeOf Tryz.func88 (by kernel_rfl) (by kernel_rfl) (by kernel_rfl) (by kernel_rfl)
 have h32:= @run_callFunc_extern Tryz.prog 145 _ (ReflectliteType.method fun t=>do Rtype.noPackHeld "Comparable" t;pure (.bool (←typeInfo t).comparable)) Tryz.func145 (by kernel_rfl) (by kernel_rfl) (by kernel_rfl) (by kernel_rfl)
 have tT:=Tryz.eTypeOf24
 have cT:=Tryz.eComparable24
 generalize (ReflectliteType.method fun t=>do Rtype.noPackHeld "Comparable" t;pure (.bool (←typeInfo t).comparable))=MC at h32 cT
 have mR:=Tryz.eMethodComparable
 have nW:=Tryz.eNoIs97
 have nE:=Tryz.eNoIs24
 have uW:=Tryz.eUnwrap97
 have uE:=Tryz.eNoUnwrap24
 have vE:=Tryz.eNoUnwraps24
 have mU:=Tryz.eMethodUnwrap
 have heq:=Lib.run_eql_iface_int (P:=Tryz.prog) w (k:= .i64) n m Tryz.underlying78 Tryz.eComp24 Tryz.underlying26
 have hty:=run_eql_iface_types (P:=Tryz.prog) 124 26 (.pointer (some ⟨b,0,none⟩)) (.int .i64 m) Tryz.underlying78 (by decide) w
 by_cases hnm:n=m
 ·subst hnm
  simp only[beq_self_eq_true] at heq ⊢
  go_enter Tryz.func74,Tryz.ntmps74
  go_wp2
  refine wp_loop_rounds 2 ?_
  rw[rounds_succ]
  go_wp2
  rw[rounds_succ]
  go_wp2
  go_ret
  exact⟨rfl,rfl⟩
 ·have hb:(n==m)=false:=by simp[hnm]
  rw[hb] at heq ⊢
  go_enter Tryz.func74,Tryz.ntmps74
  go_wp2
  refine wp_loop_rounds 2 ?_
  rw[rounds_succ]
  go_wp2
  rw[rounds_succ]
  go_wp2
  go_ret
  exact⟨rfl,rfl⟩
theorem Tryz.wrap_nil (s:ByteArray) (f:Int) (w:World):Calls Tryz.prog 47 #[.string s,.int .i64 f,.int .i64 0] w fun e w'=>e= .returned .nilIface∧w'=w:=by
 go_enter Tryz.func47,Tryz.ntmps47
 go_wp2
 go_ret
 exact⟨rfl,rfl⟩
theorem Tryz.wrap_err (s:ByteArray) (f n:Int) (w:World) (hn:n≠0):Calls Tryz.prog 47 #[.string s,.int .i64 f,.int .i64 n] w fun e w'=>
  e= .returned (.iface 124 (.pointer (some ⟨w.heap.size,0,none⟩)))∧w'=w.alloc (.cells #[.string s,.int .i64 f,.iface 26 (.int .i64 n)] 126):=by
 have hb:(n==0)=false:=by simp[hn]
 go_enter Tryz.func47,Tryz.ntmps47
 go_wp2
 go_ret
 exact⟨rfl,rfl⟩
end Go.Proofs
/- The number of a store's error: errors.As walked at such errors, after the kit's worked example Toyas. -/
namespace Go.Proofs
open Go.RowKit Go.Extern.Stop Go.Stop Go.Extern
theorem Tryz.aValueOf94 (t:Addr) (w:World):(ReflectliteValue.unpack (.iface 123 (.pointer (some t)))).run Tryz.prog w
  = .ok (.agg #[.pointer (some ⟨1,123,none⟩),.pointer (some ⟨w.heap.size,0,none⟩),.int .u64 150]) (w.alloc (.cells #[.pointer (some t)] 123)):=by kernel_rfl
theorem Tryz.aType94 (a:Addr) (w:World):(ReflectliteValue.methodAny (ReflectliteValue.valueError "reflectlite.Value.Type" 0) (fun t _ _ _=>ReflectliteType.toType t) #[.agg #[.pointer (some ⟨1,123,none⟩),.pointer (some a),.int .u64 150]]).run Tryz.prog w
  = .ok (.iface 153 (.agg #[.pointer (some ⟨1,123,none⟩)])) w:=by kernel_rfl
theorem Tryz.aMethodKind (h:Value) (w:World):(Go.method 318 153 (.agg #[h]) "Kind").run Tryz.prog w= .ok (134,h) w:=by kernel_rfl
theorem Tryz.aKind94 (w:World):((ReflectliteType.abiMethod fun t=>(fun a:Nat=>Value.int IntKind.u8 (a:Int))<$>Rtype.kind t) #[.pointer (some ⟨1,123,none⟩)]).run Tryz.prog w= .ok (.int .u8 22) w:=by kernel_rfl
theorem Tryz.aKind24 (w:World):((ReflectliteType.abiMethod fun t=>(fun a:Nat=>Value.int IntKind.u8 (a:Int))<$>Rtype.kind t) #[.pointer (some ⟨1,26,none⟩)]).run Tryz.prog w= .ok (.int .u8 2) w:=by kernel_rfl
theorem Tryz.rlm (z:Sem Value) (f:TypeId→Addr→Nat→Nat→Sem Value) (v:Value):
  ReflectliteValue.method z f #[v]=(do match ←ReflectliteValue.parts v with|none=>z|some (t,a,fl)=>f t a fl (fl%32)):=rfl
theorem Tryz.aParts94 (a:Addr) (w:World):(ReflectliteValue.parts (.agg #[.pointer (some ⟨1,123,none⟩),.pointer (some a),.int .u64 150])).run Tryz.prog w= .ok (some (123,a,150)) w:=by kernel_rfl
theorem Tryz.aIsNil94 (a p:Addr) (W:World) (ha:W.cell? a=some (.pointer (some p))):
  (ReflectliteValue.method (ReflectliteValue.valueError "reflectlite.Value.IsNil" 0) ReflectliteValue.isNil #[.agg #[.pointer (some ⟨1,123,none⟩),.pointer (some a),.int .u64 150]]).run Tryz.prog W= .ok (.bool false) W:=by
 rw[Tryz.rlm]
 simp only[Sem.run_bind,Tryz.aParts94,Result.andThen]
 simp[ReflectliteValue.isNil,loadVar,isAgg,underlying,Tryz.underlying123,ha,Result.andThen]
theorem Tryz.aMethodElem (h:Value) (w:World):(Go.method 318 153 (.agg #[h]) "Elem").run Tryz.prog w= .ok (146,.agg #[h]) w:=by kernel_rfl
theorem Tryz.aMethodImplements (h:Value) (w:World):(Go.method 318 153 (.agg #[h]) "Implements").run Tryz.prog w= .ok (147,.agg #[h]) w:=by kernel_rfl
theorem Tryz.aMethodAssignableTo (h:Value) (w:World):(Go.method 318 153 (.agg #[h]) "AssignableTo").run Tryz.prog w= .ok (144,.agg #[h]) w:=by kernel_rfl
theorem Tryz.aElem94 (w:World):(ReflectliteType.method ReflectliteType.elem #[.agg #[.pointer (some ⟨1,123,none⟩)]]).run Tryz.prog w= .ok (.iface 153 (.agg #[.pointer (some ⟨1,26,none⟩)])) w:=by kernel_rfl
theorem Tryz.aImplements24 (w:World):(ReflectliteType.relation "Implements" ReflectliteType.implements_ #[.agg #[.pointer (some ⟨1,26,none⟩)],.iface 153 (.agg #[.pointer (some ⟨1,78,none⟩)])]).run Tryz.prog w= .ok (.bool true) w:=by kernel_rfl
theorem Tryz.aAssignable24 (w:World):(ReflectliteType.relation "AssignableTo" ReflectliteType.assignableTo #[.agg #[.pointer (some ⟨1,26,none⟩)],.iface 153 (.agg #[.pointer (some ⟨1,26,none⟩)])]).run Tryz.prog w= .ok (.bool true) w:=by kernel_rfl
theorem Tryz.aAssignable97 (w:World):(ReflectliteType.relation "AssignableTo" ReflectliteType.assignableTo #[.agg #[.pointer (some ⟨1,124,none⟩)],.iface 153 (.agg #[.pointer (some ⟨1,26,none⟩)])]).run Tryz.prog w= .ok (.bool false) w:=by kernel_rfl
theorem Tryz.aValueOf24 (n:Int) (w:World):(ReflectliteValue.unpack (.iface 26 (.int .i64 n))).run Tryz.prog w
  = .ok (.agg #[.pointer (some ⟨1,26,none⟩),.pointer (some ⟨w.heap.size,0,none⟩),.int .u64 130]) (w.alloc (.cells #[.int .i64 n] 26)):=by kernel_rfl
theorem Tryz.aElemOf94 (w:World):(Rtype.elem? 123).run Tryz.prog w= .ok (some 26) w:=by kernel_rfl
theorem Tryz.aMk24 (p:Addr) (w:World):(ReflectliteValue.mk 26 p ReflectliteValue.flagAddr).run Tryz.prog w= .ok (.agg #[.pointer (some ⟨1,26,none⟩),.pointer (some p),.int .u64 386]) w:=by kernel_rfl
theorem Tryz.aElemV94 (a p:Addr) (W:World) (ha:W.cell? a=some (.pointer (some p))):
  (ReflectliteValue.method (ReflectliteValue.valueError "reflectlite.Value.Elem" 0) ReflectliteValue.elem #[.agg #[.pointer (some ⟨1,123,none⟩),.pointer (some a),.int .u64 150]]).run Tryz.prog W
   = .ok (.agg #[.pointer (some ⟨1,26,none⟩),.pointer (some p),.int .u64 386]) W:=by
 rw[Tryz.rlm]
 simp only[Sem.run_bind,Tryz.aParts94,Result.andThen]
 simp[ReflectliteValue.elem,loadVar,isAgg,underlying,Tryz.underlying123,ha,Result.andThen,Tryz.aElemOf94,Tryz.aMk24]
theorem Tryz.rls (v x:Value):ReflectliteValue.set #[v,x]=(do
  let (some (dst,a,fl),some (src,b,_)):=(←ReflectliteValue.parts v,←ReflectliteValue.parts x)
   |unsupported (.noEntry "extern/(internal/reflectlite.Value).Set.zeroValue")
  if fl/ReflectliteValue.flagAddr%2==0 then unsupported (.noEntry "extern/(internal/reflectlite.Value).Set.unaddressable")
  let val ←loadVar src b
  if←Rtype.directlyAssignable dst src then storeVar dst a val
  else if←Rtype.implements dst src then
   if(←Rtype.kind src)==20 then
    match val with
    | .nilIface=>unsupported (.noEntry "extern/reflectlite: a nil value of one interface type handed on as a value of another")
    |_=>storeVar dst a val
   else storeVar dst a (.iface src val)
  else panicString ("reflectlite.Set: value of type "++(←Rtype.spelt src)++ " is not assignable to type "++(←Rtype.spelt dst))
  pure (.tuple #[])):=rfl
theorem Tryz.aParts24a (a:Addr) (w:World):(ReflectliteValue.parts (.agg #[.pointer (some ⟨1,26,none⟩),.pointer (some a),.int .u64 386])).run Tryz.prog w= .ok (some (26,a,386)) w:=by kernel_rfl
theorem Tryz.aParts24 (a:Addr) (w:World):(ReflectliteValue.parts (.agg #[.pointer (some ⟨1,26,none⟩),.pointer (some a),.int .u64 130])).run Tryz.prog w= .ok (some (26,a,130)) w:=by kernel_rfl
theorem Tryz.aDirect24 (w:World):(Rtype.directlyAssignable 26 26).run Tryz.prog w= .ok true w:=by kernel_rfl
theorem Tryz.aSet24 (ta b:Addr) (n:Int) (old:Value) (W:World) (hb:W.cell? b=some (.int .i64 n)) (ht:W.cell? ta=some old) (hf:W.frozen? ta=false):
  (ReflectliteValue.set #[.agg #[.pointer (some ⟨1,26,none⟩),.pointer (some ta),.int .u64 386],.agg #[.pointer (some ⟨1,26,none⟩),.pointer (some b),.int .u64 130]]).run Tryz.prog W
   = .ok (.tuple #[]) (W.setCell ta (.int .i64 n)):=by
 rw[Tryz.rls]
 simp only[Sem.run_bind,Tryz.aParts24a,Tryz.aParts24,Result.andThen]
 simp[ReflectliteValue.flagAddr,loadVar,isAgg,underlying,Tryz.underlying26,hb,Result.andThen,Tryz.aDirect24,storeVar,Value.cells,storeCells,Addr.add]
 rw[run_store Tryz.prog W ta _ _ (by rfl)]
 simp[ht,hf]
theorem Tryz.as_nil (t:Value) (w:World):
  Calls Tryz.prog 76 #[.nilIface,t] w fun e w'=>e= .returned (.bool false)∧w'=w:=by
 go_enter Tryz.func76,Tryz.ntmps76
 go_wp2
 go_ret
 exact⟨rfl,rfl⟩
end Go.Proofs
/- The number of a store's error. -/
namespace Go.Proofs
open Go.RowKit Go.Extern.Stop Go.Stop Go.Extern
set_option maxHeartbeats 4000000 in
theorem Tryz.as_hit (b:Nat) (n:Int) (t:Addr) (old:Value) (w:World) (h1:w.cell? ⟨b,2,none⟩=some (.iface 26 (.int .i64 n)))
  (hg:w.cell? ⟨0,0,none⟩=some (.iface 153 (.agg #[.pointer (some ⟨1,78,none⟩)]))) (ht0:w.cell? t=some old) (hf0:w.frozen? t=false):
  Calls Tryz.prog 76 #[.iface 124 (.pointer (some ⟨b,0,none⟩)),.iface 123 (.pointer (some t))] w fun ev w'=>ev= .returned (.bool true)∧w'=((((w.alloc (.cells #[.pointer (some t)] 123)).alloc (.cells #[.pointer (some ⟨1,123,none⟩),.pointer (some ⟨w.heap.size,0,none⟩),.int .u64 150] 142)).alloc (.cells #[.pointer (some ⟨1,123,none⟩),.pointer (some ⟨w.heap.size,0,none⟩),.int .u64 150] 142)).alloc (.cells #[.int .i64 n] 26)).setCell t (.int .i64 n):=by
 have h6:= @run_callFunc_extern Tryz.prog 91 _ (fun args=>ReflectliteValue.unpack (args.getD 0 (.tuple #[]))) Tryz.func91 (by kernel_rfl) (by kernel_rfl) (by kernel_rfl) (by kernel_rfl)
 have h7:= @run_callFunc_extern Tryz.prog 92 _ (ReflectliteValue.methodAny (ReflectliteValue.valueError "reflectlite.Value.Type" 0) (fun t _ _ _=>ReflectliteType.toType t)) Tryz.func92 (by kernel_rfl) (by kernel_rfl) (by kernel_rfl) (by kernel_rfl)
 have h8:= @run_callFunc_extern Tryz.prog 93 _ (ReflectliteValue.method (ReflectliteValue.valueError "reflectlite.Value.IsNil" 0) ReflectliteValue.isNil) Tryz.func93 (by kernel_rfl) (by kernel_rfl) (by kernel_rfl) (by kernel_rfl)
 have h27:= @run_callFunc_extern Tryz.prog 134 _ (ReflectliteType.abiMethod fun t=>do pure (.int .u8 (←Rtype.kind t))) Tryz.func134 (by kernel_rfl) (by kernel_rfl) (by kernel_rfl) (by kernel_rfl)
 have h37:= @run_callFunc_extern Tryz.prog 146 _ (ReflectliteType.method ReflectliteType.elem) Tryz.func146 (by kernel_rfl) (by kernel_rfl) (by kernel_rfl) (by kernel_rfl)
 have h38:= @run_callFunc_extern Tryz.prog 147 _ (ReflectliteType.relation "Implements" ReflectliteType.implements_) Tryz.func147 (by kernel_rfl) (by kernel_rfl) (by kernel_rfl) (by kernel_rfl)
 have h10:= @run_callFunc_extern Tryz.prog 88 _ ReflectliteType.typeOf Tryz.func88 (by kernel_rfl) (by kernel_rfl) (by kernel_rfl) (by kernel_rfl)
 have h35:= @run_callFunc_extern Tryz.prog 144 _ (ReflectliteType.relation "AssignableTo" ReflectliteType.assignableTo) Tryz.func144 (by kernel_rfl) (by kernel_rfl) (by kernel_rfl) (by kernel_rfl)
 have h11:= @run_callFunc_extern Tryz.prog 99 _ (ReflectliteValue.method (ReflectliteValue.valueError "reflectlite.Value.Elem" 0) ReflectliteValue.elem) Tryz.func99 (by kernel_rfl) (by kernel_rfl) (by kernel_rfl) (by kernel_rfl)
 have h12:= @run_callFunc_extern Tryz.prog 100 _ ReflectliteValue.set Tryz.func100 (by kernel_rfl) (by kernel_rfl) (by kernel_rfl) (by kernel_rfl)
 have tO:=Tryz.eTypeOf24
 have tW:=Tryz.eTypeOf97
 have nA:=Tryz.eNoAs97
 have uW:=Tryz.eUnwrap97
 have mU:=Tryz.eMethodUnwrap
 have mA:=Tryz.aMethodAssignableTo
 have a25:=Tryz.aAssignable24
 have a97:=Tryz.aAssignable97
 have v25:=Tryz.aValueOf24
 have f6:=Tryz.aValueOf94
 have f7:=Tryz.aType94
 have mK:=Tryz.aMethodKind
 have mE:=Tryz.aMethodElem
 have mI:=Tryz.aMethodImplements
 have k27:=Tryz.aKind94
 have k25:=Tryz.aKind24
 have e27:=Tryz.aElem94
 have i25:=Tryz.aImplements24
 have n8:=Tryz.aIsNil94 ⟨w.heap.size,0,none⟩ t ((w.alloc (.cells #[.pointer (some t)] 123)).alloc (.cells #[.pointer (some ⟨1,123,none⟩),.pointer (some ⟨w.heap.size,0,none⟩),.int .u64 150] 142)) (by simp)
 have lt:∀{q:Addr} {v:Value},w.cell? q=some v→q.block<w.heap.size:=fun {q v} hq=>by
  rcases Nat.lt_or_ge q.block w.heap.size with h|h
  ·exact h
  ·simp[World.cell?,Array.getElem?_eq_none h] at hq
 have hlt:0<w.heap.size:=lt hg
 have hbl:b<w.heap.size:=lt h1
 have htl:t.block<w.heap.size:=lt ht0
 have hg2:((w.alloc (.cells #[.pointer (some t)] 123)).alloc (.cells #[.pointer (some ⟨1,123,none⟩),.pointer (some ⟨w.heap.size,0,none⟩),.int .u64 150] 142)).cell? ⟨0,0,none⟩=some (.iface 153 (.agg #[.pointer (some ⟨1,78,none⟩)])):=by
  rw[World.cell?_alloc_lt _ _ ⟨0,0,none⟩ (by simp),World.cell?_alloc_lt _ _ ⟨0,0,none⟩ hlt];exact hg
 have hb2:(((w.alloc (.cells #[.pointer (some t)] 123)).alloc (.cells #[.pointer (some ⟨1,123,none⟩),.pointer (some ⟨w.heap.size,0,none⟩),.int .u64 150] 142)).alloc (.cells #[.pointer (some ⟨1,123,none⟩),.pointer (some ⟨w.heap.size,0,none⟩),.int .u64 150] 142)).cell? ⟨b,2,none⟩=some (.iface 26 (.int .i64 n)):=by
  rw[World.cell?_alloc_lt _ _ ⟨b,2,none⟩ (by simp;omega),World.cell?_alloc_lt _ _ ⟨b,2,none⟩ (by simp;omega),World.cell?_alloc_lt _ _ ⟨b,2,none⟩ hbl];exact h1
 have el:=Tryz.aElemV94 ⟨w.heap.size,0,none⟩ t (((w.alloc (.cells #[.pointer (some t)] 123)).alloc (.cells #[.pointer (some ⟨1,123,none⟩),.pointer (some ⟨w.heap.size,0,none⟩),.int .u64 150] 142)).alloc (.cells #[.pointer (some ⟨1,123,none⟩),.pointer (some ⟨w.heap.size,0,none⟩),.int .u64 150] 142)) (by rw[World.cell?_alloc_lt _ _ ⟨w.heap.size,0,none⟩ (by simp;omega)];simp)
 have st:=Tryz.aSet24 t ⟨w.heap.size+1+1+1,0,none⟩ n old ((((w.alloc (.cells #[.pointer (some t)] 123)).alloc (.cells #[.pointer (some ⟨1,123,none⟩),.pointer (some ⟨w.heap.size,0,none⟩),.int .u64 150] 142)).alloc (.cells #[.pointer (some ⟨1,123,none⟩),.pointer (some ⟨w.heap.size,0,none⟩),.int .u64 150] 142)).alloc (.cells #[.int .i64 n] 26))
  (by rw[World.cell?_alloc_at _ _ _ _ (by simp)];rfl)
  (by rw[World.cell?_alloc_lt _ _ t (by simp;omega),World.cell?_alloc_lt _ _ t (by simp;omega),World.cell?_alloc_lt _ _ t (by simp;omega),World.cell?_alloc_lt _ _ t htl];exact ht0)
  (by rw[World.frozen?_alloc_old _ _ t (by simp;omega),World.frozen?_alloc_old _ _ t (by simp;omega),World.frozen?_alloc_old _ _ t (by simp;omega),World.frozen?_alloc_old _ _ t (Nat.ne_of_lt htl)];exact hf0)
 go_enter Tryz.func76,Tryz.ntmps76
 go_wp2
 refine wp_loop_rounds 2 ?_
 rw[rounds_succ]
 go_wp2
 rw[rounds_succ]
 go_wp2
 go_ret
 exact⟨rfl,rfl⟩
set_option maxHeartbeats 4000000 in
theorem Tryz.number_nil (w:World):Calls Tryz.prog 45 #[.nilIface] w fun e w'=>e= .returned (.int .i64 0)∧Below w.heap.size w w':=by
 go_enter Tryz.func45,Tryz.ntmps45
 go_wp2_with (first|(go_at_call 76;refine(Tryz.as_nil _ _).mono ?_;rintro e w' ⟨rfl,rfl⟩))
 go_ret
 exact⟨rfl,(Below.refl _ w).alloc (Nat.le_refl _) _⟩
set_option maxHeartbeats 4000000 in
theorem Tryz.number_err (b:Nat) (n:Int) (w:World) (h1:w.cell? ⟨b,2,none⟩=some (.iface 26 (.int .i64 n)))
  (hg:w.cell? ⟨0,0,none⟩=some (.iface 153 (.agg #[.pointer (some ⟨1,78,none⟩)]))):
  Calls Tryz.prog 45 #[.iface 124 (.pointer (some ⟨b,0,none⟩))] w fun e w'=>e= .returned (.int .i64 n)∧Below w.heap.size w w':=by
 have lt:∀{q:Addr} {v:Value},w.cell? q=some v→q.block<w.heap.size:=fun {q v} hq=>by
  rcases Nat.lt_or_ge q.block w.heap.size with h|h
  ·exact h
  ·simp[World.cell?,Array.getElem?_eq_none h] at hq
 have hlt:0<w.heap.size:=lt hg
 have hbl:b<w.heap.size:=lt h1
 have hgA:(w.alloc (.cells #[.int .i64 0] 26)).cell? ⟨0,0,none⟩=some (.iface 153 (.agg #[.pointer (some ⟨1,78,none⟩)])):=by
  rw[World.cell?_alloc_lt _ _ ⟨0,0,none⟩ hlt];exact hg
 have hbA:(w.alloc (.cells #[.int .i64 0] 26)).cell? ⟨b,2,none⟩=some (.iface 26 (.int .i64 n)):=by
  rw[World.cell?_alloc_lt _ _ ⟨b,2,none⟩ hbl];exact h1
 have htA:(w.alloc (.cells #[.int .i64 0] 26)).cell? ⟨w.heap.size,0,none⟩=some (.int .i64 0):=by simp
 have hfA:(w.alloc (.cells #[.int .i64 0] 26)).frozen? ⟨w.heap.size,0,none⟩=false:=by simp
 go_enter Tryz.func45,Tryz.ntmps45
 go_wp2_with (first|(go_at_call 76;refine(Tryz.as_hit _ _ _ (.int .i64 0) _ hbA hgA htA hfA).mono ?_;rintro e w' ⟨rfl,rfl⟩))
 go_ret
 have hs:∀{W:World} (o:Obj),w.heap.size≤W.heap.size→w.heap.size≤(W.alloc o).heap.size:=fun {W} o h=>by simp;omega
 have h0:=Nat.le_refl w.heap.size
 exact⟨rfl,(((((Below.refl _ w).alloc h0 _).alloc (hs _ h0) _).alloc (hs _ (hs _ h0)) _).alloc (hs _ (hs _ (hs _ h0))) _).alloc (hs _ (hs _ (hs _ (hs _ h0)))) _⟩
end Go.Proofs
/- Errors: wrap, errors.Is, number, as the engine asks them. -/
namespace Go.Proofs.Se
open Go Go.Gw Go.RowKit Go.Proofs.Se.D
theorem JkR {B:Nat→Prop} (w:World):BelowX B w w:=⟨rfl,rfl,rfl,Nat.le_refl _,fun _ _ _=>rfl⟩
theorem Jet {γ:Nat→Value} {w w':World} {v:Value} {n:Int} (h1:∀κ,(γ κ).oneCell'=true) (hv:v.oneCell'=true) (hb:Below w.heap.size w w')
  (he:ErrAt (fun b=>w.heap.size≤b) w' v 124 126 26 n):
  ∃ γ':Nat→Value,(∀κ,(∀p∈[(8900,Ent.err 124 126 26 n)],p.1=κ→∃q∈([]:List (Nat×Ent)),q.1=κ)→γ' κ=γ κ)∧(∀κ,(γ' κ).oneCell'=true)∧v=(SV.v (.one (.slc 8900))).den γ'∧(SV.v (.one (.slc 8900))).ok∧
   BelowX (Gw.Touch γ w [] [(8900,Ent.err 124 126 26 n)]) w w'∧
    (∀p∈[(8900,Ent.err 124 126 26 n)],p.2.at (Gw.Touch γ w [] [(8900,Ent.err 124 126 26 n)]) γ' w' p.1∧∀b,p.2.foot γ' w' p.1 b→Gw.Touch γ w [] [(8900,Ent.err 124 126 26 n)] b)∧YQ γ' w' [(8900,Ent.err 124 126 26 n)]:=by
 have hT:∀b,w.heap.size≤b→Gw.Touch γ w [] [(8900,Ent.err 124 126 26 n)] b:=fun b h=> .inl h
 refine⟨fun x=>if x=8900 then v else γ x,fun κ hκ=> ?_,fun κ=> ?_,?_,⟨trivial,trivial⟩,⟨hb.os,hb.tape,hb.output,hb.size,fun k hk _=>hb.block k hk⟩,fun p hp=> ?_,fun p hp q hq hne=> ?_⟩
 ·refine if_neg ?_
  rintro rfl
  obtain⟨q,hq,_⟩:=hκ _ (List.mem_singleton.2 rfl) rfl
  cases hq
 ·show (if κ=8900 then v else γ κ).oneCell'=true
  split
  ·exact hv
  ·exact h1 κ
 ·simp[SV.den,V1.den,Leaf.cells]
 ·rw[List.mem_singleton] at hp
  subst hp
  have he':ErrAt (Gw.Touch γ w [] [(8900,Ent.err 124 126 26 n)]) w' v 124 126 26 n:=ErrAt.mono hT he
  refine⟨by simpa[Ent.at] using he',fun b hb'=> ?_⟩
  simp only[Ent.foot,if_pos] at hb'
  exact(ErrAt.lt he' hb').2
 ·rw[List.mem_singleton] at hp hq
  subst hp;subst hq
  exact absurd rfl hne
theorem VJ (s:ByteArray) (f:Int) (e r:Int) (h:JL e=some r):CallOk P 47 [.v (.one (.str s)),.v (.one (.int .i64 f)),.v (.one (.int .i64 e))] [] (.v (.one (.slc 8900))) [(8900,.err 124 126 26 r)]:=by
 obtain rfl:e=r:=Option.some.inj h
 intro B γ w hp hap hok ht h1
 unfold RunOk
 have hargs:([SV.v (.one (.str s)),.v (.one (.int .i64 f)),.v (.one (.int .i64 e))].map (SV.den γ)).toArray= #[.string s,.int .i64 f,.int .i64 e]:=by
  simp[SV.den,V1.den,Leaf.cells]
 rw[Vf Tryz.func47 (by kernel_rfl) rfl,hargs]
 by_cases he:e=0
 ·subst he
  refine(Tryz.wrap_nil s f w).mono ?_
  rintro ev w' ⟨rfl,rfl⟩
  exact⟨_,rfl,Jet h1 rfl (Below.refl _ _) (.inl ⟨rfl,rfl⟩)⟩
 ·refine(Tryz.wrap_err s f e w he).mono ?_
  rintro ev w' ⟨rfl,rfl⟩
  exact⟨_,rfl,Jet h1 rfl ((Below.refl _ _).alloc (Nat.le_refl _) _) (.inr ⟨he,w.heap.size,s,f,rfl,Nat.le_refl _,(Go.MapKept.heap_alloc w _).1⟩)⟩
theorem JfY {w:World} {b:Nat} {s:ByteArray} {f n:Int} (h:w.heap[b]? =some (.cells #[.string s,.int .i64 f,.iface 26 (.int .i64 n)] 126 (0,0))):w.cell? ⟨b,2,none⟩=some (.iface 26 (.int .i64 n)):=by
 simp[World.cell?,h]
theorem Jep (n m:Int) (r:Bool) (h:YN n m=some r):CallOk P 74 [.v (.one (.slc 9000)),.v (.one (.ifi 26 .i64 m))] [(9000,.err 124 126 26 n)] (.v (.one (.bool r))) []:=by
 have hr:(!(decide (n=0))&&(n==m))=r:=Option.some.inj h
 intro B γ w hp hap hok ht h1
 have he:ErrAt B w (γ 9000) 124 126 26 n:=hp (9000,.err 124 126 26 n) (List.mem_singleton.2 rfl)
 unfold RunOk
 have hargs:([SV.v (.one (.slc 9000)),.v (.one (.ifi 26 .i64 m))].map (SV.den γ)).toArray= #[γ 9000,.iface 26 (.int .i64 m)]:=by
  simp[SV.den,V1.den,Leaf.cells]
 rw[Vf Tryz.func74 (by kernel_rfl) rfl,hargs]
 have fin:∀{ev:Ending} {w':World},ev= .returned (.bool r)∧w'=w→∃v,ev= .returned v∧∃γ':Nat→Value,(∀κ,(∀p∈([]:List (Nat×Ent)),p.1=κ→∃q∈[(9000,Ent.err 124 126 26 n)],q.1=κ)→γ' κ=γ κ)∧(∀κ,(γ' κ).oneCell'=true)∧v=(SV.v (.one (.bool r))).den γ'∧(SV.v (.one (.bool r))).ok∧
   BelowX (Gw.Touch γ w [(9000,Ent.err 124 126 26 n)] []) w w'∧(∀p∈([]:List (Nat×Ent)),p.2.at (Gw.Touch γ w [(9000,Ent.err 124 126 26 n)] []) γ' w' p.1∧∀b,p.2.foot γ' w' p.1 b→Gw.Touch γ w [(9000,Ent.err 124 126 26 n)] [] b)∧YQ γ' w' []:=by
  rintro ev w' ⟨rfl,rfl⟩
  exact⟨_,rfl,γ,fun κ _=>rfl,h1,rfl,⟨trivial,trivial⟩,JkR _,fun p hp'=>(by cases hp'),fun p hp'=>(by cases hp')⟩
 rcases he with⟨h0,hv⟩|⟨h0,b,s,f,hv,_,hc⟩
 ·rw[hv]
  have:r=false:=by rw[←hr,h0];rfl
  subst this
  exact(Tryz.is_nil m w).mono fun ev w' h=>fin h
 ·rw[hv]
  have:r=(n==m):=by rw[←hr];simp[h0]
  subst this
  exact(Tryz.is_wrap b n m w (JfY hc)).mono fun ev w' h=>fin h
theorem Xk (n r:Int) (h:XC n=some r):CallOk P 45 [.v (.one (.slc 9000))] [(9000,.err 124 126 26 n),(9999,.gv 0 hv)] (.v (.one (.int .i64 r))) []:=by
 obtain rfl:n=r:=Option.some.inj h
 intro B γ w hp hap hok ht h1
 have he:ErrAt B w (γ 9000) 124 126 26 n:=hp (9000,.err 124 126 26 n) (List.mem_cons_self ..)
 have hg:w.cell? ⟨0,0,none⟩=some hv:=hp (9999,.gv 0 hv) (List.mem_cons_of_mem _ (List.mem_singleton.2 rfl))
 unfold RunOk
 have hargs:([SV.v (.one (.slc 9000))].map (SV.den γ)).toArray= #[γ 9000]:=by
  simp[SV.den,V1.den,Leaf.cells]
 rw[Vf Tryz.func45 (by kernel_rfl) rfl,hargs]
 have fin:∀{ev:Ending} {w':World},ev= .returned (.int .i64 n)∧Below w.heap.size w w'→∃v,ev= .returned v∧∃γ':Nat→Value,(∀κ,(∀p∈([]:List (Nat×Ent)),p.1=κ→∃q∈[(9000,Ent.err 124 126 26 n),(9999,.gv 0 hv)],q.1=κ)→γ' κ=γ κ)∧(∀κ,(γ' κ).oneCell'=true)∧v=(SV.v (.one (.int .i64 n))).den γ'∧(SV.v (.one (.int .i64 n))).ok∧
   BelowX (Gw.Touch γ w [(9000,Ent.err 124 126 26 n),(9999,.gv 0 hv)] []) w w'∧(∀p∈([]:List (Nat×Ent)),p.2.at (Gw.Touch γ w [(9000,Ent.err 124 126 26 n),(9999,.gv 0 hv)] []) γ' w' p.1∧∀b,p.2.foot γ' w' p.1 b→Gw.Touch γ w [(9000,Ent.err 124 126 26 n),(9999,.gv 0 hv)] [] b)∧YQ γ' w' []:=by
  rintro ev w' ⟨rfl,g3⟩
  exact⟨_,rfl,γ,fun κ _=>rfl,h1,rfl,⟨trivial,trivial⟩,⟨g3.os,g3.tape,g3.output,g3.size,fun k hk _=>g3.block k hk⟩,fun p hp'=>(by cases hp'),fun p hp'=>(by cases hp')⟩
 rcases he with⟨h0,hv⟩|⟨h0,b,s,f,hv,_,hc⟩
 ·rw[hv]
  subst h0
  exact(Tryz.number_nil w).mono fun ev w' h=>fin h
 ·rw[hv]
  exact(Tryz.number_err b n w (JfY hc) hg).mono fun ev w' h=>fin h
end Go.Proofs.Se
/- slices.Reverse at a slice of the function's own, by the shelf's contract. -/
namespace Go.Proofs
open Go.Shelf
set_option maxRecDepth 100000
def Tryz.rev_ren:Go.Shelf.Ren:=⟨fun|112=>81|n=>n,fun|0=>0|3=>3|4=>4|28=>65|n=>n,fun|n=>n⟩
theorem Tryz.rev:Lays.n112 Tryz.prog Tryz.rev_ren:={
 mixed:=by kernel_rfl
 f112:=Tryz.func81.trans (congrArg some (by kernel_rfl))
 t0:=Tryz.underlying0
 a0:=Tryz.isAgg0
 z0:=Tryz.sizeOf0
 v0:=Tryz.zeroValue0
 t3:=Tryz.underlying3
 a3:=Tryz.isAgg3
 z3:=Tryz.sizeOf3
 v3:=Tryz.zeroValue3
 t4:=Tryz.underlying4
 a4:=Tryz.isAgg4
 z4:=Tryz.sizeOf4
 v4:=Tryz.zeroValue4
 t28:=Tryz.underlying65
 a28:=Tryz.isAgg65
 z28:=Tryz.sizeOf65
 v28:=Tryz.zeroValue65}
end Go.Proofs
namespace Go.Proofs.Se
open Go Go.Gw Go.RowKit Go.Sort Go.Proofs.Se.D
theorem Yu (s r:List Int) (h:VC s=some r):CallOk P 81 [.v (.one (.slc 9000))] [(9000,.own 3 .i64 s)] (.tup []) [(9000,.own 3 .i64 r)]:=by
 obtain rfl:s.reverse=r:=Option.some.inj h
 intro B γ w hp hap hok ht h1
 have hv:w.ownsRow 0 3 1 (γ 9000) s.length (s.map (.int .i64))∧∀b,Jw (γ 9000)=some b→B b:=hp (9000,.own 3 .i64 s) (List.mem_singleton.2 rfl)
 unfold RunOk
 have hargs:([SV.v (.one (.slc 9000))].map (SV.den γ)).toArray= #[γ 9000]:=by simp[SV.den,V1.den,Leaf.cells]
 rw[Vf Tryz.func81 (by kernel_rfl) rfl,hargs]
 have fin:∀{ev:Ending} {w':World},ev= .returned (.tuple #[])→w'.ownsRow 0 3 1 (γ 9000) s.length (s.reverse.map (.int .i64))→BelowX (fun b=>Jw (γ 9000)=some b) w w'→
   ∃v,ev= .returned v∧∃γ':Nat→Value,(∀κ,(∀p∈[(9000,Ent.own 3 .i64 s.reverse)],p.1=κ→∃q∈[(9000,Ent.own 3 .i64 s)],q.1=κ)→γ' κ=γ κ)∧(∀κ,(γ' κ).oneCell'=true)∧v=(SV.tup []).den γ'∧(SV.tup []).ok∧
    BelowX (Gw.Touch γ w [(9000,Ent.own 3 .i64 s)] [(9000,Ent.own 3 .i64 s.reverse)]) w w'∧
    (∀p∈[(9000,Ent.own 3 .i64 s.reverse)],p.2.at (Gw.Touch γ w [(9000,Ent.own 3 .i64 s)] [(9000,Ent.own 3 .i64 s.reverse)]) γ' w' p.1∧∀b,p.2.foot γ' w' p.1 b→Gw.Touch γ w [(9000,Ent.own 3 .i64 s)] [(9000,Ent.own 3 .i64 s.reverse)] b)∧YQ γ' w' [(9000,Ent.own 3 .i64 s.reverse)]:=by
  intro ev w' he ho hb
  have hT:∀b,Jw (γ 9000)=some b→Gw.Touch γ w [(9000,Ent.own 3 .i64 s)] [(9000,Ent.own 3 .i64 s.reverse)] b:=fun b hb=> .inr ⟨_,List.mem_singleton.2 rfl,rfl,⟨_,List.mem_singleton.2 rfl,rfl⟩,hb⟩
  refine⟨_,he,γ,fun κ _=>rfl,h1,rfl,fun x hx=>(by cases hx),⟨hb.os,hb.tape,hb.output,hb.size,fun k hk hn=>hb.block k hk fun q=>hn (hT k q)⟩,fun p hp=> ?_,fun p hp q hq hne=> ?_⟩
  ·rw[List.mem_singleton] at hp
   subst hp
   exact⟨⟨by rw[List.length_reverse];exact ho,hT⟩,hT⟩
  ·rw[List.mem_singleton] at hp hq
   subst hp;subst hq
   exact absurd rfl hne
 rcases hv.1.2 with⟨h0,hn⟩|⟨g,cap,cur,h0,_,hg,hnc,hcm,hcs,htk⟩
 ·have hs:s=[]:=List.length_eq_zero_iff.1 hn
  rw[h0]
  refine(Any.slices_Reverse_int_empty Tryz.rev none 0 w).mono ?_
  rintro ev w' ⟨rfl,rfl⟩
  refine fin rfl ?_ ⟨rfl,rfl,rfl,Nat.le_refl _,fun _ _ _=>rfl⟩
  rw[h0,hs]
  exact⟨rfl,.inl ⟨rfl,rfl⟩⟩
 ·rw[h0]
  have htk':cur.toList.take s.length=s.map (Value.int .i64):=by rw[←htk,Nat.mul_one]
  refine(Any.slices_Reverse_int Tryz.rev g 0 cap s w (holds_of_blockI hg htk') (by simp only[maxLen] at hcm;omega)).mono ?_
  rintro ev w' ⟨rfl,n,rfl⟩
  have gr:∀W:World,grow W #[]=W:=fun W=>by simp[grow]
  have ho:=ownsRow_sortedI (base:=0) (n:=n) (os:= #[]) (ts:=s.reverse) List.length_reverse (Nat.zero_le g) hg hnc hcm hcs
  have hb:=grownBy_sortedI (w:=w) (g:=g) (n:=n) (os:= #[]) s.reverse.toArray
  rw[gr] at ho hb
  refine fin rfl (by rw[h0];exact ho) ⟨hb.os,hb.tape,hb.output,hb.size,fun k hk hn=>hb.block k hk fun q=>hn (by rw[h0];simp only[Jw];exact q.symm)⟩
end Go.Proofs.Se
/- slices.Clone of places, and slices.DeleteFunc with what Keep hands it, by the shelf's contracts. -/
namespace Go.Proofs
open Go.Shelf
set_option maxRecDepth 100000
def Tryz.del_ren:Go.Shelf.Ren:=⟨fun|6=>83|10=>58|n=>n,fun|0=>0|3=>3|4=>4|22=>65|23=>3|25=>101|n=>n,fun|n=>n⟩
def Tryz.cln_ren:Go.Shelf.Ren:=⟨fun|41=>57|n=>n,fun|4=>4|22=>74|23=>91|n=>n,fun|n=>n⟩
theorem Tryz.del:SlLaysH.n10 Tryz.prog Tryz.del_ren:={
 mixed:=by kernel_rfl
 f6:=⟨"slices.IndexFunc[[]int,int]",by kernel_rfl,Tryz.func83.trans (congrArg some (by kernel_rfl))⟩
 f10:=⟨"slices.DeleteFunc[[]int,int]",by kernel_rfl,Tryz.func58.trans (congrArg some (by kernel_rfl))⟩
 t0:=Tryz.underlying0
 a0:=Tryz.isAgg0
 z0:=Tryz.sizeOf0
 v0:=Tryz.zeroValue0
 t3:=Tryz.underlying3
 a3:=Tryz.isAgg3
 z3:=Tryz.sizeOf3
 v3:=Tryz.zeroValue3
 t4:=Tryz.underlying4
 a4:=Tryz.isAgg4
 z4:=Tryz.sizeOf4
 v4:=Tryz.zeroValue4
 t22:=Tryz.underlying65
 a22:=Tryz.isAgg65
 z22:=Tryz.sizeOf65
 v22:=Tryz.zeroValue65
 a23:=Tryz.isAgg3
 z23:=Tryz.sizeOf3
 t25:=Tryz.underlying101
 a25:=Tryz.isAgg101
 z25:=Tryz.sizeOf101
 v25:=Tryz.zeroValue101}
theorem Tryz.cln:SlLaysE0.n41 Tryz.prog Tryz.cln_ren:={
 mixed:=by kernel_rfl
 f41:=⟨"slices.Clone[[]codicil/store.place,codicil/store.place]",by kernel_rfl,Tryz.func57.trans (congrArg some (by kernel_rfl))⟩
 t4:=Tryz.underlying4
 a4:=Tryz.isAgg4
 z4:=Tryz.sizeOf4
 v4:=Tryz.zeroValue4
 t22:=Tryz.underlying74
 a22:=Tryz.isAgg74
 z22:=Tryz.sizeOf74
 v22:=Tryz.zeroValue74}
theorem Tryz.del_nil (fv:Value) (w:World):Calls Tryz.prog 58 #[.slice none 0 0,fv] w fun e w'=>e= .returned (.slice none 0 0)∧w'=w:=by
 have hIF:Calls Tryz.prog 83 #[.slice none 0 0,fv] w fun e w'=>e= .returned (.int .i64 (-1))∧w'=w:=AnyE.slices_IndexFunc_empty (P:=Tryz.prog) (ρ:=Tryz.del_ren) {Tryz.del with} none 0 fv w
 go_enter Tryz.func58,Tryz.ntmps58
 go_wp2_with (go_at_call 83;refine hIF.mono ?_;rintro e w' ⟨rfl,rfl⟩)
 go_ret
 exact⟨rfl,rfl⟩
theorem Tryz.gives59 (last x:Int) (bb sb:Nat) (W:World) (hb:W.cell? ⟨bb,0,none⟩=some (.pointer (some ⟨sb,0,none⟩))) (hs:W.cell? ⟨sb,2,none⟩=some (.int .i64 last)):
  FnGives Tryz.prog 59 #[.pointer (some ⟨bb,0,none⟩)] #[.int .i64 x] (.bool (decide (last<x))) W:=by
 show Calls Tryz.prog 59 #[.int .i64 x,.pointer (some ⟨bb,0,none⟩)] W _
 go_enter Tryz.func59,Tryz.ntmps59
 go_wp2
 all_goals (go_ret;exact⟨by simp_all,0,rfl⟩)
end Go.Proofs
namespace Go.Proofs.Se
open Go Go.Gw Go.RowKit Go.Sort Go.Proofs.Se.D
set_option maxRecDepth 100000
theorem Qr (s r:List Int) (h:Wd s=some r):CallOk P 57 [.v (.one (.slc 9000))] [(9000,.owni 91 2 s)] (.v (.one (.slc 8900))) [(8900,.owni 91 2 r)]:=by
 obtain⟨hm,rfl⟩:s.length/2≤YJ∧s=r:=by
  unfold Wd at h
  split at h
  ·rename_i hm;exact⟨hm,Option.some.inj h⟩
  ·cases h
 simp only[YJ] at hm
 intro B γ w hp hap hok ht h1
 obtain⟨hv,hB⟩:w.ownsRow 0 91 2 (γ 9000) (s.length/2) (s.map (.int .i64))∧∀b,Jw (γ 9000)=some b→B b:=hp (9000,.owni 91 2 s) (List.mem_singleton.2 rfl)
 unfold RunOk
 have hargs:([SV.v (.one (.slc 9000))].map (SV.den γ)).toArray= #[γ 9000]:=by simp[SV.den,V1.den,Leaf.cells]
 rw[Vf Tryz.func57 (by kernel_rfl) rfl,hargs]
 have fin:∀{ev:Ending} {w':World} {v:Value},ev= .returned v→v.oneCell'=true→w'.ownsRow 0 91 2 v (s.length/2) (s.map (.int .i64))→(∀b,Jw v=some b→w.heap.size≤b)→BelowX (fun b=>w.heap.size≤b) w w'→
   ∃v,ev= .returned v∧∃γ':Nat→Value,(∀κ,(∀p∈[(8900,Ent.owni 91 2 s)],p.1=κ→∃q∈[(9000,Ent.owni 91 2 s)],q.1=κ)→γ' κ=γ κ)∧(∀κ,(γ' κ).oneCell'=true)∧v=(SV.v (.one (.slc 8900))).den γ'∧(SV.v (.one (.slc 8900))).ok∧
    BelowX (Gw.Touch γ w [(9000,Ent.owni 91 2 s)] [(8900,Ent.owni 91 2 s)]) w w'∧
    (∀p∈[(8900,Ent.owni 91 2 s)],p.2.at (Gw.Touch γ w [(9000,Ent.owni 91 2 s)] [(8900,Ent.owni 91 2 s)]) γ' w' p.1∧∀b,p.2.foot γ' w' p.1 b→Gw.Touch γ w [(9000,Ent.owni 91 2 s)] [(8900,Ent.owni 91 2 s)] b)∧YQ γ' w' [(8900,Ent.owni 91 2 s)]:=by
  intro ev w' v he hv1 ho hn hb
  refine⟨v,he,fun κ=>if κ=8900 then v else γ κ,fun κ hκ=> ?_,fun κ=> ?_,by simp[SV.den,V1.den,Leaf.cells],⟨trivial,trivial⟩,⟨hb.os,hb.tape,hb.output,hb.size,fun k hk hnk=>hb.block k hk fun q=>hnk (.inl q)⟩,fun p hp=> ?_,fun p hp q hq hne=> ?_⟩
  ·by_cases hk:κ=8900
   ·obtain⟨q,hq,hq2⟩:=hκ _ (List.mem_singleton.2 rfl) hk.symm
    rw[List.mem_singleton.1 hq] at hq2
    rw[hk] at hq2
    exact absurd hq2 (by simp)
   ·simp[hk]
  ·by_cases hk:κ=8900
   ·simp[hk,hv1]
   ·simp[hk,h1]
  ·rw[List.mem_singleton] at hp
   subst hp
   refine⟨⟨by simpa using ho,fun b hb=> .inl (hn b (by simpa using hb))⟩,fun b hb=> .inl (hn b (by simpa[Ent.foot] using hb))⟩
  ·rw[List.mem_singleton] at hp hq
   subst hp;subst hq
   exact absurd rfl hne
 rcases hv.2 with⟨h0,hn⟩|⟨g,cap,cur,h0,_,hg,hnc,hcm,hcs,htk⟩
 ·rw[h0]
  refine(AnyE.slices_Clone_nil (P:=Tryz.prog) (ρ:=Tryz.cln_ren) Tryz.cln 0 0 w).mono ?_
  rintro ev w' ⟨rfl,rfl⟩
  refine fin rfl rfl ?_ (fun b hb=>by simp[Jw] at hb) (BelowX.refl _ _)
  have hs:s=[]:=by
   have:=hv.1
   rw[hn] at this
   exact List.map_eq_nil_iff.1 (List.length_eq_zero_iff.1 (by omega))
  subst hs
  exact⟨rfl,.inl ⟨rfl,rfl⟩⟩
 ·rw[h0]
  have hc:=World.ownsRow.cells hv (g:=g) (by rw[h0];rfl)
  obtain⟨i0,e1⟩:∃i0,Tryz.prog.info? 91=some i0:=Option.isSome_iff_exists.1 (by kernel_rfl)
  have e2:(Tryz.prog.info? 91).bind (·.zero)=some (.agg #[.int .i64 0,.int .i64 0]):=by kernel_rfl
  have e3:(Tryz.prog.info? 91).map (·.size)=some 2:=by kernel_rfl
  have e4:(Tryz.prog.info? 91).map (·.bytes)=some 16:=by kernel_rfl
  rw[e1] at e2 e3 e4
  have e2:i0.zero=some (.agg #[.int .i64 0,.int .i64 0]):=e2
  have e3:i0.size=2:=Option.some.inj e3
  have e4:i0.bytes=16:=Option.some.inj e4
  refine(AnyE.slices_Clone (P:=Tryz.prog) (ρ:=Tryz.cln_ren) Tryz.cln i0 (.agg #[.int .i64 0,.int .i64 0]) 2 16 e1 e2 e3 e4 rfl (by decide) Tryz.sizeOf91 g 0 (s.length/2) cap (s.map (.int .i64)) w hv.1 (by simp only[maxLen] at hcm ⊢;omega) (by omega) (fun j u hj=>by
   have:=hc j u hj
   rw[Addr.add_lit] at this
   simpa using this) (fun u hu=>by obtain⟨_,_,rfl⟩:=List.mem_map.1 hu;rfl)).mono ?_
  rintro ev w' ⟨v',rfl,ho,hne,hb⟩
  have ho2:w'.ownsRow 0 91 2 v' (s.length/2) (s.map (.int .i64)):=by
   refine⟨ho.1,?_⟩
   rcases ho.2 with q|⟨g',cap',cur',q1,q2,q3⟩
   ·exact .inl q
   ·exact .inr ⟨g',cap',cur',q1,Nat.zero_le _,q3⟩
  refine fin rfl ?_ ho2 (fun b hb2=> ?_) ⟨hb.os,hb.tape,hb.output,hb.size,fun k hk hn=>hb.block k hk⟩
  ·rcases ho.2 with⟨q,_⟩|⟨g',cap',cur',q1,q2,q3⟩
   ·rw[q];rfl
   ·rw[q1];rfl
  ·rcases ho.2 with⟨q,_⟩|⟨g',cap',cur',q1,q2,q3⟩
   ·rw[q] at hb2;simp[Jw] at hb2
   ·rw[q1] at hb2
    simp only[Jw,Option.some.injEq] at hb2
    omega
theorem Jnr {s:List Int} {j:Nat} (hj:j<s.length):s.toArray[j]! =s.getD j 0:=by
 rw[getElem!_pos s.toArray j (by simpa using hj)]
 simp[List.getD,hj]
theorem Yx (s:List Int) (last:Int) (r:List Int) (h:Xo s last=some r):CallOk P 58 [.v (.one (.slc 9000)),.v (.one (.clo 59 9001))] [(9000,.ownf 3 .i64 s),(9001,.blk 29 [.ptr 9002 0]),(9002,.blk 76 [.slc 9003,.slc 9004,.int .i64 last,.slc 9000])] (.v (.one (.slc 8900))) [(8900,.ownf 3 .i64 r),(9000,.dead)]:=by
 obtain rfl:(s.filter fun x=> !decide (last<x))=r:=Option.some.inj h
 intro B γ w hp hap hok ht h1
 generalize hpre:[(9000,Ent.ownf 3 .i64 s),(9001,.blk 29 [.ptr 9002 0]),(9002,.blk 76 [.slc 9003,.slc 9004,.int .i64 last,.slc 9000])]=pre at hp hap ⊢
 have m0:(9000,Ent.ownf 3 .i64 s)∈pre:=by rw[←hpre];simp
 have m1:(9001,Ent.blk 29 [.ptr 9002 0])∈pre:=by rw[←hpre];simp
 have m2:(9002,Ent.blk 76 [.slc 9003,.slc 9004,.int .i64 last,.slc 9000])∈pre:=by rw[←hpre];simp
 obtain⟨hv,hB⟩:OwnF w 3 (γ 9000) (s.map (.int .i64))∧∀b,Jw (γ 9000)=some b→B b:=hp _ m0
 obtain⟨bb,eb,_,hbb,_⟩:∃b,γ 9001= .pointer (some ⟨b,0,none⟩)∧B b∧w.heap[b]? =some (.cells (Jq γ [.ptr 9002 0]).toArray 29 (0,0))∧∀x∈[Leaf.ptr 9002 0],x.ok:=hp _ m1
 obtain⟨sb,es,_,hsb,_⟩:∃b,γ 9002= .pointer (some ⟨b,0,none⟩)∧B b∧w.heap[b]? =some (.cells (Jq γ [.slc 9003,.slc 9004,.int .i64 last,.slc 9000]).toArray 76 (0,0))∧∀x∈[Leaf.slc 9003,.slc 9004,.int .i64 last,.slc 9000],x.ok:=hp _ m2
 have ab:∀b,Jw (γ 9000)=some b→b≠bb:=fun b hb e=>hap _ m0 _ m1 (by simp) rfl b hb (by show Jw (γ 9001)=some b;rw[eb,e];rfl)
 have as':∀b,Jw (γ 9000)=some b→b≠sb:=fun b hb e=>hap _ m0 _ m2 (by simp) rfl b hb (by show Jw (γ 9002)=some b;rw[es,e];rfl)
 have cb:w.cell? ⟨bb,0,none⟩=some (.pointer (some ⟨sb,0,none⟩)):=by simp[World.cell?,hbb,Jq,Leaf.cells,bk,es]
 have cs:w.cell? ⟨sb,2,none⟩=some (.int .i64 last):=by simp[World.cell?,hsb,Jq,Leaf.cells]
 have lb:bb<w.heap.size:=(Array.getElem?_eq_some_iff.1 hbb).1
 have ls:sb<w.heap.size:=(Array.getElem?_eq_some_iff.1 hsb).1
 unfold RunOk
 have hargs:([SV.v (.one (.slc 9000)),SV.v (.one (.clo 59 9001))].map (SV.den γ)).toArray= #[γ 9000,.func (.func 59) #[] #[.pointer (some ⟨bb,0,none⟩)]]:=by simp[SV.den,V1.den,Leaf.cells,bk,eb]
 rw[Vf Tryz.func58 (by kernel_rfl) rfl,hargs]
 generalize hnews:[(8900,Ent.ownf 3 .i64 (s.filter fun x=> !decide (last<x))),(9000,.dead)]=news
 have n0:∀p∈news,p=(8900,Ent.ownf 3 .i64 (s.filter fun x=> !decide (last<x)))∨p=(9000,.dead):=fun p hp=>by rw[←hnews] at hp;simpa using hp
 have hT:∀b,Jw (γ 9000)=some b→Gw.Touch γ w pre news b:=fun b hb=> .inr ⟨_,m0,rfl,⟨(9000,.dead),by rw[←hnews];simp,rfl⟩,hb⟩
 have fin:∀{ev:Ending} {w':World} {v:Value},ev= .returned v→v.oneCell'=true→OwnF w' 3 v ((s.filter fun x=> !decide (last<x)).map (.int .i64))→(∀b,Jw v=some b→Jw (γ 9000)=some b)→BelowX (fun b=>Jw (γ 9000)=some b) w w'→
   ∃v,ev= .returned v∧∃γ':Nat→Value,(∀κ,(∀p∈news,p.1=κ→∃q∈pre,q.1=κ)→γ' κ=γ κ)∧(∀κ,(γ' κ).oneCell'=true)∧v=(SV.v (.one (.slc 8900))).den γ'∧(SV.v (.one (.slc 8900))).ok∧
    BelowX (Gw.Touch γ w pre news) w w'∧(∀p∈news,p.2.at (Gw.Touch γ w pre news) γ' w' p.1∧∀b,p.2.foot γ' w' p.1 b→Gw.Touch γ w pre news b)∧YQ γ' w' news:=by
  intro ev w' v he hv1 ho hn hb
  refine⟨v,he,fun κ=>if κ=8900 then v else γ κ,fun κ hκ=> ?_,fun κ=> ?_,by simp[SV.den,V1.den,Leaf.cells],⟨trivial,trivial⟩,⟨hb.os,hb.tape,hb.output,hb.size,fun k hk hnk=>hb.block k hk fun q=>hnk (hT k q)⟩,fun p hp=> ?_,fun p hp q hq hne hm=> ?_⟩
  ·by_cases hk:κ=8900
   ·obtain⟨q,hq,hq2⟩:=hκ (8900,Ent.ownf 3 .i64 (s.filter fun x=> !decide (last<x))) (by rw[←hnews];simp) hk.symm
    rw[←hpre,hk] at*
    simp only[List.mem_cons,List.not_mem_nil,or_false] at hq
    rcases hq with rfl|rfl|rfl<;>simp at hq2
   ·simp[hk]
  ·by_cases hk:κ=8900
   ·simp[hk,hv1]
   ·simp[hk,h1]
  ·rcases n0 p hp with rfl|rfl
   ·exact⟨⟨by simpa using ho,fun b hb=>hT b (hn b (by simpa using hb))⟩,fun b hb=>hT b (hn b (by simpa[Ent.foot] using hb))⟩
   ·exact⟨trivial,fun b hb=>hb.elim⟩
  ·rcases n0 p hp with rfl|rfl
   ·rcases n0 q hq with rfl|rfl
    ·exact absurd rfl hne
    ·exact fun b _ hb=>hb.elim
   ·cases hm
 rcases hv with⟨h0,hn⟩|⟨g,off,cap,cur,h0,hg,hnc,hcm,hcs,htk⟩
 ·have hs:s=[]:=List.map_eq_nil_iff.1 hn
  rw[h0]
  refine(Tryz.del_nil _ w).mono ?_
  rintro ev w' ⟨rfl,rfl⟩
  exact fin rfl rfl (by rw[hs];exact .inl ⟨rfl,rfl⟩) (fun b hb=>by simp[Jw] at hb) (BelowX.refl _ _)
 ·rw[List.length_map] at h0 hnc htk
  have hbg:Jw (γ 9000)=some g:=by rw[h0];rfl
  have n1:=ab g hbg
  have n2:=as' g hbg
  have hcur:∀j,j<s.length→cur[off+j]? =some (.int .i64 (s.getD j 0)):=fun j hj=>by
   have e:=congrArg (fun l=>l[j]?) htk
   simp only[List.getElem?_take_of_lt hj,List.getElem?_drop,Array.getElem?_toList,List.getElem?_map,List.getElem?_eq_getElem hj,Option.map_some] at e
   rw[e];simp[List.getD,hj]
  have hH:Holds (Value.int .i64) w g off s.toArray:=fun j hj=>by
   have hj':j<s.length:=by simpa using hj
   refine⟨?_,by simp[World.frozen?,hg]⟩
   rw[Jnr hj']
   simp only[World.cell?,hg]
   simp only[Option.isSome_none,Bool.false_eq_true,if_false]
   exact hcur j hj'
  rw[h0]
  have hcon:=AnyE.slices_DeleteFunc (P:=Tryz.prog) (ρ:=Tryz.del_ren) Tryz.del (Value.int .i64) (fun _=>rfl) (fun x=>decide (last<x)) 59 #[.pointer (some ⟨bb,0,none⟩)] (enters_of Tryz.func59 (by kernel_rfl) rfl) 0 Tryz.zeroValue3 g off cap s.toArray w
   (fun W x hb=>Tryz.gives59 last x bb sb W ((hb.cell (p:=⟨bb,0,none⟩) lb).trans cb) ((hb.cell (p:=⟨sb,2,none⟩) ls).trans cs))
   (fun n os dk x _=>Tryz.gives59 last x bb sb _ (by
    unfold sortWorld
    rw[cell?_grow _ _ _ (by show bb<(putRow _ _ _ _ _).heap.size;rw[size_putRow];exact lb),cell?_putRow_other _ _ g off _ _ (Or.inl (fun e=>n1 e.symm))]
    exact cb) (by
    unfold sortWorld
    rw[cell?_grow _ _ _ (by show sb<(putRow _ _ _ _ _).heap.size;rw[size_putRow];exact ls),cell?_putRow_other _ _ g off _ _ (Or.inl (fun e=>n2 e.symm))]
    exact cs)) hH (by simp only[List.size_toArray,maxLen] at*;omega) (by simpa using hnc)
  simp only[List.size_toArray] at hcon
  refine Calls.mono (show Calls Tryz.prog 58 #[.slice (some ⟨g,off,none⟩) s.length cap,.func (.func 59) #[] #[.pointer (some ⟨bb,0,none⟩)]] w _ from hcon) ?_
  rintro ev w' ⟨rfl,q,rfl⟩
  generalize hr:(s.filter fun x=> !decide (last<x))=r at*
  have hlen:r.length≤s.length:=by rw[←hr];exact List.length_filter_le _ _
  refine fin rfl rfl (.inr ⟨g,off,cap,putCells (Value.int .i64) off (r++List.replicate (s.length-r.length) 0).toArray cur,by rw[List.length_map],?_,by rw[List.length_map];omega,hcm,by simpa[putCells] using hcs,?_⟩) (fun b hb=>by rw[hbg];simpa[Jw] using hb) ⟨rfl,rfl,rfl,by simp[putRow,mapBlock,Sort.ahead],fun k hk hne=> ?_⟩
  ·simp[putRow,mapBlock,Sort.ahead,Array.getElem?_modify,hg,onCells]
  ·rw[List.length_map]
   apply List.ext_getElem?
   intro j
   by_cases hj:j<r.length
   ·have hc:=hcur j (by omega)
    rw[List.getElem?_take_of_lt hj,List.getElem?_drop,Array.getElem?_toList]
    simp only[putCells,Array.getElem?_mapIdx,hc,Option.map_some]
    rw[if_pos ⟨by omega,by simp;omega⟩,show off+j-off=j by omega,Jnr (by simp;omega)]
    simp[List.getD,hj,List.getElem?_append_left hj]
   ·rw[List.getElem?_take_eq_none (by omega),List.getElem?_eq_none (by simp;omega)]
  ·have:g≠k:=fun e=>hne (by rw[←e];exact hbg)
   simp[putRow,mapBlock,Sort.ahead,Array.getElem?_modify,this]
end Go.Proofs.Se
