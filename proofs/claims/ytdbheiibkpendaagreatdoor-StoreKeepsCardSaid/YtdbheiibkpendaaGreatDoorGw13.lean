/- The claim's closed facts out of small tables: what each function leads to, names and reads. -/
import Derived.JoinedOf
namespace Go.Gw
open Go
theorem Jnw {a b:Bool} (h1:a=true) (h2:b=true):(a&&b)=true:=by rw[h1,h2];rfl
def QU {α:Type} (P:Program) (F:Func→α):List α:=P.funcs.toList.map F
theorem Qx {α:Type} {P:Program} {F:Func→α} {l:List α} (h:QU P F=l) (g:Nat):l[g]? =(P.funcs[g]?).map F:=by
 subst h;simp[QU]
def clV (adj:List (List Nat)):(fuel:Nat)→(todo seen:List Nat)→List Nat
 |0,_,seen=>seen.reverse
 |_,[],seen=>seen.reverse
 |n+1,f::todo,seen=>
  if seen.contains f then clV adj n todo seen
  else clV adj n ((adj[f]?).getD []++todo) (f::seen)
theorem JiK {α β:Type} (o:Option α) (F:α→β) (d:β):o.elim d F=(o.map F).getD d:=by cases o<;>rfl
theorem Jjw {P:Program} {adj:List (List Nat)} (h:QU P P.leadsTo=adj) (g:Nat):(P.funcs[g]?).elim [] P.leadsTo=(adj[g]?).getD []:=by
 rw[JiK,Qx h]
theorem Jmg {P:Program} {adj:List (List Nat)} (h:QU P P.leadsTo=adj):∀n todo seen,P.closureVia n todo seen=clV adj n todo seen:=by
 intro n;induction n with
 |zero=>intro todo seen;simp[Program.closureVia,clV]
 | succ n ih=>
  intro todo seen
  cases todo with
  |nil=>simp[Program.closureVia,clV]
  |cons f todo=>
   simp only[Program.closureVia,clV,Jjw h,ih]
def Jgk (adj:List (List Nat)):Nat:=1+(adj.map fun l=>l.length+1).sum
theorem fuel_eq {P:Program} {adj:List (List Nat)} (h:QU P P.leadsTo=adj):1+(P.funcs.toList.map fun g=>(P.leadsTo g).length+1).sum=Jgk adj:=by
 subst h;simp[QU,Jgk,List.map_map,Function.comp_def]
theorem JgO {P:Program} {adj:List (List Nat)} (h:QU P P.leadsTo=adj) {k:Nat} (hk:Jgk adj=k) {f:Nat} {cl:List Nat} (hc:clV adj k [f] []=cl):P.closure f=cl:=by
 unfold Program.closure;rw[fuel_eq h,hk,Jmg h,hc]
def Jnq (adj:List (List Nat)) (rk:List Nat):Bool:=(List.range adj.length).all fun g=>((adj[g]?).getD []).all fun h=>decide ((rk[h]?).getD 0<(rk[g]?).getD 0)
def Jnp (fn:Func):Bool:=match fn.body with|some c=>c.unfollowed|none=>entryCalls fn
theorem Jdk {P:Program} {un:List Bool} (h:QU P Jnp=un) {f:Nat} {cl:List Nat} (hc:P.closure f=cl):
  P.unfollowed f=cl.any fun g=>(un[g]?).getD false:=by
 unfold Program.unfollowed
 rw[hc]
 congr 1;funext g
 rw[Qx h]
 cases P.funcs[g]? <;>rfl
theorem Jfy {P:Program} {f:Nat} (hu:P.unfollowed f=true):P.recurses f=true:=by
 unfold Program.recurses;rw[hu];rfl
def Jnm (fn:Func):Option String:=if fn.ours||fn.body.isNone||fn.name== "runtime.NumGoroutine" then some fn.name else none
theorem JgY {P:Program} {inp:List (Option String)} (h:QU P Jnm=inp) {f:Nat} {cl:List Nat} (hc:P.closure f=cl):
  P.inPlace f=cl.filterMap fun g=>(inp[g]?).getD none:=by
 unfold Program.inPlace
 rw[hc]
 congr 1;funext g
 rw[Qx h]
 cases P.funcs[g]? <;>rfl
def glF (fn:Func):List Nat:=fn.body.elim [] Code.globalsNamed
def erF (fn:Func):Option String:=if fn.body.isNone then entryReads.lookup fn.name else none
theorem Jd7 {P:Program} {gl:List (List Nat)} {er:List (Option String)} (h:QU P glF=gl) (h2:QU P erF=er) {f:Nat} {cl:List Nat} (hc:P.closure f=cl):
  P.varsNamed f=(((cl.flatMap fun g=>(gl[g]?).getD []).eraseDups).filterMap (fun g=>(P.globals[g]?).map (·.name))++cl.filterMap fun g=>(er[g]?).getD none).eraseDups:=by
 unfold Program.varsNamed
 rw[hc]
 have e1:(fun g:Nat=>((P.funcs[g]?).bind (·.body)).elim [] Code.globalsNamed)=(fun g:Nat=>(gl[g]?).getD []):=by
  funext g;rw[Qx h];cases P.funcs[g]? <;>rfl
 have e2:(fun g:Nat=>(P.funcs[g]?).bind fun fn=>if fn.body.isNone then entryReads.lookup fn.name else none)=(fun g:Nat=>(er[g]?).getD none):=by
  funext g;rw[Qx h2];cases P.funcs[g]? <;>rfl
 rw[e1,e2]
theorem Jer {α:Type} [BEq α] {a b c:α} (h:b=c) (k:(a==c)=true):(a==b)=true:=by rw[h];exact k
def cut:List Char:=[99,117,116].map Char.ofNat
theorem c1:(cut== "gc".toList)=false:=by kernel_rfl
theorem c2:(cut== "spec".toList)=false:=by kernel_rfl
theorem c3:(cut== "cut".toList)=true:=by kernel_rfl
theorem c4:(cut== "carried".toList)=false:=by kernel_rfl
theorem JeP (rest:List (List Char)):stripLifts liftWords (cut::rest)=([],cut::rest):=by kernel_rfl
theorem JkL {P:Program} {rest:List (List Char)} (h:behindMainWord (wordsSigns P.initOrder.toList)=cut::rest):P.make=some .cut:=by
 unfold Program.make;rw[h]
 simp only[c1,c2,c3,Bool.or_self,Bool.true_or,Bool.false_eq_true,if_true,if_false]
theorem Jja {P:Program} {rest:List (List Char)} (h:behindMainWord (wordsSigns P.initOrder.toList)=cut::rest):P.liftsFinal=false:=by
 unfold Program.liftsFinal Program.headLifts;rw[h]
 simp only[JeP,List.head?_cons,Option.some_beq_some,c3,c4,if_true,Bool.false_and,Bool.false_or,List.contains_nil]
theorem Jfu {P:Program} {rest:List (List Char)} (h:behindMainWord (wordsSigns P.initOrder.toList)=cut::rest) (h1:P.laysLater=false) (h2:P.bearsReflect=false) (h3:P.doorFits []=true):P.mayEnter=true:=by
 unfold Program.mayEnter;rw[h]
 simp only[c1,c2,c4,h1,h2,h3,JeP,List.head?_cons,Option.some_beq_some,c3,Bool.or_self,Bool.false_and,Bool.or_true,Bool.and_true,Bool.not_false,List.contains_nil]
end Go.Gw
