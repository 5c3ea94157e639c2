/- Lemmas for the last texts. -/
import Derived.Test.YtnnokglddolglaaGreatDoorM12
import Derived.Laws.StructEq
import Derived.DeepKeys3
import Derived.WideKeyMaps2
import Derived.Shelf.SlicesQ.Contains
import Derived.Shelf.SlLaysF0
import Derived.Shelf.SlSortCmp.InsertionK
import Derived.Lib.AppendIntMem
import Derived.Shelf.SlSortCmp.WholeK
set_option maxHeartbeats 1000000
set_option maxRecDepth 100000
namespace Go.Proofs.YtnnokglddolglaaGreatDoor
open Go.RowKit Go.Proofs.Tryz
abbrev zaM:=Int × UInt8
def keyV(k:zaM):Value:=.agg #[.int .i64 k.1,.int .u8 k.2.toNat]
theorem zsd(d:Nat)(x y:Int)(w:World):(Op.equalIn (d+1) 3 (.int .i64 x) (.int .i64 y)).run prog w=.ok (x==y) w:=by
 simp[Op.equalIn,ZY underlying3]
theorem zwt(d:Nat)(x y:Int)(w:World):(Op.equalIn (d+1) 5 (.int .u8 x) (.int .u8 y)).run prog w=.ok (x==y) w:=by
 simp[Op.equalIn,ZY underlying5]
theorem zs9:prog.plainKey 3=true:=by kernel_rfl
theorem zvP:prog.plainKey 5=true:=by kernel_rfl
theorem ziO (d a:Nat) (t:TypeId) (f:Field) (h:List Field) (b c:Array Value) (x y:Value) (r:Bool) (w:World) (i:(f.name== "_")=false) (j:f.type=t) (k:f.offset=a)
 (g:prog.plainKey t=true) (m:b[a]? = some x) (l:c[a]? = some y) (n:(Op.equalIn d t x y).run prog w=.ok r w):
 (Op.eqFields d b c (f::h)).run prog w=if r=true then (Op.eqFields d b c h).run prog w else .ok false w:=by
 subst j;subst k
 have h1:f.name≠ "_":=λe=>by rw[e]at i;exact absurd i (by decide)
 simp only[Op.eqFields,Qi h1,Xz,run_part_plain w g m,run_part_plain w g l,Xg,n];cases r <;> simp
theorem zim(a b:zaM)(w:World):(Op.equal 275 (keyV a) (keyV b)).run prog w=.ok (decide (a=b)) w:=by
 have h:=run_equalIn_struct (P:=prog) w 9999 275 #[.int .i64 a.1,.int .u8 a.2.toNat] #[.int .i64 b.1,.int .u8 b.2.toNat] (by kernel_rfl) (by kernel_rfl);unfold Op.equal keyV;refine h.trans ?_;have c:(prog.fieldsOf 275).toList.map (λf=>(f.name== "_",f.type,f.offset))=[(false,3,0),(false,5,1)]:=by kernel_rfl
 generalize (prog.fieldsOf 275).toList=l at *
 match l,c with
 | [],c=>cases c
 | [_],c=>simp at c
 |_::_::_::_,c=>simp at c
 | [o,j],c=>
  simp only[QX,ZE,List.cons.injEq,Prod.mk.injEq,and_true]at c;obtain⟨⟨p,q,t⟩,u,s,r⟩:=c;rw[ziO 9999 0 3 o [j] _ _ (.int .i64 a.1) (.int .i64 b.1) (a.1==b.1) w p q t zs9 rfl rfl (zsd 9998 _ _ w)];rw[ziO 9999 1 5 j [] _ _ (.int .u8 a.2.toNat) (.int .u8 b.2.toNat) ((a.2.toNat:Int)==(b.2.toNat:Int)) w u s r zvP rfl rfl (zwt 9998 _ _ w)];obtain⟨m,n⟩:=a;obtain⟨i,k⟩:=b
  by_cases d:m=i
  ·by_cases g:n=k
   ·subst d;subst g;simp[Op.eqFields]
   ·have:((n.toNat:Int)==(k.toNat:Int))=false:=Qb.2 λe=>g (Zu.1 (by omega))
    simp[d,g,this]
  ·have:(m==i)=false:=Qb.2 d
   simp[d,this]
def MpAt(w:World)(b:Nat)(l:List (zaM × Nat)):Prop:=∃(es:Array MapEntry) (a:Nat),w.heap[b]? = some (.map es a)/\es.toList.map (λe=>(e.key,e.val))=l.map λp=>(keyV p.1,Value.int .i64 (p.2:Int))
def zbK:List (zaM × Nat)->zaM->Option Nat
 | [],_=>none
 |p::l,k=>if k=p.1 then some p.2 else zbK l k
def zjt:List (zaM × Nat)->zaM->Nat->Option (Nat × Value)
 | [],_,_=>none
 |p::l,k,i=>if k=p.1 then some (i,.int .i64 (p.2:Int))else zjt l k (i+1)
theorem zeC:∀(l:List (zaM × Nat)) (k:zaM) (i:Nat),(zjt l k i).map (·.2)=(zbK l k).map λv=>Value.int .i64 (v:Int)
 | [],_,_=>rfl
 |p::l,k,i=>by
  rw[zjt,zbK]
  by_cases h:k=p.1
  ·rw[Qi h,Qi h];rfl
  ·rw[Qe h,Qe h];exact zeC l k (i+1)
theorem ztV:∀(es:List MapEntry) (l:List (zaM × Nat)) (k:zaM) (i:Nat) (w:World),es.map (λe=>(e.key,e.val))=l.map (λp=>(keyV p.1,Value.int .i64 (p.2:Int)))->
 (Instr.findAsking 275 (keyV k) es i).run prog w=.ok (zjt l k i) w
 | [],[],k,i,w,_=>by simp[Instr.findAsking,zjt]
 | [],_::_,_,_,_,h=>by cases h
 |_::_,[],_,_,_,h=>by cases h
 |e::es,p::l,k,i,w,h=>by
  simp only[QX,List.cons.injEq,Prod.mk.injEq]at h;obtain⟨⟨h1,h2⟩,b⟩:=h;simp only[Instr.findAsking,Xz,h1,zim,Xg,zjt]
  by_cases a:k=p.1
  ·simp[a,h2]
  ·simp only[Qs a,Bool.false_eq_true,if_false,Qe a]
   exact ztV es l k (i+1) w b
theorem zhx(l:List (zaM × Nat))(es:Array MapEntry)(k:zaM)(w:World)(h:es.toList.map (λe=>(e.key,e.val))=l.map (λp=>(keyV p.1,Value.int .i64 (p.2:Int)))):
 (Instr.findKey 275 (keyV k) es.toList).run prog w=.ok (zjt l k 0) w:=by
 rw[run_findKey_eq w (by kernel_rfl)];exact ztV es.toList l k 0 w h
theorem zw7(d:Nat)(x:Int)(h:-9223372036854775808<=x/\x<9223372036854775808):prog.keyLits (d+1) 3 [.int .i64 x]=some [.int .i64 x]:=by
 have a:(Lit.int .i64 x).wf=true:=by
  have b:IntKind.i64.min=-9223372036854775808:=by decide
  have c:IntKind.i64.max=9223372036854775807:=by decide
  simp only[Lit.wf,b,c,QW,QY];omega
 simp[Program.keyLits,underlying3,a]
theorem zyy(d:Nat)(x:UInt8):prog.keyLits (d+1) 5 [.int .u8 x.toNat]=some [.int .u8 x.toNat]:=by
 have a:(Lit.int .u8 (x.toNat:Int)).wf=true:=by
  have:=x.toNat_lt;have b:IntKind.u8.min=0:=by decide
  have c:IntKind.u8.max=255:=by decide
  simp only[Lit.wf,b,c,QW,QY];omega
 simp[Program.keyLits,underlying5,a]
theorem zof(k:zaM)(h:-9223372036854775808<=k.1/\k.1<9223372036854775808):∃l,keyOf prog 275 (keyV k)=some l:=by
 have c:prog.underlying 275=some (.struct (prog.fieldsOf 275)):=by kernel_rfl
 have a:(prog.fieldsOf 275).toList.map (λf=>(f.type,f.offset))=[(3,0),(5,1)]:=by kernel_rfl
 have hb:(prog.fieldsOf 275).all (·.name != "_")=true:=by kernel_rfl
 have e:prog.keyType 275=true:=by kernel_rfl
 have d:prog.cellsOf 275=2:=by kernel_rfl
 have o:prog.cellsOf 3=1:=by kernel_rfl
 have g:prog.cellsOf 5=1:=by kernel_rfl
 have p:∃n,prog.types.size=n+1:=⟨prog.types.size-1,by kernel_rfl⟩
 obtain⟨n,q⟩:=p
 have hl:prog.keyLits (prog.types.size+1) 275 [.int .i64 k.1,.int .u8 k.2.toNat]=some [.int .i64 k.1,.int .u8 k.2.toNat]:=by
  rw[q,Program.keyLits.eq_def];simp only[c];rw[Qi ⟨by rw[d];rfl,hb⟩];generalize (prog.fieldsOf 275).toList=l at *
  match l,a with
  | [],a=>cases a
  | [_],a=>simp at a
  |_::_::_::_,a=>simp at a
  | [s,t],a=>
   simp only[QX,ZE,List.cons.injEq,Prod.mk.injEq,and_true]at a;obtain⟨⟨i,r⟩,m,j⟩:=a;simp[i,r,m,j,o,g,zw7 n k.1 h,zyy n k.2]
 unfold keyOf;rw[c];refine⟨.string (keyBytes [.int .i64 k.1,.int .u8 k.2.toNat]),?_⟩;have b:(keyV k).formed prog 275=true:=by simp[keyV,Value.formed,c,d]
 simp only[e,b,Bool.and_self,if_true];show Option.map _ (prog.keyLits (prog.types.size+1) 275 [.int .i64 k.1,.int .u8 k.2.toNat])=_
 rw[hl]
 rfl
theorem zk9:WideMaps.KeyLaw prog 275:=deep_law (m:=2) (by omega) (by kernel_rfl) (by kernel_rfl) (by kernel_rfl)
theorem zlP{b:Nat}{l:List (zaM × Nat)}{w:World}(M:MpAt w b l)(k:zaM)(h:-9223372036854775808<=k.1/\k.1<9223372036854775808):
 (Instr.lookup 240 (.map (some b)) (keyV k) false).run prog w=.ok (.int .i64 (((zbK l k).getD 0:Nat):Int)) w:=by
 obtain⟨es,c,hb,j⟩:=M;obtain⟨m,a⟩:=zof k h;have i:(zeroValue 3).run prog w=.ok (.int .i64 0) w:=by kernel_rfl
 have d:=zeC l k 0;have h1:=zhx l es k w j;have e:prog.underlying 240=some (.map 275 3):=by kernel_rfl
 have f:=zk9.check w es.isEmpty a;generalize zjt l k 0=r at *;generalize zbK l k=g at *;cases r <;> cases g <;> simp at d
 ·simp[Instr.lookup,ZY e,XC hb,f,h1,i,Result.andThen]
 ·simp[Instr.lookup,ZY e,XC hb,f,h1,d,Result.andThen]
theorem zdj{b:Nat}{l:List (zaM × Nat)}{w:World}(M:MpAt w b l)(k:zaM)(h:-9223372036854775808<=k.1/\k.1<9223372036854775808):
 (Instr.lookup 240 (.map (some b)) (keyV k) true).run prog w=.ok (.tuple #[.int .i64 (((zbK l k).getD 0:Nat):Int),.bool (zbK l k).isSome]) w:=by
 obtain⟨es,c,hb,j⟩:=M;obtain⟨m,a⟩:=zof k h;have i:(zeroValue 3).run prog w=.ok (.int .i64 0) w:=by kernel_rfl
 have d:=zeC l k 0;have h1:=zhx l es k w j;have e:prog.underlying 240=some (.map 275 3):=by kernel_rfl
 have f:=zk9.check w es.isEmpty a;generalize zjt l k 0=r at *;generalize zbK l k=g at *;cases r <;> cases g <;> simp at d
 ·simp[Instr.lookup,ZY e,XC hb,f,h1,i,Result.andThen]
 ·simp[Instr.lookup,ZY e,XC hb,f,h1,d,Result.andThen]
theorem zdN{b:Nat}{l:List (zaM × Nat)}{w:World}(M:MpAt w b l)(k:zaM)(v:Nat)(g:-9223372036854775808<=k.1/\k.1<9223372036854775808)(i:zbK l k=none):
 ∃o:Obj,∀W:World,W.heap[b]? = w.heap[b]? -> (Instr.mapUpdate 240 (.map (some b)) (keyV k) (.int .i64 (v:Int))).run prog W=.ok () (ChangeMaps.setBlock W b o)/\MpAt (ChangeMaps.setBlock W b o) b (l++[(k,v)]):=by
 obtain⟨es,a,hb,f⟩:=M;obtain⟨m,d⟩:=zof k g;have e:=zeC l k 0;have h:prog.underlying 240=some (.map 275 3):=by kernel_rfl
 rw[i]at e;refine⟨.map (es.push ⟨keyV k,.int .i64 (v:Int),a⟩) (a+1),λW c=>?_⟩;rw[hb]at c;have h1:=zhx l es k W f;have j:=zk9.check W false d;generalize zjt l k 0=r at *;cases r <;> simp at e
 refine⟨by simp[Instr.mapUpdate,ZY h,XC c,j,h1,MapKept.run_setObj_map _ c,Result.andThen,ChangeMaps.setBlock],es.push ⟨keyV k,.int .i64 (v:Int),a⟩,a+1,?_,by simp[f]⟩;simp[ChangeMaps.setBlock,(Q1.1 c).1]
section
open Go.Shelf Go.Lib
def ziq:Go.Shelf.Ren:=⟨λ|6=>220|7=>179|n=>n,λ|0=>0|3=>3|4=>4|22=>273|24=>275|n=>n,λn=>n⟩
theorem zoJ:SlLaysQ.n7 prog ziq:=by constructor<;>first|kernel_rfl|(intro _;kernel_rfl)|decide|exact⟨f220.name,by decide,func220.trans (Zt some (by kernel_rfl))⟩|exact⟨f179.name,by decide,func179.trans (Zt some (by kernel_rfl))⟩
def encK(k:zaM):List Value:=[.int .i64 k.1,.int .u8 k.2.toNat]
theorem eqlK:EqlAt prog 275 (λk=>.agg (encK k).toArray) (λa b=>decide (a=b)):=by
 refine⟨λx y w=>?_,GuardAt.agg _ (by kernel_rfl)⟩;have d:prog.underlying 275=some (.struct (prog.fieldsOf 275)):=by kernel_rfl
 have c:prog.stoodInHeld 275=false:=by kernel_rfl
 have h:=zim x y w;unfold Op.equal keyV at h;simp only[encK];rw[run_eql_struct];exact(Zt (λr=>Result.andThen r λb w'=>Result.ok (Value.bool b) w') h).trans rfl
theorem zyA(b d n c:Nat)(f:List zaM)(x:zaM)(w:World)(k:n<=f.length)(g:n<=9223372036854775807)
 (l:∀j,j<f.length->∀i v,(encK f[j]!)[i]? = some v->w.cell? ⟨b,d+j*2+i,none⟩=some v):
 Calls prog 179 #[.slice (some ⟨b,d,none⟩) n c,keyV x] w λe w'=>e=.returned (.bool ((f.take n).any λy=>decide (x=y)))/\Below w.heap.size w w':=by
 have h:=AnyQ.slices_Contains zoJ 2 isAgg275 sizeOf275 encK (λ_=>rfl) (λa b=>decide (a=b)) eqlK b d n c f x w k g l;exact h
end
section
open Go.Shelf Go.Lib Go.Sort
def zf8:Go.Shelf.Ren:=⟨λ|6=>180|14=>221|15=>184|20=>260|21=>261|22=>262|23=>263|24=>264|25=>265|26=>266|27=>267|28=>231|29=>170|46=>291|47=>269|48=>270|49=>292|50=>293|57=>308|n=>n,λ|0=>0|3=>3|4=>4|5=>5|9=>9|22=>273|24=>275|25=>278|39=>213|45=>297|46=>298|50=>295|53=>30|55=>180|66=>333|70=>272|76=>363|77=>364|n=>n,λn=>n⟩
theorem zkS:SlLaysF0.n6 prog zf8:=by constructor<;>first|kernel_rfl|(intro _;kernel_rfl)|decide|exact⟨f180.name,by decide,func180.trans (Zt some (by kernel_rfl))⟩|exact⟨f221.name,by decide,func221.trans (Zt some (by kernel_rfl))⟩|exact⟨f260.name,by decide,func260.trans (Zt some (by kernel_rfl))⟩|exact⟨f261.name,by decide,func261.trans (Zt some (by kernel_rfl))⟩|exact⟨f262.name,by decide,func262.trans (Zt some (by kernel_rfl))⟩|exact⟨f263.name,by decide,func263.trans (Zt some (by kernel_rfl))⟩|exact⟨f264.name,by decide,func264.trans (Zt some (by kernel_rfl))⟩|exact⟨f265.name,by decide,func265.trans (Zt some (by kernel_rfl))⟩|exact⟨f266.name,by decide,func266.trans (Zt some (by kernel_rfl))⟩|exact⟨f267.name,by decide,func267.trans (Zt some (by kernel_rfl))⟩|exact⟨f291.name,by decide,func291.trans (Zt some (by kernel_rfl))⟩|exact⟨f292.name,by decide,func292.trans (Zt some (by kernel_rfl))⟩|exact⟨f293.name,by decide,func293.trans (Zt some (by kernel_rfl))⟩|exact⟨f308.name,by decide,func308.trans (Zt some (by kernel_rfl))⟩
abbrev zhQ:=Fin 65536 × UInt8
def encS(k:zhQ):List Value:=[.int .i64 (k.1.val:Int),.int .u8 k.2.toNat]
def cmpS(x y:zhQ):Int:=((x.1.val:Int)-y.1.val)*256+x.2.toNat-y.2.toNat
theorem ltS(x y:zhQ):ltOf cmpS x y=decide (x.1.val<y.1.val\/x.1.val=y.1.val/\x.2.toNat<y.2.toNat):=by
 have h1:=x.2.toNat_lt;have h2:=y.2.toNat_lt;unfold ltOf cmpS
 apply decide_eq_decide.2
 omega
theorem swoS:SWO (ltOf cmpS) where
 irrefl x:=by rw[ltS];simp
 trans x y z h1 h2:=by rw[ltS]at *;simp only[QY]at *;omega
 ntrans x y z h1 h2:=by rw[ltS]at *;simp only[decide_eq_false_iff_not]at *;omega
theorem zsa(x y:zhQ)(W:World):Calls prog 181 #[.agg (encS x).toArray,.agg (encS y).toArray] W λe w'=>e=.returned (.int .i64 (cmpS x y))/\∃q f,w'=grow (W.drewN q) f:=by
 obtain⟨i,h⟩:=x;obtain⟨g,j⟩:=y;unfold encS cmpS;have h1:=i.isLt;have h2:=g.isLt;have o:=h.toNat_lt;have m:=j.toNat_lt;simp only;generalize i.val=a at *;generalize g.val=b at *;generalize h.toNat=c at *;generalize j.toNat=d at *;have p:IntKind.i64.wrap ((a:Int)-b)=(a:Int)-b:=by simp[IntKind.wrap,IntKind.bits,IntKind.signed];omega
 have n:IntKind.i64.wrap (((a:Int)-b)*256)=((a:Int)-b)*256:=by simp[IntKind.wrap,IntKind.bits,IntKind.signed];omega
 have r:IntKind.i64.wrap (((a:Int)-b)*256+c)=((a:Int)-b)*256+c:=by simp[IntKind.wrap,IntKind.bits,IntKind.signed];omega
 have s:IntKind.i64.wrap (((a:Int)-b)*256+c-d)=((a:Int)-b)*256+c-d:=by simp[IntKind.wrap,IntKind.bits,IntKind.signed];omega
 have k:IntKind.i64.wrap (c:Int)=c:=by simp[IntKind.wrap,IntKind.bits,IntKind.signed];omega
 have l:IntKind.i64.wrap (d:Int)=d:=by simp[IntKind.wrap,IntKind.bits,IntKind.signed];omega
 go_in
 go_wp2
 go_ret;exact⟨rfl,0,_,by rw[alloc_eq_grow,alloc_eq_grow,grow_grow];rfl⟩
theorem zmG(v:zaM)(w:World):Calls prog 220 #[.slice none 0 0,keyV v] w λe w'=>e=.returned (.int .i64 (-1))/\∃q os,w'=grow (w.drewN q) os:=by
 unfold keyV
 go_in
 go_wp2_with fail
 go_loop [8] (λi=>i=.int .i64 0) (λ_=>0)
 case atStart=>rfl
 case round=>
  subst hrel;go_wp2;go_ret;exact⟨rfl,0,_,by rw[alloc_eq_grow];rfl⟩
theorem zoB(v:zaM)(w:World):Calls prog 179 #[.slice none 0 0,keyV v] w λe w'=>e=.returned (.bool false)/\Below w.heap.size w w':=by
 have a:=λW=>zmG v W
 unfold keyV at a ⊢
 go_in
 go_wp2_with (go_at_call 220;refine(a _).mono ?_;rintro e w' ⟨rfl,q,os,rfl⟩);go_ret;refine⟨rfl,?_⟩;rw[alloc_eq_grow];exact Below.trans (below_grow w.heap.size w (Qd _) 0 #[.cells #[.int .i64 v.1,.int .u8 v.2.toNat] 275]) (below_grow _ _ (by simp[grow]) q os)
end
structure MkF(w:World)(gm g bm cap:Nat)(ns:List zaC)(l:List (zaM × Nat)):Prop where
 nodes:w.cell? ⟨gm,0,none⟩=some (.slice (some ⟨g,0,none⟩) ns.length cap)
 next:w.cell? ⟨gm,1,none⟩=some (.map (some bm))
 fail:∀j n,ns[j]? = some n->w.cell? ⟨g,j*4+2,none⟩=some (.int .i64 (n.fail:Int))
 map:MpAt w bm l
 lt:gm<w.heap.size/\g<w.heap.size
theorem ziP(a:Nat)(b:UInt8)(w:World):Calls prog 182 #[.pointer (some ⟨a,0,none⟩),.agg #[.int .i64 0,.int .u8 b.toNat]] w λe w'=>e=.returned (.int .i64 0)/\Below w.heap.size w w':=by
 go_in
 go_wp2;go_ret;exact⟨rfl,by rw[Go.Sort.alloc_eq_grow];exact Go.Lib.below_grow w.heap.size w (Qd _) 0 _⟩
def NextOk(c:List zaC)(l:List (zaM × Nat)):Prop:=∀(a:Nat) (b:UInt8) (j:Nat),zbK l ((a:Int),b)=some j↔0<j/\∃n,c[j]? = some n/\n.up=a/\n.b=b
def zn8(a:List (List UInt8))(u:List UInt8)(r:Nat):Prop:=∃v,a[r]? = some v/\zfG a u v
theorem zrp(d:List zaC)(s:List (List UInt8))(D:Inv d s)(l:List (zaM × Nat))(B g z cap up:Nat)(hl:∀(a:Nat) (b:UInt8) (j:Nat),a<up->(zbK l ((a:Int),b)=some j↔0<j/\∃n,d[j]? = some n/\n.up=a/\n.b=b))(b:UInt8)(y:zaC)(f:List UInt8)(p:d[up]? = some y)(_:up≠0)(K:FailAt s f b y.fail)(G:y.fail<up)(hb:d.length<9223372036854775808)
 (w:World) (M:MkF w B g z cap d l):
 Calls prog 182 #[.pointer (some ⟨B,0,none⟩),.agg #[.int .i64 (up:Int),.int .u8 b.toNat]] w λe w'=>(∃r:Nat,e=.returned (.int .i64 (r:Int))/\zn8 s (f++[b]) r)/\Below w.heap.size w w':=by
 have h1:=M.nodes;have h2:=M.next;have h3:=M.fail up y p;have l1:B<w.heap.size:=M.lt.1;have l2:g<w.heap.size:=M.lt.2;have Y:B≠w.heap.size:=by omega
 have Z:g≠w.heap.size:=by omega
 have P:up<d.length:=(Qw.1 p).1;have C:=hIx K;have J:∀a x,d[a]? = some x->a<d.length:=λa x h=>(Qw.1 h).1
 have A:∀a,a<d.length->∃x,d[a]? = some x:=λa h=>⟨_,Qc h⟩
 have L:∀(a:Nat) (o:Obj) (q:Nat),a<d.length->(Instr.lookup 240 (.map (some z)) (.agg #[.int .i64 (a:Int),.int .u8 b.toNat]) true).run prog ((w.alloc o).drewN q)=.ok (.tuple #[.int .i64 (((zbK l ((a:Int),b)).getD 0:Nat):Int),.bool (zbK l ((a:Int),b)).isSome]) ((w.alloc o).drewN q):=λa o q O=>by
  refine zdj (k:=((a:Int),b)) ?_ ⟨by omega,by show (a:Int)<_;omega⟩;obtain⟨es,T,I,W⟩:=M.map;refine⟨es,T,?_,W⟩;have:z<w.heap.size:=(Q1.1 I).1;show (w.heap.push o)[z]? = _
  rw[Array.getElem?_push_lt this];exact(Array.getElem?_eq_getElem this).symm.trans I
 have S:=hIx M.fail;generalize d.length=n at *;clear K p
 go_in
 go_wp2_with (fail)
 go_quiet (fail)
 go_wp2
 go_loopw [5] (λi wr=>∃a:Nat,a<up/\i=.int .i64 (a:Int)/\Hid (FailAt s f b a)/\∃q,wr=(w.alloc (.cells #[.int .i64 (up:Int),.int .u8 b.toNat] 275)).drewN q) (λi _=>(intOf i).toNat)
 case atStart=>exact⟨y.fail,G,rfl,C,_,rfl⟩
 case round=>
  obtain⟨a,O,rfl,c,q,rfl⟩:=hrel;have v:=λq=>L a (.cells #[.int .i64 (up:Int),.int .u8 b.toNat] 275) q (by omega)
  have t:=hIx (λj=>hl a b j O);clear L;generalize zbK l ((a:Int),b)=r at v t;cases r with
  |some j=>
   simp only[XF,Option.isSome_some]at v;have F:Hid (zn8 s (f++[b]) j):=hIx (c.out.found D ((t.out j).1 rfl));clear c t C;go_wp2_with fail
   go_quiet (fail)
   go_wp2;go_ret;exact⟨⟨j,rfl,F.out⟩,by repeat (first|exact Below.alloc (Qg _ _) (Qd _) _|apply below_drewN_q)⟩
  |none=>
   have m:∀j,¬(0<j/\∃x,d[j]? = some x/\x.up=a/\x.b=b):=λj h=>by cases (t.out j).2 h
   simp only[XG,Option.isSome_none]at v
   by_cases H:a=0
   ·subst H
    have F:Hid (zn8 s (f++[b]) 0):=hIx ⟨[],D.trie.root,c.out.none D m⟩;have Q:∀q,(Instr.lookup 240 (.map (some z)) (.agg #[.int .i64 0,.int .u8 b.toNat]) true).run prog ((w.alloc (.cells #[.int .i64 (up:Int),.int .u8 b.toNat] 275)).drewN q)=.ok (.tuple #[.int .i64 0,.bool false]) ((w.alloc (.cells #[.int .i64 (up:Int),.int .u8 b.toNat] 275)).drewN q):=v;clear c t C m v;go_wp2_with fail
    go_quiet (fail)
    go_wp2;go_ret;exact⟨⟨0,rfl,F.out⟩,by repeat (first|exact Below.alloc (Qg _ _) (Qd _) _|apply below_drewN_q)⟩
   ·obtain⟨x,N⟩:=A a (by omega)
    have E:=S.out a x N;obtain⟨u,V⟩:=c.out.next D (by omega) N m;have U:=hIx u;clear c t C m u;go_wp2_with fail
    go_quiet (fail)
    go_wp2;exact⟨⟨x.fail,by omega,rfl,U,_,rfl⟩,by simp[intOf] <;> omega⟩
abbrev SlT:=Option Addr × Nat × Nat
def slV(s:SlT):Value:=.slice s.1 s.2.1 s.2.2
abbrev zcK:=zaC × SlT
def ztr(x:zcK):List Value:=[.int .u8 x.1.b.toNat,.int .i64 (x.1.up:Int),.int .i64 (x.1.fail:Int),slV x.2]
def rowN:RowT zcK where
 e:=239
 t:=192
 size:=4
 bytes:=48
 z:=.agg #[.int .u8 0,.int .i64 0,.int .i64 0,.slice none 0 0]
 cells:=ztr
 hsz _:=rfl
 hpos:=by decide
 under:=underlying192
 info:=by kernel_rfl
 hz:=rfl
 one x u hu:=by
  simp only[ztr,QJ,ZR,X0]at hu
  rcases hu with rfl|rfl|rfl|rfl <;> rfl
 hbytes:=by decide
def rowE:RowT (Nat × UInt8) where
 e:=275
 t:=273
 size:=2
 bytes:=16
 z:=.agg #[.int .i64 0,.int .u8 0]
 cells x:=[.int .i64 (x.1:Int),.int .u8 x.2.toNat]
 hsz _:=rfl
 hpos:=by decide
 under:=underlying273
 info:=by kernel_rfl
 hz:=rfl
 one x u hu:=by
  simp only[QJ,ZR,X0]at hu
  rcases hu with rfl|rfl <;> rfl
 hbytes:=by decide
def rowI:RowT Nat where
 e:=3
 t:=31
 size:=1
 bytes:=8
 z:=.int .i64 0
 cells x:=[.int .i64 (x:Int)]
 hsz _:=rfl
 hpos:=by decide
 under:=underlying31
 info:=by kernel_rfl
 hz:=rfl
 one x u hu:=by
  rw[QE]at hu;rw[hu];rfl
 hbytes:=by decide
theorem zyx{w:World}{g:Nat}{cs:Array Value}{t:TypeId}{a:Nat × Nat}(h:w.heap[g]? = some (.cells cs t a))(j:Nat)(v:Value):(w.setCell ⟨g,j,none⟩ v).heap[g]? = some (.cells (cs.setIfInBounds j v) t a):=by
 simp[World.setCell,Q8,h]
theorem zc2{w:World}{g:Nat}{o:Obj}(h:w.heap[g]? = some o):g<w.heap.size:=(Q1.1 h).1
theorem OwnG.apart{d:Type}{R:RowT d}{w:World}{base g:Nat}{v:Value}{l:List d}(h:OwnG R w base v l){o:Obj}(k:w.heap[g]? = some o)(b:∀cs i,o≠.cells cs R.e i):v.ownBlock≠some g:=by
 intro j;obtain⟨c,f,a⟩:=XD h g j;rw[k]at a;injection a with a
 exact b _ _ a
def zjD(g cap n c b a d:Nat):Obj:=.cells #[.slice (some ⟨g,0,none⟩) n cap,.map (some c),.slice (some ⟨b,0,none⟩) a d] 242
structure Mk(w:World)(B gm bm ga ca g cap:Nat)(ms:List zcK)(l:List (zaM × Nat))(ats:List Nat):Prop where
 blk:w.heap[gm]? = some (zjD g cap ms.length bm ga ats.length ca)
 own:OwnG rowN w B (.slice (some ⟨g,0,none⟩) ms.length cap) ms
 aown:OwnG rowI w B (.slice (some ⟨ga,0,none⟩) ats.length ca) ats
 map:MpAt w bm l
 low:B<=gm/\B<=bm
section
variable {w:World} {B gm bm ga ca g cap:Nat} {ms:List zcK} {l:List (zaM × Nat)} {ats:List Nat}
theorem Mk.lt(h:Mk w B gm bm ga ca g cap ms l ats):gm<w.heap.size/\g<w.heap.size/\ga<w.heap.size/\bm<w.heap.size:=by
 obtain⟨es,a,hb,_⟩:=h.map;exact⟨zc2 h.blk,(h.own.lt g rfl).2,(h.aown.lt ga rfl).2,zc2 hb⟩
theorem Mk.base(h:Mk w B gm bm ga ca g cap ms l ats):B<=gm/\B<=g/\B<=ga/\B<=bm:=⟨h.low.1,(h.own.lt g rfl).1,(h.aown.lt ga rfl).1,h.low.2⟩
theorem Mk.ne(h:Mk w B gm bm ga ca g cap ms l ats):gm≠g/\gm≠ga/\gm≠bm/\g≠ga/\g≠bm/\ga≠bm:=by
 obtain⟨es,k,hb,_⟩:=h.map;have h1:=h.own.apart h.blk λcs a e=>by unfold zjD at e;injection e with _ e;exact absurd e (by decide)
 have h2:=h.aown.apart h.blk λcs a e=>by unfold zjD at e;injection e with _ e;exact absurd e (by decide)
 have i:=h.own.apart hb λcs a e=>by cases e
 have b:=h.aown.apart hb λcs a e=>by cases e
 obtain⟨c,f,j⟩:=XD h.own g rfl;have d:=h.aown.apart j λcs a e=>by injection e with _ e;exact absurd e (by decide)
 refine⟨λe=>h1 (by rw[e];rfl),λe=>h2 (by rw[e];rfl),λe=>?_,λe=>d (by rw[e];rfl),λe=>i (by rw[e];rfl),λe=>b (by rw[e];rfl)⟩;have:=h.blk;rw[e,hb]at this;injection this with this
 unfold zjD at this;cases this
theorem Mk.cells(h:Mk w B gm bm ga ca g cap ms l ats):w.cell? ⟨gm,0,none⟩=some (.slice (some ⟨g,0,none⟩) ms.length cap)/\w.cell? ⟨gm,1,none⟩=some (.map (some bm))/\w.cell? ⟨gm,2,none⟩=some (.slice (some ⟨ga,0,none⟩) ats.length ca)/\w.frozen? ⟨gm,0,none⟩=false:=by
 have hb:=h.blk;unfold zjD at hb;exact⟨Qf w gm 0 _ _ _ hb,Qf w gm 1 _ _ _ hb,Qf w gm 2 _ _ _ hb,by simp[World.frozen?, hb]⟩
theorem Mk.at(h:Mk w B gm bm ga ca g cap ms l ats)(k:Nat)(a:k<ats.length):w.cell? ⟨ga,k,none⟩=some (.int .i64 (ats[k]:Int))/\w.frozen? ⟨ga,k,none⟩=false:=by
 have:=h.aown.at k a 0 (by decide);rw[show k*rowI.size+0=k by simp[rowI]]at this;exact this
theorem Mk.fail(h:Mk w B gm bm ga ca g cap ms l ats)(j:Nat)(n:zaC)(e:(ms.map Prod.fst)[j]? = some n):w.cell? ⟨g,j*4+2,none⟩=some (.int .i64 (n.fail:Int)):=by
 have a:j<ms.length:=by have:=(Qw.1 e).1;simpa using this
 have:=(h.own.at j a 2 (by decide)).1;refine this.trans ?_;rw[ZW,Qc a]at e;have e:=QD e;rw[<-e];rfl
theorem Mk.toF(h:Mk w B gm bm ga ca g cap ms l ats):MkF w gm g bm cap (ms.map Prod.fst) l where
 nodes:=by rw[Qh];exact h.cells.1
 next:=h.cells.2.1
 fail:=h.fail
 map:=h.map
 lt:=⟨h.lt.1,h.lt.2.1⟩
theorem MpAt.keep{w w':World}{b:Nat}{l:List (zaM × Nat)}(h:MpAt w b l)(a:w'.heap[b]? = w.heap[b]?):MpAt w' b l:=by
 obtain⟨es,d,hb,c⟩:=h;exact⟨es,d,a.trans hb,c⟩
theorem Mk.below(h:Mk w B gm bm ga ca g cap ms l ats){w':World}(hb:Below w.heap.size w w'):Mk w' B gm bm ga ca g cap ms l ats where
 blk:=(hb.block gm h.lt.1).trans h.blk
 own:=h.own.below hb
 aown:=h.aown.below hb
 map:=h.map.keep (hb.block bm h.lt.2.2.2)
 low:=h.low
theorem Mk.put(h:Mk w B gm bm ga ca g cap ms l ats){o:Obj}{c:List (zaM × Nat)}(d:MpAt (ChangeMaps.setBlock w bm o) bm c):Mk (ChangeMaps.setBlock w bm o) B gm bm ga ca g cap ms c ats:=by
 obtain⟨n,n2,n3,p,m,f⟩:=h.ne
 have a:∀j,bm≠j->(ChangeMaps.setBlock w bm o).heap[j]? = w.heap[j]? := λj i=>by
  simp[ChangeMaps.setBlock,Xp i]
 exact {blk:=(a gm (XB n3)).trans h.blk,own:=h.own.keep λk e=>a k λb=>m (by injection e with e;rw[b];exact e),aown:=h.aown.keep λk e=>a k λb=>f (by injection e with e;rw[b];exact e),map:=d,low:=h.low}
theorem Mk.push(h:Mk w B gm bm ga ca g cap ms l ats){w':World}{v':Value}{b:List zcK}(m:OwnG rowN w' B v' b)(p:0<b.length)(i:∀j,j<w.heap.size->g≠j->w'.heap[j]? = w.heap[j]?):
 ∃c a,v'=.slice (some ⟨c,0,none⟩) b.length a/\Mk (w'.setCell ⟨gm,0,none⟩ v') B gm bm ga ca c a b l ats:=by
 obtain⟨x,n2,n3,q,o,z⟩:=h.ne;obtain⟨v,A,s,t⟩:=h.lt;obtain⟨c,a,rfl,_,_⟩:=m.head p;have d:w'.heap[gm]? = some (zjD g cap ms.length bm ga ats.length ca):=(i gm v (XB x)).trans h.blk;have f:c≠gm:=λe=>m.apart d (λcs y e=>by unfold zjD at e;injection e with _ e;exact absurd e (by decide)) (by rw[e];rfl)
 have n:∀j,gm≠j->(w'.setCell ⟨gm,0,none⟩ (.slice (some ⟨c,0,none⟩) b.length a)).heap[j]? = w'.heap[j]? := λj u=>Ql w' ⟨gm,0,none⟩ _ j (XB u)
 refine⟨c,a,rfl,⟨?_,m.keep λk e=>n k λr=>f (by injection e with e;rw[r];exact e),h.aown.keep λk e=>?_,h.map.keep ?_,h.low⟩⟩
 ·unfold zjD at d
  have:=zyx d 0 (.slice (some ⟨c,0,none⟩) b.length a);exact this
 ·injection e with e
  subst e;exact(n _ n2).trans (i _ s q)
 ·exact(n _ n3).trans (i _ t o)
theorem Mk.setAt(h:Mk w B gm bm ga ca g cap ms l ats)(k:Nat)(b:k<ats.length)(x:Nat):Mk (w.setCell ⟨ga,k,none⟩ (.int .i64 (x:Int))) B gm bm ga ca g cap ms l (ats.set k x):=by
 obtain⟨n,n2,n3,i,m,c⟩:=h.ne;have a:∀j,ga≠j->(w.setCell ⟨ga,k,none⟩ (.int .i64 (x:Int))).heap[j]? = w.heap[j]? := λj d=>Ql w ⟨ga,k,none⟩ _ j (XB d)
 refine⟨by rw[Xn];exact(a gm (XB n2)).trans h.blk,h.own.keep λj e=>a j λf=>i (by injection e with e;rw[f];exact e),?_,h.map.keep (a bm c),h.low⟩;have:=(h.aown.stored k b 0 (by decide) (.int .i64 (x:Int)) x rfl).1;rw[show k*rowI.size+0=k by simp[rowI]]at this;rw[Xn];exact this
end
theorem zdg(w:World)(B b:Nat)(o:Obj)(a:B<=b):Below B w (ChangeMaps.setBlock w b o) where
 os:=rfl
 tape:=rfl
 output:=rfl
 size:=by simp[ChangeMaps.setBlock]
 block j hj:=by simp[ChangeMaps.setBlock,Xp (show b≠j by omega)]
theorem zwf{base:Nat}{v:Value}{l:List (Nat × UInt8)}{W:World}(h:OwnG rowE W base v l)(hl:l.length<=4096)(e:Nat × UInt8):
 Calls prog 179 #[v,.agg #[.int .i64 (e.1:Int),.int .u8 e.2.toNat]] W λr w'=>r=.returned (.bool (decide (e∈l)))/\Below W.heap.size W w':=by
 rcases h.cases with ⟨rfl,rfl⟩|⟨g,c,rfl,_,_⟩
 ·have:=zoB ((e.1:Int),e.2) W
  unfold keyV at this
  simpa using this
 ·have:=zyA g 0 l.length c (l.map λx=>((x.1:Int),x.2)) ((e.1:Int),e.2) W (by simp) (by omega) λj k i v f=>by
   have d:j<l.length:=by simpa using k
   have b:i<2:=(Qw.1 f).1;have:=(h.at j d i b).1;rw[Zc];refine this.trans (Eq.trans ?_ f);rw[getElem!_pos _ j k,Zd]
   rfl
  unfold keyV at this;rw[show (((l.map λx=>((x.1:Int),x.2)).take l.length).any λy=>decide ((((e.1:Int),e.2):zaM)=y))=decide (e∈l)from ?_]at this
  ·exact this
  ·rw[QC (by simp),List.any_map]
   by_cases a:e∈l
   ·rw[Qu a,Xq]
    exact⟨e,a,by simp⟩
   ·rw[Qs a,List.any_eq_false]
    intro y n;simp only[Function.comp_apply,QY];intro o;injection o with p m
    exact a (by rw[show e=y from Prod.ext (by omega) m];exact n)
theorem zgK:∀(l:List (zaM × Nat)) (p:zaM × Nat) (k:zaM),zbK (l++[p]) k=(zbK l k).or (if k=p.1 then some p.2 else none)
 | [],p,k=>by simp[zbK]
 |q::l,p,k=>by
  rw[ZS,zbK,zbK]
  by_cases h:k=q.1
  ·rw[Qi h,Qi h];rfl
  ·rw[Qe h,Qe h];exact zgK l p k
theorem NextOk.start:NextOk [⟨0,0,0⟩] []:=λa b j=>by
 constructor
 ·intro h;cases h
 ·rintro⟨c,n,h1,_⟩
  have:j<1:=(Qw.1 h1).1;omega
theorem NextOk.add{d:List zaC}{l:List (zaM × Nat)}(h:NextOk d l)(x:zaC)(m:0<d.length)(i:zbK l ((x.up:Int),x.b)=none):NextOk (d++[x]) (l++[(((x.up:Int),x.b),d.length)]):=λa b j=>by
 rw[zgK];have k:=h a b
 by_cases e:((a:Int),b)=((x.up:Int),x.b)
 ·obtain⟨o,rfl⟩:=Prod.mk.inj e
  obtain rfl:a=x.up:=by omega
  rw[i,Qi rfl]
  constructor
  ·intro f
   obtain rfl:d.length=j:=by simpa using f
   exact⟨m,x,by simp,rfl,rfl⟩
  ·rintro⟨f,n,h1,h2,g⟩
   by_cases c:j<d.length
   ·rw[Zo c]at h1
    have:=(k j).2 ⟨f,n,h1,h2,g⟩;rw[i]at this;cases this
   ·have:=(Qw.1 h1).1
    rw[Qa,QG]at this;obtain rfl:j=d.length:=by omega
    rfl
 ·rw[Qe e,Option.or_none,k j]
  constructor
  ·rintro⟨f,n,h1,h2⟩
   have c:=(Qw.1 h1).1;exact⟨f,n,by rw[Zo c];exact h1,h2⟩
  ·rintro⟨f,n,h1,h2,g⟩
   by_cases c:j<d.length
   ·rw[Zo c]at h1
    exact⟨f,n,h1,h2,g⟩
   ·have:=(Qw.1 h1).1
    rw[Qa,QG]at this;obtain rfl:j=d.length:=by omega
    simp at h1;subst h1;subst h2;subst g
    exact absurd rfl e
theorem zlD(W:World)(b j:Nat)(o:Obj)(h:b≠j):(ChangeMaps.setBlock W b o).heap[j]? = W.heap[j]? := by
 simp[ChangeMaps.setBlock,Xp h]
theorem zeo{w w':World}{g:Nat}(h:w'.heap[g]? = w.heap[g]?)(i:Nat):w'.cell? ⟨g,i,none⟩=w.cell? ⟨g,i,none⟩:=by simp only[World.cell?, h]
theorem zna{w w':World}{g:Nat}(h:w'.heap[g]? = w.heap[g]?)(i:Nat):w'.frozen? ⟨g,i,none⟩=w.frozen? ⟨g,i,none⟩:=by simp only[World.frozen?, h]
theorem MkF.drew{w:World}{c g a cap:Nat}{b:List zaC}{l:List (zaM × Nat)}(h:MkF w c g a cap b l):MkF w.drew c g a cap b l:=⟨h.nodes,h.next,h.fail,h.map,h.lt⟩
def zxL(a:List (List UInt8))(p:List UInt8)(b:UInt8)(r:Nat):Prop:=
 ∃f,a[r]? = some f/\f∈a/\f <:+p++[b]/\f≠p++[b]/\∀u,u∈a->u <:+p++[b]->u≠p++[b]->u <:+f
theorem zxH{d:List zaC}{c:List (List UInt8)}(f:Inv d c){l:List (zaM × Nat)}(hl:NextOk d l){up:Nat}{b:UInt8}{p:List UInt8}(e:c[up]? = some p)(a:p++[b] ∉ c):zbK l ((up:Int),b)=none:=by
 cases h:zbK l ((up:Int),b)with
 |none=>rfl
 |some j=>exact absurd (Xf ((f.kid e).2 ((hl up b j).1 h))) a
theorem zup{k:List zaC}{m:List (List UInt8)}(i:Inv k m){l:List (zaM × Nat)}(hl:NextOk k l)(hb:k.length<=400){up:Nat}{b:UInt8}{p:List UInt8}(t:m[up]? = some p)(o:p++[b] ∉ m)(x:Nat)
 {s g z cap:Nat} {w:World} (M:MkF w s g z cap k (l++[(((up:Int),b),x)])):
 Calls prog 182 #[.pointer (some ⟨s,0,none⟩),.agg #[.int .i64 (up:Int),.int .u8 b.toNat]] w λe w'=>(∃r:Nat,e=.returned (.int .i64 (r:Int))/\zxL m p b r)/\Below w.heap.size w w':=by
 by_cases y:up=0
 ·subst y
  refine(ziP s b w).mono ?_;rintro e w' ⟨rfl,h⟩;rw[i.trie.root]at t;obtain rfl:=QD t;exact⟨⟨0,rfl,[],i.trie.root,zuV i.trie⟩,h⟩
 ·obtain⟨A,q⟩:∃n,k[up]? = some n:=⟨_,Qc (i.lt t)⟩
  obtain⟨h1,f,h2,B⟩:=i.fail_at (by omega) q t;refine(zrp k m i _ s g z cap up (λa c j D=>?_) b A f q y (zne h2) h1 (by omega) w M).mono ?_
  ·rw[zgK,Qe (λe=>by injection e with e _;omega),Option.or_none]
   exact hl a c j
  ·rintro e w' ⟨⟨r,rfl,v,C,d⟩,u⟩
   exact⟨⟨r,rfl,v,C,znj B d i.trie o⟩,u⟩
def EdgesAt(w:World)(base:Nat)(v:Value)(l:List (Nat × UInt8)):Prop:=
 ∃A c,v=.slice A l.length c/\(0<l.length->∃(g:Nat) (cs:Array Value) (a:Nat × Nat),A=some ⟨g,0,none⟩/\base<=g/\w.heap[g]? = some (.cells cs 275 a)/\∀j (h:j<l.length),cs[j*2]? = some (.int .i64 (l[j].1:Int))/\cs[j*2+1]? = some (.int .u8 l[j].2.toNat))
theorem EdgesAt.at{w:World}{base:Nat}{v:Value}{l:List (Nat × UInt8)}(h:EdgesAt w base v l)(k:Nat)(b:k<l.length):
 ∃g cs a c,v=.slice (some ⟨g,0,none⟩) l.length c/\base<=g/\w.heap[g]? = some (.cells cs 275 a)/\w.cell? ⟨g,k*2,none⟩=some (.int .i64 (l[k].1:Int))/\w.cell? ⟨g,k*2+1,none⟩=some (.int .u8 l[k].2.toNat):=by
 obtain⟨A,c,rfl,h⟩:=h;obtain⟨g,cs,a,rfl,h1,h2,d⟩:=h (by omega);exact⟨g,cs,a,c,rfl,h1,h2,(Qf w g (k*2) _ _ _ h2).trans (d k b).1,(Qf w g (k*2+1) _ _ _ h2).trans (d k b).2⟩
theorem EdgesAt.keep{w w':World}{base:Nat}{v:Value}{l:List (Nat × UInt8)}(h:EdgesAt w base v l)(b:∀(g:Nat) cs a,w.heap[g]? = some (.cells cs 275 a)->w'.heap[g]? = w.heap[g]?):EdgesAt w' base v l:=by
 obtain⟨A,c,rfl,h⟩:=h;refine⟨A,c,rfl,λd=>?_⟩;obtain⟨g,cs,a,e,h1,h2,f⟩:=h d;exact⟨g,cs,a,e,h1,(b g cs a h2).trans h2,f⟩
section
open Go.Shelf Go.Lib Go.Sort
theorem ztv(blk a cap:Nat)(d:Array zhQ)(w:World)(g:HoldsK encS 2 w blk a d)(b:blk<w.heap.size)(c:d.size<4611686018427387904):
 Calls prog 180 #[.slice (some ⟨blk,a,none⟩) d.size cap,.func (.func 181) #[] #[]] w λe w'=>
  e=.returned (.tuple #[])/\∃d' n os,PermIn 0 d.size d d'/\SortedIn (ltOf cmpS) 0 d.size d'/\w'=sortWorldK encS 2 w blk a n d' os:=
 AnyQ.slices_SortFunc zkS 2 isAgg275 sizeOf275 encS (λ_=>rfl) (λx v f=>by simp[encS]at f;rcases f with rfl|rfl <;> rfl) cmpS swoS 181 #[] blk a cap d w
  (enters_of func181 (by kernel_rfl) rfl) (λ_ _ _ _ x y=>zsa x y _) g b c
theorem zu3{d d':Array zhQ}(h:PermIn 0 d.size d d'):d'.toList.Perm d.toList:=by
 obtain⟨h1,_,h2⟩:=h;have a:d'.extract 0 d.size=d':=by rw[<-h1];simp
 have b:d.extract 0 d.size=d:=by simp
 rwa[a,b]at h2
end
theorem zyg(f:Value)(w:World):Calls prog 260 #[.slice none 0 0,.int .i64 0,.int .i64 0,f] w λe w'=>e=.returned (.tuple #[])/\w'=w:=by
 go_in
 go_wp2_with fail;refine Zs 1 ?_;rw[rounds_succ];go_wp2_with fail
 go_end0
 exact⟨rfl,rfl⟩
theorem zxX(f:Value)(m:Int)(w:World):Calls prog 221 #[.slice none 0 0,.int .i64 0,.int .i64 0,.int .i64 m,f] w λe w'=>e=.returned (.tuple #[])/\w'=w:=by
 have a:=λW=>zyg f W
 go_in
 go_wp2_with fail;refine Zs 1 ?_;rw[rounds_succ];go_wp2_with (go_at_call 260;refine(a _).mono ?_;rintro e w' ⟨rfl,rfl⟩)
 (try simp only[Exit.inBlock,Exit.then]);refine Qj (results_none rfl _ _ _) rfl ?_
 exact⟨rfl,rfl⟩
theorem zvg(f:Value)(w:World):Calls prog 180 #[.slice none 0 0,f] w λe w'=>e=.returned (.tuple #[])/\w'=w:=by
 have a:=λm W=>zxX f m W
 have hl:=λW=>bits_Len 0 W (by omega) (by omega)
 go_in
 go_wp2_with (first|(go_at_call 184;refine(hl _).mono ?_;rintro e w' ⟨rfl,rfl⟩)|(go_at_call 221;refine(a _ _).mono ?_;rintro e w' ⟨rfl,rfl⟩))
 go_end0
 exact⟨rfl,rfl⟩
section
open Go.Sort Go.Shelf Go.Lib
theorem zqA(B:Nat)(w:World)(blk a n:Nat)(d:Array zhQ)(os:Array Obj)(e:B<=blk)(b:B<=w.heap.size):Below B w (sortWorldK encS 2 w blk a n d os):=by
 unfold sortWorldK putRowK
 have h1:Below B w (putRow id (Sort.ahead w n) blk a (flatK encS 2 d)):=⟨rfl,rfl,rfl,by simp,λj c=>by
  unfold putRow mapBlock;show ((w.heap.modify blk _))[j]? = _
  rw[Q8,Qe (by omega)]⟩
 exact h1.trans (below_grow B _ (by simpa using b) 0 os)
def toS(e:Nat × UInt8):zhQ:=(⟨e.1 % 65536,XT _ (by decide)⟩,e.2)
def ofS(e:zhQ):Nat × UInt8:=(e.1.val,e.2)
theorem zAw{l:List (Nat × UInt8)}(h:∀e∈l,e.1<65536):(l.map toS).map ofS=l:=by
 rw[Xu];refine(List.map_congr_left λe a=>?_).trans (List.map_id l);have:=h e a;exact Prod.ext (Nat.mod_eq_of_lt this) rfl
theorem zs8{W:World}{g n:Nat}{d:Array zhQ}{os:Array Obj}{cs:Array Value}{t:TypeId}{c:Nat × Nat}(h:W.heap[g]? = some (.cells cs t c)):∃b,(sortWorldK encS 2 W g 0 n d os).heap[g]? = some (.cells b t c):=by
 have a:g<W.heap.size:=(Q1.1 h).1;refine⟨putCells id 0 (flatK encS 2 d) cs,?_⟩;unfold sortWorldK putRowK putRow mapBlock grow;show ((W.heap.modify g _)++os)[g]? = _
 rw[Array.getElem?_append_left (by simpa using a),Q8,Qi rfl,h]
 rfl
theorem zvC{w:World}{g:Nat}{d:Array zhQ}(h:HoldsK encS 2 w g 0 d)(j:Nat)(a:j<d.size):w.cell? ⟨g,j*2,none⟩=some (.int .i64 (d[j].1.val:Int))/\w.cell? ⟨g,j*2+1,none⟩=some (.int .u8 d[j].2.toNat):=by
 have b:=(h.cell a (show 0<2 by decide)).1;have h1:=(h.cell a (show 1<2 by decide)).1;rw[getElem!_pos d j a]at b h1;rw[show 0+j*2+0=j*2 by omega]at b;rw[show 0+j*2+1=j*2+1 by omega]at h1;exact⟨b,h1⟩
theorem zsc{W:World}{base g c:Nat}{l:List (Nat × UInt8)}(h:OwnG rowE W base (.slice (some ⟨g,0,none⟩) l.length c) l)(k:∀e∈l,e.1<65536):HoldsK encS 2 W g 0 (l.map toS).toArray:=by
 intro t f;rw[size_flatK]at f;have a:t / 2<l.length:=by simp at f;omega
 have j:t % 2<2:=XT _ (by decide);obtain⟨h1,h2⟩:=h.at (t / 2) a (t % 2) j;have e:t / 2*rowE.size+t % 2=t:=by show t / 2*2+t % 2=t;omega
 rw[e]at h1 h2;rw[Zc];refine⟨h1.trans ?_,h2⟩;have i:(l.map toS).toArray[t / 2]! = toS l[t / 2]:=by rw[getElem!_pos _ _ (by simpa using a)];simp
 rw[get_flatK _ _ _ _ f,i];have d:=k _ (Qy a)
 rcases Nat.mod_two_eq_zero_or_one t with b|b
 ·rw[b]
  show some (Value.int .i64 (l[t / 2].1:Int))=some (Value.int .i64 ((l[t / 2].1 % 65536:Nat):Int))
  rw[Nat.mod_eq_of_lt d]
 ·rw[b];rfl
theorem zvh{base:Nat}{v:Value}{l:List (Nat × UInt8)}{W:World}(h:OwnG rowE W base v l)(b:base<=W.heap.size)(u:∀e∈l,e.1<65536)(hl:l.length<=4096):
 Calls prog 180 #[v,.func (.func 181) #[] #[]] W λe w'=>
  e=.returned (.tuple #[])/\Below base W w'/\∃w,w.Perm l/\EdgesAt w' base v w:=by
 rcases h.cases with ⟨rfl,rfl⟩|⟨g,c,rfl,i,s⟩
 ·refine(zvg _ W).mono ?_
  rintro e w' ⟨rfl,rfl⟩;exact⟨rfl,Qg _ _,[],List.Perm.refl _,none,0,rfl,λh=>absurd h (by simp)⟩
 ·have t:=zsc h u
  have m:(l.map toS).toArray.size=l.length:=by simp
  have x:=ztv g 0 c (l.map toS).toArray W t s (by rw[m];omega);rw[m]at x;refine x.mono ?_;rintro e w' ⟨rfl,d',n,os,z,_,rfl⟩
  have f:d'.toList.Perm (l.map toS):=by
   have:=zu3 (d:=(l.map toS).toArray) (d':=d') (by rw[m];exact z)
   simpa using this
  have k:d'.size=l.length:=by have:=f.length_eq;simpa using this
  obtain⟨cs,y,q⟩:=XD h g rfl;obtain⟨p,a⟩:=zs8 (n:=n) (d:=d') (os:=os) q;have r:HoldsK encS 2 (sortWorldK encS 2 W g 0 n d' os) g 0 d':=holdsK_sortWorldK_c _ _ _ _ _ _ _ _ _ t s (by rw[k,m]);refine⟨rfl,zqA base W g 0 n d' os i b,d'.toList.map ofS,?_,some ⟨g,0,none⟩,c,by simp[k],λ_=>⟨g,p,y,rfl,i,a,λj A=>?_⟩⟩
  ·have:=f.map ofS
   rwa[zAw u]at this
  ·have o:j<d'.size:=by simpa using A
   obtain⟨h1,h2⟩:=zvC r j o;rw[Qf _ g _ _ _ _ a]at h1 h2;rw[h1,h2];simp[ofS]
end
