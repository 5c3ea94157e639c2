/- Lemmas for the last texts. -/
import Derived.Test.YtfhaojhofiocaaaGreatDoorM18
import Derived.Lib.Builder
set_option maxHeartbeats 6400000
set_option maxRecDepth 100000
namespace Go.Proofs.YtfhaojhofiocaaaGreatDoor
open Go.RowKit Go.Proofs.Tryz
def ziN:RowT zgZ where
 e:=62
 t:=63
 size:=3
 bytes:=32
 z:=.agg #[jA 0,jA 0,.string ByteArray.empty]
 cells:=zbO
 hsz _:=rfl
 hpos:=by decide
 under:=underlying63
 info:=by kernel_rfl
 hz:=rfl
 one x u hu:=by
  simp only[zbO,QN,Zz,XA]at hu
  rcases hu with rfl|rfl|rfl <;> rfl
 hbytes:=by decide
def zlO:RowT zcL where
 e:=65
 t:=66
 size:=2
 bytes:=16
 z:=.agg #[jA 0,jA 0]
 cells:=zbP
 hsz _:=rfl
 hpos:=by decide
 under:=underlying66
 info:=by kernel_rfl
 hz:=rfl
 one x u hu:=by
  simp only[zbP,QN,Zz,XA]at hu
  rcases hu with rfl|rfl <;> rfl
 hbytes:=by decide
structure RuOwn(w:World)(base:Nat)(x:RuM):Prop where
 vars:OwnG ziN w base (.slice x.vA x.r.vars.length x.vc) x.r.vars
 pipe:OwnK w base (.slice x.pA x.r.pipe.length x.pc) x.r.pipe
 acts:OwnG zlO w base (.slice x.aA x.r.acts.length x.ac) x.r.acts
theorem RuOwn.below{w w':World}{base:Nat}{x:RuM}(h:RuOwn w base x)(hb:w w'):RuOwn w' base x:=⟨h.vars.below hb,h.pipe.below hb,h.acts.below hb⟩
theorem RuOwn.ruIn{w:World}{base:Nat}{x:RuM}(h:RuOwn w base x):RuIn w w.heap.size x:=by
 refine⟨?_,?_,?_⟩;obtain⟨A,c,e,a⟩:=h.vars.form
 rotate_left
 obtain⟨A,c,e,_,a⟩:=h.pipe.form
 rotate_left
 obtain⟨A,c,e,a⟩:=h.acts.form
 all_goals
  injection e with b f d
  rw[b];exact a
def R9(w:World)(g:Nat)(c d e h a i j f b:Value):Prop:=w.heap[g]? = some (.cells #[c,d,e,h,a,i,j,f,b] 68 (0,0))
section
variable {w w':World} {g B:Nat} {a0 a1 a2 a3 a4 a5 a6 a7 a8:Value}
theorem R9.cell(h:R9 w g a0 a1 a2 a3 a4 a5 a6 a7 a8)(j:Nat):w.cell? ⟨g,j,none⟩=(#[a0,a1,a2,a3,a4,a5,a6,a7,a8]:Array Value)[j]? := Qo w g j _ _ (0,0) h
theorem R9.lt(h:R9 w g a0 a1 a2 a3 a4 a5 a6 a7 a8):g<w.heap.size:=by
 unfold R9 at h;rw[QI]at h;exact h.1
end
theorem zbE{w:World}{base size n g:Nat}{e:TypeId}{v:Value}{b:List Value}(h:w.ownsRow base e size v n b)(c:g<base)(j:Nat)(u:Value):(w.setCell ⟨g,j,none⟩ u).ownsRow base e size v n b:=
 ownsRow_setCell_other (a:=⟨g,j,none⟩) h (λe=>by have:=(QE h g e).1;omega) u
def OwnRu(w:World)(base:Nat)(v:Value)(l:List RuM):Prop:=w.ownsRow base 68 9 v l.length (l.flatMap zax)
theorem OwnRu.nil(w:World)(base:Nat):OwnRu w base (jD 0 0) []:=ZH w base 68 9
theorem OwnRu.form{w:World}{base:Nat}{v:Value}{l:List RuM}(h:OwnRu w base v l):∃A c,v=.slice A l.length c/\l.length<=c/\Sl w w.heap.size 9 A l.length (l.flatMap zax):=by
 rcases h.2 with ⟨h1,h2⟩|⟨g,cap,b,h1,hb,e,a,_⟩
 ·have:l=[]:=QA h2
  subst this;exact⟨none,0,h1,Qd _,Sl.nil _ _ _ _⟩
 ·refine⟨_,_,h1,a,za3 zax 9 znb l,λf=>⟨g,0,rfl,?_,λj d=>?_⟩⟩
  ·exact((QE h g (by rw[h1];simp[Value.ownBlock])).2)
  ·have:=Zq (g:=g) h (by rw[h1];simp[Value.ownBlock]) j _ (Qe d)
   rw[zbd]at this;rw[Ze];exact this
theorem OwnRu.below{w w':World}{base:Nat}{v:Value}{l:List RuM}(h:OwnRu w base v l)(hb:w w'):OwnRu w' base v l:=zaM h hb
def zzi:Array Value:=#[jA 0,jA 0,jD 0 0,jD 0 0,.bool false,jA 0,.string ByteArray.empty,jD 0 0,.bool false]
theorem zrZ:(prog.info? 68).map (λi=>(i.zero,i.size,i.bytes))=some (some (.agg zzi),9,128):=by kernel_rfl
section
variable {ops:Array Oper} {rest:List Oper} {o:Oper} {a:Act} {Q:Exit->Act->World->Prop} {w:World}
theorem zg2(f:o.guard=none)(s x:Operand)(A:o.op=.call {callee:=.builtin .append,args:=#[s,x],argTypes:=#[22,22]})
 (base:Nat) (v:Value) (l:List RuM) (C:a.eval s=v) (d:OwnRu w base v l) (b:base<=w.heap.size)
 (n:List Value) (new:RuM) (F:n=zax new) (q:Nat) (m:w.heap.size=q) (c:Nat) (E:a.eval x=.slice q 1 c)
 (e:l.length<=1048576)
 (h:∀v' w',OwnRu w' base v' (l++[new])->Below base w w'->(∀g,g<w.heap.size->v.ownBlock≠some g->w'.heap[g]? = w.heap[g]?)->w.heap.size<w'.heap.size->wpList prog ops Q rest (a.put o.dst v') w'):
 wpList prog ops Q (o::rest) a (w.alloc (.cells n.toArray 68)):=by
 subst F;subst m
 obtain⟨z,D,i,j,k⟩:=ZG zrZ
 exact Z3 f λ_ y=>zaT s x 22 A base 68 z (.agg zzi) 9 128 underlying22 D i j k rfl (by decide) v l.length (l.flatMap zax) C d b (zax new) 1 c E rfl
  (λu r=>by simp only[zax,QN,Zz,XA]at r;rcases r with rfl|rfl|rfl|rfl|rfl|rfl|rfl|rfl|rfl <;> rfl) (by unfold maxLen;omega) (by omega) λv' w' h1 h2 B t=>y _ _ (h v' w' (by unfold OwnRu;rw[Qb,Q7];simpa using h1) h2 B t)
end
theorem zch{w w':World}{v v':Value}{b m n n' size a:Nat}{e j:TypeId}{k d:List Value}(h:w.ownsRow b e size v n k)(s:w.ownsRow m j a v' n' d)(f:j≠e)(q:∀g,g<w.heap.size->v'.ownBlock≠some g->w'.heap[g]? = w.heap[g]?):w'.ownsRow b e size v n k:=by
 refine⟨h.1,?_⟩
 rcases h.2 with o|⟨g,cap,i,h1,h2,l,r⟩
 ·exact .inl o
 ·have c:=(QE h g (by rw[h1];rfl)).2
  exact .inr ⟨g,cap,i,h1,h2,(q g c (zbl s l f)).trans l,r⟩
theorem RuOwn.past{w w':World}{base c:Nat}{x:RuM}{v:Value}{l:List RuM}(h:RuOwn w base x)(b:OwnRu w c v l)(a:∀g,g<w.heap.size->v.ownBlock≠some g->w'.heap[g]? = w.heap[g]?):RuOwn w' base x:=
 ⟨zch h.vars b (by decide) a,zch h.pipe b (by decide) a,zch h.acts b (by decide) a⟩
theorem RuOwn.farS{w:World}{base g:Nat}{x:RuM}(h:RuOwn w base x)(a:g<base)(j:Nat)(u:Value):RuOwn (w.setCell ⟨g,j,none⟩ u) base x:=⟨zbE h.vars a j u,zbE h.pipe a j u,zbE h.acts a j u⟩
theorem RuOwn.low{w:World}{base b:Nat}{x:RuM}(h:RuOwn w base x)(hb:b<=base):RuOwn w b x:=⟨h.vars.low hb,h.pipe.low hb,h.acts.low hb⟩
def R3(w:World)(g:Nat)(m st:Int)(v:Value):Prop:=w.heap[g]? = some (.cells #[jA m,jA st,v] 24 (0,0))
section
variable {w w':World} {g:Nat} {m st:Int} {v:Value}
theorem R3.cell(h:R3 w g m st v):w.cell? g=some (jA m)/\w.cell? ⟨g,1,none⟩=some (jA st)/\w.cell? ⟨g,2,none⟩=some v:=⟨Qo w g 0 _ _ (0,0) h,Qo w g 1 _ _ (0,0) h,Qo w g 2 _ _ (0,0) h⟩
theorem R3.free(h:R3 w g m st v)(j:Nat):w.frozen? ⟨g,j,none⟩=false:=by unfold R3 at h;simp[World.frozen?, h]
theorem R3.lt(h:R3 w g m st v):g<w.heap.size:=by
 unfold R3 at h;rw[QI]at h;exact h.1
theorem R3.far(h:R3 w g m st v){q:Nat}(a:g≠q)(j:Nat)(u:Value):R3 (w.setCell ⟨q,j,none⟩ u) g m st v:=(Qm w ⟨q,j,none⟩ u g a).trans h
theorem R3.below(h:R3 w g m st v)(hb:w w'):R3 w' g m st v:=(hb.block g h.lt).trans h
theorem R3.put2(h:R3 w g m st v)(x:Value):R3 (w.setCell ⟨g,2,none⟩ x) g m st x:=by unfold R3 at h ⊢;simp[World.setCell,Q5,h]
end
structure PyAt(w wr:World)(m st:Int)(v:Value)(l:List RuM):Prop where
 out:R3 wr (w.heap.size+1) m st v
 res:R3 wr w.heap.size 0 0 (jD 0 0)
 rows:OwnRu wr (w.heap.size+1+1) v l
 own:∀x∈l,RuOwn wr (w.heap.size+1+1) x
 small:∀x∈l,ze3 x.r
 bel:w wr
theorem PyAt.below{w wr w':World}{m st:Int}{v:Value}{l:List RuM}(h:PyAt w wr m st v l)(hb:wr w'):PyAt w w' m st v l:=
 ⟨h.out.below hb,h.res.below hb,h.rows.below hb,λx a=>(h.own x a).below hb,h.small,h.bel.trans (hb.mono h.bel.size)⟩
theorem PyAt.push{w W c:World}{m st:Int}{v b:Value}{l:List RuM}{x:RuM}(h:PyAt w W m st v l)(i:RuOwn W (w.heap.size+1+1) x)(d:ze3 x.r)(f:OwnRu c (w.heap.size+1+1) b (l++[x]))(hb:Below (w.heap.size+1+1) W c)
 (e:∀g,g<W.heap.size->v.ownBlock≠some g->c.heap[g]? = W.heap[g]?):PyAt w (c.setCell ⟨w.heap.size+1,2,none⟩ b) m st b (l++[x]):=by
 have h1:R3 c (w.heap.size+1) m st v:=(hb.block _ (by omega)).trans h.out;have h2:R3 c w.heap.size 0 0 (jD 0 0):=(hb.block _ (by omega)).trans h.res;refine⟨h1.put2 b,h2.far (by omega) 2 b,zbE f (Zu _) 2 b,λy a=>?_,λy a=>?_,(h.bel.trans (hb.mono (by omega))).setCell (p:=⟨w.heap.size+1,2,none⟩) (by show w.heap.size<=w.heap.size+1;omega) b⟩
 ·rcases QY.1 a with a|a
  ·exact((h.own y a).past h.rows e).farS (Zu _) 2 b
  ·rw[QF.1 a];exact(i.past h.rows e).farS (Zu _) 2 b
 ·rcases QY.1 a with a|a
  ·exact h.small y a
  ·rw[QF.1 a];exact d
attribute [go_sem] results160
theorem zoV:(prog.info? 261).map (·.size)=some 2:=by kernel_rfl
theorem zvn:liesAt prog prog.depth 261 (2 / prog.cellsOf 261) 0 261 1=true:=by kernel_rfl
theorem zjl(b:Nat)(w:World)(c:w.cell? b=some (.pointer b)):
 Calls prog 191 #[.pointer b] w λe w'=>e=jC (.tuple #[])/\w'=w:=by
 obtain⟨j,a,_⟩:=XG.1 zoV
 go_in
 go_wp2_with fail;rw[Lib.run_neq_ptr_same w _ underlying259 a];go_wp2_with fail
 go_end0
 exact⟨rfl,rfl⟩
theorem ziT(b:Nat)(w:World)(g:w.cell? b=some (.pointer none))(a:w.shape? b=some (261,2))(f:w.frozen? ⟨b,0,none⟩=false):
 Calls prog 191 #[.pointer b] w λe w'=>e=jC (.tuple #[])/\w'=w.setCell b (.pointer b):=by
 obtain⟨j,d,c⟩:=XG.1 zoV
 go_in
 go_wp2_with fail;rw[Lib.run_to_unsafe w ⟨b,0,none⟩ underlying259 underlying308 d (by rw[c];decide) a (Nat.zero_lt_succ 1)];simp only[Result.andThen];rw[Oper.upon_value];go_wp2_with fail;rw[run_callFunc_extern func212 (by kernel_rfl) (by kernel_rfl) (by kernel_rfl) (e:=Extern.AbiNoEscape.same) (by kernel_rfl)];rw[Lib.run_noEscape];simp only[Result.andThen];rw[Oper.upon_value];go_wp2_with fail;rw[Lib.run_from_unsafe w ⟨b,0,none⟩ underlying308 underlying259 d a zvn];simp only[Result.andThen];rw[Oper.upon_value];go_wp2_with fail
 go_end0
 exact⟨rfl,rfl⟩
theorem zkH(B b:Nat)(bs:List Value)(w:World)(h:Lib.IsBuilder 261 5 B b bs w):
 Calls prog 191 #[.pointer b] w λe w'=>e=jC (.tuple #[])/\Lib.BuilderAt 261 5 B b (.pointer b) bs w'/\Below B w w':=by
 rcases h with h|h
 ·refine(ziT b w h.cell0 h.shape h.frozen0).mono ?_
  rintro e w' ⟨rfl,rfl⟩;exact⟨rfl,h.used _,(Qi B w).setCell (p:=⟨b,0,none⟩) h.1 _⟩
 ·refine(zjl b w h.cell0).mono ?_
  rintro e w' ⟨rfl,rfl⟩;exact⟨rfl,h,Qi B _⟩
theorem zd7(B b:Nat)(bs:List Value)(s:ByteArray)(w:World)(h:Lib.IsBuilder 261 5 B b bs w)(y:bs.length+s.size<=140737488355328)(F:B<=w.heap.size):
 Calls prog 160 #[.pointer b,.string s] w λe w'=>e=jC (.tuple #[jA s.size,.nilIface])/\Lib.BuilderAt 261 5 B b (.pointer b) (bs++Lib.strCells s) w'/\Below B w w':=by
 obtain⟨D,G,o,r,t⟩:=ZG znW;have C:=hIx (zkH B b bs w h);clear h
 go_in
 go_wp2_with fail;refine C.out.mono ?_;rintro e l ⟨rfl,h1,j⟩;obtain⟨z,v,d,i,n⟩:=h1;have c0:l.cell? b=some (.pointer b):=by rw[Lib.cell_of_heap d];rfl
 have c1:l.cell? ⟨b,1,none⟩=some v:=by rw[Lib.cell_of_heap d];rfl
 go_wp2_with (at_builtin;refine Lib.wpList_append_own_string _ rfl _ _ 176 9 rfl B 5 D underlying176 underlying9 G o r t _ _ _ rfl i s rfl ?c3 ?c4 ?c5 ?_)
 case c3=>unfold maxLen;omega
 case c4=>omega
 case c5=>have:=j.size;omega
 intro v' w2 a c _
 have m:b<l.heap.size:=by
  rcases ZJ b l.heap.size with q|q
  ·exact q
  ·simp[ZV q]at d
 have f:w2.heap[b]? = some (.cells #[.pointer b,v] 261 (0,0)):=by
  rw[c.block b m (λe=>n e.symm)];exact d
 have J:w2.cell? b=some (.pointer b):=by rw[Lib.cell_of_heap f];rfl
 have I:w2.cell? ⟨b,1,none⟩=some v:=by rw[Lib.cell_of_heap f];rfl
 have H:w2.frozen? ⟨b,1,none⟩=false:=Lib.frozen_of_heap f 1
 obtain⟨x,n',cap,rfl⟩:∃x n' cap,v'=.slice x n' cap:=by
  rcases a.2 with ⟨u,_⟩|⟨g,cap,E,u,_⟩
  ·exact⟨_,_,_,u⟩
  ·exact⟨_,_,_,u⟩
 go_wp2;exact zad ⟨rfl,Lib.BuilderAt.put (T:=261) (e:=5) z f (bs':=bs++Lib.strCells s) (by simpa[Lib.strCells_length]using a) (by decide),(j.grown c (by have:=j.size;omega) (λk A=>(i.lt k A).1)).setCell (p:=⟨b,1,none⟩) z _⟩
section
open Go.ChangeShapes Go.WideShapes Go.Deep
theorem zmF:∀l:List Int,l.flatMap (λz:Int=>[jA z])=l.map (Value.int .i64):=λl=>by
 induction l with
 |nil=>rfl
 |cons a r ih=>rw[QV,ih];rfl
end
def zg0:ByteArray:=ByteArray.mk #[101,118,105,108]
def zfk:ByteArray:=ByteArray.mk #[100,114,111,112,124,115,101,108,101,99,116]
def zcs:zfy:=⟨10,403,[⟨1,1,[⟨3,0,ByteArray.mk #[]⟩],[],false,4,zg0,[⟨2,404⟩],false⟩,⟨2,2,[⟨6,0,ByteArray.mk #[]⟩],[1],false,2,zfk,[⟨3,10⟩],false⟩]⟩
theorem znv:zbv zfk=[⟨#[100,114,111,112]⟩,⟨#[115,101,108,101,99,116]⟩]:=by decide+kernel
theorem zww:argC 2 zfk=0:=by
 have h:mkC (zbv zfk)=0:=by
  rw[znv];exact zsR.2 ⟨zcu (by decide+kernel),zvm (by decide+kernel)⟩
 unfold argC;rw[Qf (by decide),Qj rfl,h];rfl
theorem zv2:argC 4 zg0=0:=by
 unfold argC;rw[Qf (by decide),Qf (by decide),Qf (by decide),Qf (by decide),Qf (by decide),Qf (by decide),Qf (by decide)]
theorem zke(f:Int->ByteArray->Int)(h1:f 4 zg0=0)(h2:f 2 zfk=0):za1 f zcs=0:=by
 have g:zaX varC [⟨3,0,ByteArray.mk #[]⟩]=0:=by decide
 have e:zaX varC [⟨6,0,ByteArray.mk #[]⟩]=0:=by decide
 have b:zaX actC [⟨2,404⟩]=0:=by decide
 have c:zaX actC [⟨3,10⟩]=0:=by decide
 have a:zbu []=0:=by decide
 have d:zbu [1]=0:=by decide
 simp[za1,zcs,goC,oneC,zby,g,e,b,c,a,d,h1,h2]
theorem zlp:za1 argC zcs=0:=zke argC zv2 zww
theorem zeK{w:World}{g B n size:Nat}{a:List Value}{t:TypeId}(h:w.heap[g]? = some (.cells a.toArray t (0,0)))(c:g<B)(hl:a.length=n*size):Sl w B size (some ⟨g,0,none⟩) n a:=
 ⟨hl,λ_=>⟨g,0,rfl,c,λj b=>by rw[Ze,Qo w g j _ _ (0,0) h,Z1,Qe b]⟩⟩
theorem znf(w F:World)(a:F=(((((((w.alloc (.cells #[jA 10,jA 403,.slice (w.heap.size+1+1+1+1+1+1:) 2 2] 24)).alloc (.cells #[jA 3,jA 0,.string (.mk #[])] 62)).alloc (.cells #[jA 2,jA 404] 65)).alloc (.cells #[jA 6,jA 0,.string (.mk #[])] 62)).alloc (.cells #[jA 1] 3)).alloc (.cells #[jA 3,jA 10] 65)).alloc (.cells #[jA 1,jA 1,.slice (w.heap.size+1:) 1 1,jD 0 0,.bool false,jA 4,.string zg0,.slice (w.heap.size+1+1:) 1 1,.bool false,jA 2,jA 2,.slice (w.heap.size+1+1+1:) 1 1,.slice (w.heap.size+1+1+1+1:) 1 1,.bool false,jA 2,.string zfk,.slice (w.heap.size+1+1+1+1+1:) 1 1,.bool false] 68))):((⟨10,403,some ⟨w.heap.size+1+1+1+1+1+1,0,none⟩,2,[⟨⟨1,1,[⟨3,0,ByteArray.mk #[]⟩],[],false,4,zg0,[⟨2,404⟩],false⟩,some ⟨w.heap.size+1,0,none⟩,1,none,0,some ⟨w.heap.size+1+1,0,none⟩,1⟩,⟨⟨2,2,[⟨6,0,ByteArray.mk #[]⟩],[1],false,2,zfk,[⟨3,10⟩],false⟩,some ⟨w.heap.size+1+1+1,0,none⟩,1,some ⟨w.heap.size+1+1+1+1,0,none⟩,1,some ⟨w.heap.size+1+1+1+1+1,0,none⟩,1⟩]⟩:RuArg)).set=zcs/\RuLies F F.heap.size (⟨10,403,some ⟨w.heap.size+1+1+1+1+1+1,0,none⟩,2,[⟨⟨1,1,[⟨3,0,ByteArray.mk #[]⟩],[],false,4,zg0,[⟨2,404⟩],false⟩,some ⟨w.heap.size+1,0,none⟩,1,none,0,some ⟨w.heap.size+1+1,0,none⟩,1⟩,⟨⟨2,2,[⟨6,0,ByteArray.mk #[]⟩],[1],false,2,zfk,[⟨3,10⟩],false⟩,some ⟨w.heap.size+1+1+1,0,none⟩,1,some ⟨w.heap.size+1+1+1+1,0,none⟩,1,some ⟨w.heap.size+1+1+1+1+1,0,none⟩,1⟩]⟩:RuArg)/\zb9 (⟨10,403,some ⟨w.heap.size+1+1+1+1+1+1,0,none⟩,2,[⟨⟨1,1,[⟨3,0,ByteArray.mk #[]⟩],[],false,4,zg0,[⟨2,404⟩],false⟩,some ⟨w.heap.size+1,0,none⟩,1,none,0,some ⟨w.heap.size+1+1,0,none⟩,1⟩,⟨⟨2,2,[⟨6,0,ByteArray.mk #[]⟩],[1],false,2,zfk,[⟨3,10⟩],false⟩,some ⟨w.heap.size+1+1+1,0,none⟩,1,some ⟨w.heap.size+1+1+1+1,0,none⟩,1,some ⟨w.heap.size+1+1+1+1+1,0,none⟩,1⟩]⟩:RuArg)/\w F/\R3 F w.heap.size 10 403 (.slice (w.heap.size+1+1+1+1+1+1:) 2 2):=by
 have i:F.heap.size=w.heap.size+7:=by rw[a];simp
 have g:F.heap[w.heap.size]? = some (.cells #[jA 10,jA 403,.slice (w.heap.size+1+1+1+1+1+1:) 2 2] 24 (0,0)):=by rw[a];exact(Qs _ _ _ (by simp only[Qp];omega)).trans ((Qs _ _ _ (by simp only[Qp];omega)).trans ((Qs _ _ _ (by simp only[Qp];omega)).trans ((Qs _ _ _ (by simp only[Qp];omega)).trans ((Qs _ _ _ (by simp only[Qp];omega)).trans ((Qs _ _ _ (by simp only[Qp];omega)).trans (zbb _ _ _ (by first|rfl|simp only[Qp])))))))
 have h1:F.heap[w.heap.size+1]? = some (.cells #[jA 3,jA 0,.string (.mk #[])] 62 (0,0)):=by rw[a];exact(Qs _ _ _ (by simp only[Qp];omega)).trans ((Qs _ _ _ (by simp only[Qp];omega)).trans ((Qs _ _ _ (by simp only[Qp];omega)).trans ((Qs _ _ _ (by simp only[Qp];omega)).trans ((Qs _ _ _ (by simp only[Qp];omega)).trans (zbb _ _ _ (by first|rfl|simp only[Qp]))))))
 have h2:F.heap[w.heap.size+1+1]? = some (.cells #[jA 2,jA 404] 65 (0,0)):=by rw[a];exact(Qs _ _ _ (by simp only[Qp];omega)).trans ((Qs _ _ _ (by simp only[Qp];omega)).trans ((Qs _ _ _ (by simp only[Qp];omega)).trans ((Qs _ _ _ (by simp only[Qp];omega)).trans (zbb _ _ _ (by first|rfl|simp only[Qp])))))
 have h:F.heap[w.heap.size+1+1+1]? = some (.cells #[jA 6,jA 0,.string (.mk #[])] 62 (0,0)):=by rw[a];exact(Qs _ _ _ (by simp only[Qp];omega)).trans ((Qs _ _ _ (by simp only[Qp];omega)).trans ((Qs _ _ _ (by simp only[Qp];omega)).trans (zbb _ _ _ (by first|rfl|simp only[Qp]))))
 have e:F.heap[w.heap.size+1+1+1+1]? = some (.cells #[jA 1] 3 (0,0)):=by rw[a];exact(Qs _ _ _ (by simp only[Qp];omega)).trans ((Qs _ _ _ (by simp only[Qp];omega)).trans (zbb _ _ _ (by first|rfl|simp only[Qp])))
 have f:F.heap[w.heap.size+1+1+1+1+1]? = some (.cells #[jA 3,jA 10] 65 (0,0)):=by rw[a];exact(Qs _ _ _ (by simp only[Qp];omega)).trans (zbb _ _ _ (by first|rfl|simp only[Qp]))
 have d:F.heap[w.heap.size+1+1+1+1+1+1]? = some (.cells #[jA 1,jA 1,.slice (w.heap.size+1:) 1 1,jD 0 0,.bool false,jA 4,.string zg0,.slice (w.heap.size+1+1:) 1 1,.bool false,jA 2,jA 2,.slice (w.heap.size+1+1+1:) 1 1,.slice (w.heap.size+1+1+1+1:) 1 1,.bool false,jA 2,.string zfk,.slice (w.heap.size+1+1+1+1+1:) 1 1,.bool false] 68 (0,0)):=by rw[a];exact zbb _ _ _ (by first|rfl|simp only[Qp])
 have hb:w F:=by
  rw[a];exact((((((WaL.alloc (by simp) _).alloc (by simp;omega) _).alloc (by simp;omega) _).alloc (by simp;omega) _).alloc (by simp;omega) _).alloc (by simp;omega) _)
 refine⟨rfl,⟨zeK d (by omega) rfl,λx b=>?_,Qd _⟩,⟨by show 2<=1048576;decide,λx b=>?_⟩,hb,g⟩
 ·rcases QN.1 b with rfl|b
  ·exact⟨zeK h1 (by omega) rfl,Sl.nil _ _ _ _,zeK h2 (by omega) rfl⟩
  ·rw[QF.1 b]
   exact⟨zeK h (by omega) rfl,zeK e (by omega) rfl,zeK f (by omega) rfl⟩
 ·rcases QN.1 b with rfl|b
  ·exact⟨by show 1<=1048576;decide,λv c=>by rw[QF.1 c];show 0<=1048576;decide,by show 0<=1048576;decide,by show zg0.size<=1048576;decide,by show 1<=1048576;decide⟩
  ·rw[QF.1 b]
   exact⟨by show 1<=1048576;decide,λv c=>by rw[QF.1 c];show 0<=1048576;decide,by show 1<=1048576;decide,by show zfk.size<=1048576;decide,by show 1<=1048576;decide⟩
theorem zpR(w:World):Calls prog 5 #[] w λe w'=>∃a:RuArg,e=jC a.value/\a.set=zcs/\RuLies w' w'.heap.size a/\zb9 a/\w w':=by
 obtain⟨F,c⟩:∃F,F=(((((((w.alloc (.cells #[jA 10,jA 403,.slice (w.heap.size+1+1+1+1+1+1:) 2 2] 24)).alloc (.cells #[jA 3,jA 0,.string (.mk #[])] 62)).alloc (.cells #[jA 2,jA 404] 65)).alloc (.cells #[jA 6,jA 0,.string (.mk #[])] 62)).alloc (.cells #[jA 1] 3)).alloc (.cells #[jA 3,jA 10] 65)).alloc (.cells #[jA 1,jA 1,.slice (w.heap.size+1:) 1 1,jD 0 0,.bool false,jA 4,.string zg0,.slice (w.heap.size+1+1:) 1 1,.bool false,jA 2,jA 2,.slice (w.heap.size+1+1+1:) 1 1,.slice (w.heap.size+1+1+1+1:) 1 1,.bool false,jA 2,.string zfk,.slice (w.heap.size+1+1+1+1+1:) 1 1,.bool false] 68)):=⟨_,rfl⟩
 have b:=hIx (znf w F c);have d:=hIx c;clear c;unfold zg0 zfk at d
 go_in
 go_wp2_with fail;rw[<-d.out];exact QD (v:=.agg #[jA 10,jA 403,.slice (w.heap.size+1+1+1+1+1+1:) 2 2]) (by simp[results,results5,go_sem,b.out.2.2.2.2.cell.1,b.out.2.2.2.2.cell.2.1,b.out.2.2.2.2.cell.2.2]) rfl ⟨(⟨10,403,some ⟨w.heap.size+1+1+1+1+1+1,0,none⟩,2,[⟨⟨1,1,[⟨3,0,ByteArray.mk #[]⟩],[],false,4,zg0,[⟨2,404⟩],false⟩,some ⟨w.heap.size+1,0,none⟩,1,none,0,some ⟨w.heap.size+1+1,0,none⟩,1⟩,⟨⟨2,2,[⟨6,0,ByteArray.mk #[]⟩],[1],false,2,zfk,[⟨3,10⟩],false⟩,some ⟨w.heap.size+1+1+1,0,none⟩,1,some ⟨w.heap.size+1+1+1+1,0,none⟩,1,some ⟨w.heap.size+1+1+1+1+1,0,none⟩,1⟩]⟩:RuArg),rfl,b.out.1,b.out.2.1,b.out.2.2.1,b.out.2.2.2.1⟩
structure RunS where
 sc:Int
 st:Int
 who:Int
 mt:List Int
 sk:Int
 dn:Bool
def actS(b:Int)(s:RunS)(a:zcL):RunS:=
 if s.dn=true then s else if a.k=3 then {s with sc:=min (s.sc+a.n) 1000000}else if a.k=4 then {s with sk:=a.n}else if a.k=2 then {s with st:=a.n,who:=b,dn:=true}else if a.k=5 then {s with dn:=true}else s
def zeR(s:RunS)(r:zaz):RunS:=r.acts.foldl (actS r.id) s
def doS(s:RunS)(c:List zaz):RunS:=c.foldl zeR {s with mt:=s.mt++c.map (·.id)}
def zfD(hit:Int->zaz->Bool)(s:RunS)(c:List zaz):RunS:=
 if s.dn=true then s else if 0<s.sk then {s with sk:=s.sk-1}else if c.all (hit s.sc)=true then doS s c else s
def phS(hit:Int->zaz->Bool)(a:Int)(x:RunS × List zaz)(r:zaz):RunS × List zaz:=
 if r.phase≠a then x else if r.chain=true then (x.1,x.2++[r])else (zfD hit x.1 (x.2++[r]),[])
def zfv(hit:Int->zaz->Bool)(a:Int)(l:List zaz)(s:RunS):RunS:=(l.foldl (phS hit a) ({s with sk:=0},[])).1
def run0:RunS:=⟨0,0,0,[],0,false⟩
def endS(most a:Int)(s:RunS):RunS:=if s.dn=false/\most<=s.sc then {s with st:=a}else s
def runS(hit:Int->zaz->Bool)(r:zfy):RunS:=endS r.most r.status (zfv hit 2 r.list (zfv hit 1 r.list run0))
def zdU(a:zcL):Int:=if a.k=3 then a.n else 0
def sumI(l:List Int):Int:=l.foldr (·+·) 0
def zor(r:zaz):Int:=sumI (r.acts.map zdU)
def zdt(l:List zaz):Int:=sumI (l.map zor)
theorem zu0:sumI []=0:=rfl
theorem zfq(a:Int)(l:List Int):sumI (a::l)=a+sumI l:=rfl
theorem ziv:∀a b:List Int,sumI (a++b)=sumI a+sumI b
 | [],b=>by rw[List.nil_append,zu0];omega
 |x::a,b=>by rw[List.cons_append,zfq,zfq,ziv a b];omega
theorem zfp(a b:List zaz):zdt (a++b)=zdt a+zdt b:=by unfold zdt;rw[Q2,ziv]
theorem zqK:zdt []=0:=rfl
def Adds(l:List zaz):Prop:=∀r∈l,∀a∈r.acts,0<=zdU a
def zjz(l:List zaz):Prop:=∀r∈l,∀a∈r.acts,a.k≠2
theorem zk1:∀{l:List Int},(∀x∈l,0<=x)->0<=sumI l
 | [],_=>ZB 0
 |x::l,h=>by
  rw[zfq];have:=h x Zk;have:=zk1 λy a=>h y (Zl _ a)
  omega
theorem zqc{l:List zaz}(h:Adds l){r:zaz}(c:r∈l):0<=zor r:=zk1 λx d=>by
 obtain⟨a,b,rfl⟩:=QS.1 d;exact h r c a b
theorem zp9{l:List zaz}(h:Adds l):0<=zdt l:=zk1 λx b=>by
 obtain⟨r,a,rfl⟩:=QS.1 b;exact zqc h a
theorem zpn(b:Int)(s:RunS)(a:zcL)(h:0<=zdU a):
 (actS b s a).sc<=s.sc+zdU a/\(actS b s a).mt=s.mt/\((actS b s a).who=s.who\/(actS b s a).who=b)/\(a.k≠2->(actS b s a).who=s.who/\(actS b s a).st=s.st)/\(a.k≠4->(actS b s a).sk=s.sk)/\(0<=s.sc->0<=(actS b s a).sc)/\(s.sc<=1000000->(actS b s a).sc<=1000000):=by
 unfold actS;unfold zdU at *
 split
 ·refine⟨by omega,rfl,.inl rfl,λ_=>⟨rfl,rfl⟩,λ_=>rfl,λh=>h,λh=>h⟩
 split
 ·rename_i d
  rw[Qj d]at h;refine⟨?_,rfl,.inl rfl,λ_=>⟨rfl,rfl⟩,λ_=>rfl,λh=>?_,λh=>?_⟩ <;> dsimp only <;> omega
 rename_i d;rw[Qf d]at h
 split
 ·refine⟨by dsimp only;omega,rfl,.inl rfl,λ_=>⟨rfl,rfl⟩,λc=>absurd (by assumption) c,λh=>h,λh=>h⟩
 split
 ·refine⟨by dsimp only;omega,rfl,.inr rfl,λc=>absurd (by assumption) c,λ_=>rfl,λh=>h,λh=>h⟩
 split
 ·exact⟨by dsimp only;omega,rfl,.inl rfl,λ_=>⟨rfl,rfl⟩,λ_=>rfl,λh=>h,λh=>h⟩
 ·exact⟨by omega,rfl,.inl rfl,λ_=>⟨rfl,rfl⟩,λ_=>rfl,λh=>h,λh=>h⟩
theorem zfX(b:Int):∀(l:List zcL) (s:RunS),(∀a∈l,0<=zdU a)->
 (l.foldl (actS b) s).sc<=s.sc+sumI (l.map zdU)/\(l.foldl (actS b) s).mt=s.mt/\((l.foldl (actS b) s).who=s.who\/(l.foldl (actS b) s).who=b)/\((∀a∈l,a.k≠2)->(l.foldl (actS b) s).who=s.who/\(l.foldl (actS b) s).st=s.st)/\((∀a∈l,a.k≠4)->(l.foldl (actS b) s).sk=s.sk)/\(0<=s.sc->0<=(l.foldl (actS b) s).sc)/\(s.sc<=1000000->(l.foldl (actS b) s).sc<=1000000)
 | [],s,_=>⟨by show s.sc<=s.sc+0;omega,rfl,.inl rfl,λ_=>⟨rfl,rfl⟩,λ_=>rfl,λh=>h,λh=>h⟩
 |a::l,s,h=>by
  obtain⟨w,u,e,n,m,t,i⟩:=zpn b s a (h a Zk);obtain⟨v,q,c,r,g,j,o⟩:=zfX b l (actS b s a) λx f=>h x (Zl _ f)
  rw[XK,Q8,zfq];refine⟨by omega,q.trans u,?_,λd=>?_,λd=>?_,λh=>j (t h),λh=>o (i h)⟩
  ·rcases c with c|c
   ·rcases e with e|e
    ·exact .inl (c.trans e)
    ·exact .inr (c.trans e)
   ·exact .inr c
  ·have h1:=r λx f=>d x (Zl _ f)
   have h2:=n (d a Zk);exact⟨h1.1.trans h2.1,h1.2.trans h2.2⟩
  ·exact(g λx f=>d x (Zl _ f)).trans (m (d a Zk))
theorem zdN:∀(c:List zaz) (s:RunS),Adds c->
 (c.foldl zeR s).sc<=s.sc+zdt c/\(c.foldl zeR s).mt=s.mt/\((c.foldl zeR s).who=s.who\/(c.foldl zeR s).who∈c.map (·.id))/\(zjz c->(c.foldl zeR s).who=s.who/\(c.foldl zeR s).st=s.st)/\((∀r∈c,∀a∈r.acts,a.k≠4)->(c.foldl zeR s).sk=s.sk)/\(0<=s.sc->0<=(c.foldl zeR s).sc)/\(s.sc<=1000000->(c.foldl zeR s).sc<=1000000)
 | [],s,_=>⟨by show s.sc<=s.sc+0;omega,rfl,.inl rfl,λ_=>⟨rfl,rfl⟩,λ_=>rfl,λh=>h,λh=>h⟩
 |r::c,s,h=>by
  obtain⟨A,y,f,u,t,v,q⟩:=zfX r.id r.acts s (h r Zk);obtain⟨o,m,b,n,i,j,l⟩:=zdN c (zeR s r) λx g=>h x (Zl _ g)
  have e:zdt (r::c)=zor r+zdt c:=rfl;have z:zor r=sumI (r.acts.map zdU):=rfl;have w:zeR s r=r.acts.foldl (actS r.id) s:=rfl;rw[XK];rw[w]at o m b n i j l ⊢;refine⟨by omega,m.trans y,?_,λd=>?_,λd=>?_,λh=>j (v h),λh=>l (q h)⟩
  ·rcases b with b|b
   ·rcases f with f|f
    ·exact .inl (b.trans f)
    ·exact .inr (by rw[b,f];exact Zk)
   ·exact .inr (Zl _ b)
  ·have h1:=n λx g=>d x (Zl _ g)
   have h2:=u (d r Zk);exact⟨h1.1.trans h2.1,h1.2.trans h2.2⟩
  ·exact(i λx g=>d x (Zl _ g)).trans (t (d r Zk))
structure zwS(s t:RunS)(c:List zaz):Prop where
 sc:t.sc<=s.sc+zdt c
 mt:t.mt=s.mt\/t.mt=s.mt++c.map (·.id)
 who:t.who=s.who\/t.who∈t.mt
 keep:∀x∈s.mt,x∈t.mt
 deny:zjz c->t.who=s.who/\t.st=s.st
 lo:0<=s.sc->0<=t.sc
 hi:s.sc<=1000000->t.sc<=1000000
theorem zv4(hit:Int->zaz->Bool)(s:RunS)(c:List zaz)(h:Adds c):zwS s (zfD hit s c) c:=by
 have j:=zp9 h;have same:∀k:Int,zwS s {s with sk:=k} c:=λk=>⟨by dsimp only;omega,.inl rfl,.inl rfl,λ_ h=>h,λ_=>⟨rfl,rfl⟩,λh=>h,λh=>h⟩
 unfold zfD
 split
 ·exact same s.sk
 split
 ·exact same _
 split
 ·obtain⟨e,b,a,d,_,g,f⟩:=zdN c {s with mt:=s.mt++c.map (·.id)} h
  unfold doS;dsimp only at e b a d g f;refine⟨e,.inr b,?_,λx i=>by rw[b];exact ZI _ i,d,g,f⟩
  rcases a with a|a
  ·exact .inl a
  ·exact .inr (by rw[b];exact Xs _ a)
 ·exact same s.sk
structure zk2(s0:RunS)(done:List zaz)(x:RunS × List zaz):Prop where
 sc:x.1.sc+zdt x.2<=s0.sc+zdt done
 mt:(x.1.mt++x.2.map (·.id)).Sublist (s0.mt++done.map (·.id))
 who:x.1.who=s0.who\/x.1.who∈x.1.mt
 keep:∀y∈s0.mt,y∈x.1.mt
 sub:∀r∈x.2,r∈done
 deny:zjz done->x.1.who=s0.who/\x.1.st=s0.st
 lo:0<=s0.sc->0<=x.1.sc
 hi:s0.sc<=1000000->x.1.sc<=1000000
theorem zyY(hit:Int->zaz->Bool)(k:Int){i:RunS}{done:List zaz}{x:RunS × List zaz}(h:zk2 i done x)(l:Adds done)(r:zaz)(s:Adds [r])(o:r.phase=k):zk2 i (done++[r]) (phS hit k x r):=by
 have w:=zfp done [r];have v:=zfp x.2 [r]
 have f:(x.1.mt++(x.2++[r]).map (·.id)).Sublist (i.mt++(done++[r]).map (·.id)):=by
  rw[Q2,Q2,<-Q4,<-Q4];exact List.Sublist.append h.mt (List.Sublist.refl _)
 have b:∀y∈x.2++[r],y∈done++[r]:=λy a=>by
  rcases QY.1 a with a|a
  ·exact ZI _ (h.sub y a)
  ·exact Xs _ a
 have c:zjz (done++[r])->zjz done/\zjz (x.2++[r]):=λe=>⟨λy a=>e y (ZI _ a),λy a=>e y (b y a)⟩
 have u:=h.sc;unfold phS;rw[Qf (by simp[o])]
 split
 ·exact⟨by dsimp only;omega,f,h.who,h.keep,b,λe=>h.deny (c e).1,h.lo,h.hi⟩
 ·have d:Adds (x.2++[r]):=λy a=>by
   rcases QY.1 a with a|a
   ·exact l y (h.sub y a)
   ·exact s y a
  obtain⟨z,a2,g,j,n,t,m⟩:=zv4 hit x.1 (x.2++[r]) d;refine⟨?_,?_,?_,λy a=>j y (h.keep y a),λy a=>(by cases a),λe=>?_,λq=>t (h.lo q),λq=>m (h.hi q)⟩
  ·show (zfD hit x.1 (x.2++[r])).sc+zdt []<=_
   rw[zqK];omega
  ·show ((zfD hit x.1 (x.2++[r])).mt++[]).Sublist _
   rw[QO]
   rcases a2 with a2|a2 <;> rw[a2]
   ·exact(List.sublist_append_left _ _).trans f
   ·exact f
  ·rcases g with g|g
   ·rcases h.who with h1|h1
    ·exact .inl (g.trans h1)
    ·exact .inr (by rw[g];exact j _ h1)
   ·exact .inr g
  ·have h1:=h.deny (c e).1
   have h2:=n (c e).2;exact⟨h2.1.trans h1.1,h2.2.trans h1.2⟩
theorem zhg{a b:List zaz}(h:Adds (a++b)):Adds a:=λr c=>h r (ZI _ c)
theorem zt0(hit:Int->zaz->Bool)(a:Int)(f:RunS):∀(l done:List zaz) (x:RunS × List zaz),zk2 f (done.filter (λr=>r.phase==a)) x->Adds (done++l)->
 zk2 f ((done++l).filter (λr=>r.phase==a)) (l.foldl (phS hit a) x)
 | [],done,x,h,_=>by rw[QO];exact h
 |r::l,done,x,h,c=>by
  rw[XK];have e:done++r::l=(done++[r])++l:=by simp
  rw[e]at c ⊢;refine zt0 hit a f l (done++[r]) _ ?_ c;rw[ZR]
  by_cases b:r.phase=a
  ·have g:[r].filter (λr=>r.phase==a)=[r]:=by simp[b]
   rw[g];exact zyY hit a h (λy d=>zhg (zhg c) y (Xg.1 d).1) r (λy d=>zhg c y (Xs _ d)) b
  ·have g:[r].filter (λr=>r.phase==a)=[]:=by simp[b]
   rw[g,QO];unfold phS;rw[Qj b];exact h
theorem zsg{argC:Int->ByteArray->Int}:∀(l done:List zaz),goC argC done l=0->(∀x∈l,oneC argC x=0)/\(∀x∈l,∀y∈done,y.id≠x.id)/\(l.map (·.id)).Nodup
 | [],_,_=>⟨λx a=>(by cases a),λx a=>(by cases a),List.nodup_nil⟩
 |y::r,done,h=>by
  unfold goC at h
  split at h
  ·cases h
  split at h
  ·cases h
  rename_i f
  split at h
  ·contradiction
  rename_i h2;obtain⟨i,d,g⟩:=zsg r _ h;have b:∀z∈done,z.id≠y.id:=λz c e=>f (List.any_eq_true.2 ⟨z,c,by simp[e]⟩)
  refine⟨λx a=>?_,λx a z c=>?_,?_⟩
  ·rcases QN.1 a with rfl|a
   ·simpa using h2
   ·exact i x a
  ·rcases QN.1 a with rfl|a
   ·exact b z c
   ·exact d x a z (ZI _ c)
  ·rw[Q8,XJ]
   refine⟨λj=>?_,g⟩;obtain⟨x,a,e⟩:=QS.1 j;exact d x a y (Xs _ Zk) e.symm
theorem zu6{argC:Int->ByteArray->Int}{x:zaz}(h:oneC argC x=0):1<=x.op/\x.op<=12/\argC x.op x.arg=0:=by
 unfold oneC at h
 split at h
 ·cases h
 split at h
 ·cases h
 split at h
 ·contradiction
 split at h
 ·contradiction
 split at h
 ·cases h
 rename_i b
 split at h
 ·contradiction
 rename_i a;exact⟨by omega,by omega,by simpa using a⟩
structure zxJ(argC:Int->ByteArray->Int)(r:zfy):Prop where
 len:r.list.length<=40
 one:∀x∈r.list,oneC argC x=0
 nodup:(r.list.map (·.id)).Nodup
 chain:zby r.list=0
theorem zlF{argC:Int->ByteArray->Int}{r:zfy}(h:za1 argC r=0):zxJ argC r:=by
 unfold za1 at h
 split at h
 ·cases h
 split at h
 ·cases h
 rename_i hl
 split at h
 ·contradiction
 rename_i h2;obtain⟨a,_,b⟩:=zsg _ _ (show goC argC [] r.list=0 by simpa using h2);exact⟨by omega,a,b,h⟩
def varQ(v:zgZ):VarV:=⟨v.k,v.m,v.n⟩
theorem zp0(l:List zgZ):(l.map varQ).flatMap zb5=l.flatMap zbO:=by
 rw[List.flatMap_map];rfl
theorem zlv{a:Type}(f:VarV->List a)(n:Nat):∀s:List VarV,(∀v∈s,(f v).length<=n)->(s.flatMap f).length<=s.length*n
 | [],_=>by simp
 |v::s,h=>by
  have h1:=h v Zk;have h2:=zlv f n s λx b=>h x (Zl _ b)
  rw[QV,Qb,Qq,Xl];omega
theorem zty(l:List VarV)(v:VarV)(a:List Pair)(n:Nat)(h:a.length<=n)(h1:1<=n):(zf3 l v a).length<=n:=by
 unfold zf3;have:(zdP l v a).length<=a.length:=Zh _ _
 split
 ·exact Qn _
 split
 ·exact h1
 ·omega
theorem zoh{m t b:ByteArray}{f:List zas}{d:Nat}{e:Int}{c a:List Pair}(h:znj t f c a d e)(l s:List VarV)(g:s.length<=1048576):(allP (vfP m t b f d e c a) l s).length<=4398046511104:=by
 unfold allP;have:=zlv (λv=>zf3 l v (vfP m t b f d e c a v)) 4194304 s λv _=>zty l v _ _ (zr0 h v) (by omega)
 exact Ql this (Ql (Xu _ g) (by decide))
structure zeb where
 m:ByteArray
 t:ByteArray
 fv:Value
 b:ByteArray
 cl:Int
 lv:Value
 cv:Value
def UBox(u:Nat)(c:zeb)(s:RunS)(a:Value)(w:World):Prop:=
 w.heap[u]? = some (.cells #[.string c.m,.string c.t,c.fv,.string c.b,.int .u32 c.cl,c.lv,c.cv,jA s.st,jA s.who,jA s.sc,a,jA s.sk,.bool s.dn] 211 (0,0))
section
variable {u:Nat} {c:zeb} {s:RunS} {mv:Value} {w w':World}
theorem UBox.keep(h:UBox u c s mv w)(a:w'.heap[u]? = w.heap[u]?):UBox u c s mv w':=a.trans h
theorem UBox.lt(h:UBox u c s mv w):u<w.heap.size:=zaG h
theorem UBox.below(h:UBox u c s mv w)(hb:w w'):UBox u c s mv w':=h.keep (hb.block u h.lt)
theorem UBox.free(h:UBox u c s mv w)(j:Nat):w.frozen? ⟨u,j,none⟩=false:=Zc w u j _ _ h
theorem UBox.req(h:UBox u c s mv w):w.cell? u=some (.string c.m)/\w.cell? ⟨u,1,none⟩=some (.string c.t)/\w.cell? ⟨u,2,none⟩=some c.fv/\w.cell? ⟨u,3,none⟩=some (.string c.b)/\w.cell? ⟨u,4,none⟩=some (.int .u32 c.cl)/\w.cell? ⟨u,5,none⟩=some c.lv/\w.cell? ⟨u,6,none⟩=some c.cv:=
 ⟨Qo w u 0 _ _ _ h,Qo w u 1 _ _ _ h,Qo w u 2 _ _ _ h,Qo w u 3 _ _ _ h,Qo w u 4 _ _ _ h,Qo w u 5 _ _ _ h,Qo w u 6 _ _ _ h⟩
theorem UBox.out(h:UBox u c s mv w):w.cell? ⟨u,7,none⟩=some (jA s.st)/\w.cell? ⟨u,8,none⟩=some (jA s.who)/\w.cell? ⟨u,9,none⟩=some (jA s.sc)/\w.cell? ⟨u,10,none⟩=some mv/\w.cell? ⟨u,11,none⟩=some (jA s.sk)/\w.cell? ⟨u,12,none⟩=some (.bool s.dn):=
 ⟨Qo w u 7 _ _ _ h,Qo w u 8 _ _ _ h,Qo w u 9 _ _ _ h,Qo w u 10 _ _ _ h,Qo w u 11 _ _ _ h,Qo w u 12 _ _ _ h⟩
theorem UBox.putSt(h:UBox u c s mv w)(k:Int):UBox u c {s with st:=k} mv (w.setCell ⟨u,7,none⟩ (jA k)):=QW w u 7 _ _ _ h
theorem UBox.putWho(h:UBox u c s mv w)(k:Int):UBox u c {s with who:=k} mv (w.setCell ⟨u,8,none⟩ (jA k)):=QW w u 8 _ _ _ h
theorem UBox.putSc(h:UBox u c s mv w)(k:Int):UBox u c {s with sc:=k} mv (w.setCell ⟨u,9,none⟩ (jA k)):=QW w u 9 _ _ _ h
theorem UBox.putMt(h:UBox u c s mv w)(l:List Int)(v:Value):UBox u c {s with mt:=l} v (w.setCell ⟨u,10,none⟩ v):=QW w u 10 _ _ _ h
theorem UBox.putSk(h:UBox u c s mv w)(k:Int):UBox u c {s with sk:=k} mv (w.setCell ⟨u,11,none⟩ (jA k)):=QW w u 11 _ _ _ h
theorem UBox.putDn(h:UBox u c s mv w)(k:Bool):UBox u c {s with dn:=k} mv (w.setCell ⟨u,12,none⟩ (.bool k)):=QW w u 12 _ _ _ h
end
structure Apart(G:Nat->Prop)(B:Nat)(w w':World):Prop where
 below:Below B w w'
 keep:∀k,k<w.heap.size->¬G k->w'.heap[k]? = w.heap[k]?
section
variable {G:Nat->Prop} {B:Nat} {w w' w'':World}
theorem Apart.refl(G:Nat->Prop)(B:Nat)(w:World):Apart G B w w:=⟨Qi _ _,λ_ _ _=>rfl⟩
theorem Apart.trans(h:Apart G B w w')(k:Apart G B w' w''):Apart G B w w'':=
 ⟨h.below.trans k.below,λj a b=>(k.keep j (Qw a h.below.size) b).trans (h.keep j a b)⟩
theorem Apart.of(hb:w w')(b:B<=w.heap.size):Apart G B w w':=⟨hb.mono b,λk a _=>hb.block k a⟩
theorem Apart.mono{a:Nat->Prop}(h:Apart G B w w')(d:∀k,G k->a k):Apart a B w w':=⟨h.below,λk b e=>h.keep k b λc=>e (d k c)⟩
theorem Oth.apart{g:Nat}(h:Oth B g w w')(b:G g):Apart G B w w':=⟨h.below,λk a c=>h.keep k a λe=>c (e ▸ b)⟩
theorem Apart.then{b:Nat->Prop}(h:Apart G B w w')(k:Apart b B w' w'')(e:∀j,b j->G j\/w.heap.size<=j):Apart G B w w'':=
 ⟨h.below.trans k.below,λj a c=>(k.keep j (Qw a h.below.size) λd=>(e j d).elim c λh2=>by omega).trans (h.keep j a c)⟩
end
def znz(B u:Nat)(c:zeb)(s:RunS)(a:Value)(w:World)(e:Ending)(w':World):Prop:=
 e=jC (.tuple #[])/\UBox u c s a w'/\Oth B u w w'
theorem zu7(B u:Nat)(c:zeb)(s:RunS)(G:Value)(y:Int)(a:zcL)(w:World)(h:UBox u c s G w)(A:B<=u)(D:s.dn=false)(v:0<=s.sc/\s.sc<=1000000)(J:0<=a.n/\a.n<=1000):
 Calls prog 190 #[.pointer u,jA y,.agg #[jA a.k,jA a.n]] w (znz B u c (actS y s a) G w):=by
 have hz:=h.lt;obtain⟨z,m⟩:∃z,w.alloc (.cells #[jA a.k,jA a.n] 65)=z:=⟨_,rfl⟩
 have t:w z:=by rw[<-m];exact WaL
 have g:=h.below t;have C:Oth B u w z:=Oth.of t (by omega);have q:z.heap[w.heap.size]? = some (.cells #[jA a.k,jA a.n] 65 (0,0)):=by rw[<-m];exact Qv w _
 have a0:=zak q
 have d:Hid (actS y s a=if a.k=3 then {s with sc:=min (s.sc+a.n) 1000000}else if a.k=4 then {s with sk:=a.n}else if a.k=2 then {s with st:=a.n,who:=y,dn:=true}else if a.k=5 then {s with dn:=true}else s):=by
  unfold Hid actS;rw[Qf (by rw[D];decide)]
 obtain⟨S,K⟩:∃S,actS y s a=S:=⟨_,rfl⟩
 rw[K]at d ⊢;obtain⟨Z,u8,T,N,L,X⟩:=g.out;have f7:=g.free;have O:u<z.heap.size:=g.lt;have i:=hIx g;have f:=hIx C;have e:=hIx m;have b:Hid (∀W,UBox u c S G W->Oth B u w W->znz B u c S G w (jC (.tuple #[])) W):=λW h1 h2=>⟨rfl,h1,h2⟩
 obtain⟨k,n⟩:=a;dsimp only at *;obtain⟨E,x⟩:∃E,s.sc=E:=⟨_,rfl⟩
 have r:=hIx x;rw[x]at T v d;have ⟨Q,U⟩:=v;have ⟨P,V⟩:=J;clear m K q h t g C D v J x;unfold znz
 by_cases j:k=3
 ·subst j
  have l:Hid (S={s with sc:=min (E+n) 1000000}):=by unfold Hid;rw[d.out,Qj rfl]
  have i7:IntKind.i64.wrap (E+n)=E+n:=Qz _ (by omega);clear d
  go_in
  go_upto_region 1 with fail
  rw[e.out];go_wp2_with fail
  go_region
  go_wp2_with fail
  go_end0
  exact b.out _ (by rw[l.out];exact i.out.putSc _) ((f.out.trans (Oth.set A _ 9 _)).trans (Oth.drew (by rw[ZT];omega)))
 have H:(k==3)=false:=Qc.2 j
 by_cases o:k=4
 ·subst o
  have l:Hid (S={s with sk:=n}):=by unfold Hid;rw[d.out,Qf j,Qj rfl,<-r.out]
  clear d H j
  go_in
  go_upto_region 1 with fail
  rw[e.out];go_wp2_with fail
  go_end0
  exact b.out _ (by rw[l.out];exact i.out.putSk _) (f.out.trans (Oth.set A _ 11 _))
 have I:(k==4)=false:=Qc.2 o
 by_cases h2:k=2
 ·subst h2
  have l:Hid (S={s with st:=n,who:=y,dn:=true}):=by unfold Hid;rw[d.out,Qf j,Qf o,Qj rfl,<-r.out]
  clear d H j I o
  go_in
  go_upto_region 1 with fail
  rw[e.out];go_wp2_with fail
  go_end0
  exact b.out _ (by rw[l.out];exact((i.out.putSt _).putWho _).putDn _) (((f.out.trans (Oth.set A _ 7 _)).trans (Oth.set A _ 8 _)).trans (Oth.set A _ 12 _))
 have Y:(k==2)=false:=Qc.2 h2
 by_cases F:k=5
 ·subst F
  have l:Hid (S={s with dn:=true}):=by unfold Hid;rw[d.out,Qf j,Qf o,Qf h2,Qj rfl,<-r.out]
  clear d H j I o Y h2
  go_in
  go_upto_region 1 with fail
  rw[e.out];go_wp2_with fail
  go_end0
  exact b.out _ (by rw[l.out];exact i.out.putDn _) (f.out.trans (Oth.set A _ 12 _))
 ·have q5:(k==5)=false:=Qc.2 F
  have l:Hid (S=s):=by unfold Hid;rw[d.out,Qf j,Qf o,Qf h2,Qf F]
  clear d j o h2 F
  go_in
  go_upto_region 1 with fail
  rw[e.out];go_wp2_with fail
  go_end0
  exact b.out _ (by rw[l.out];exact i.out) f.out
noncomputable def isR(r:zaz)(m t b:ByteArray)(f:List zas)(d:Nat)(e:Int)(c a:List Pair):Bool:=
 (allP (vfP m t b f d e c a) (r.vars.map varQ) (r.vars.map varQ)).any (hitX r.pipe r.no (tstO r.op r.arg))
theorem R9.cells9{w:World}{g:Nat}{c d e i a j k f b:Value}(h:R9 w g c d e i a j k f b):
 w.cell? g=some c/\w.cell? ⟨g,1,none⟩=some d/\w.cell? ⟨g,2,none⟩=some e/\w.cell? ⟨g,3,none⟩=some i/\w.cell? ⟨g,4,none⟩=some a/\w.cell? ⟨g,5,none⟩=some j/\w.cell? ⟨g,6,none⟩=some k/\w.cell? ⟨g,7,none⟩=some f/\w.cell? ⟨g,8,none⟩=some b:=
 ⟨h.cell 0,h.cell 1,h.cell 2,h.cell 3,h.cell 4,h.cell 5,h.cell 6,h.cell 7,h.cell 8⟩
def ptrV(g:Nat):Value:=.pointer g
def rowP:RowT Nat where
 e:=213
 t:=212
 size:=1
 bytes:=8
 z:=.pointer none
 cells g:=[ptrV g]
 hsz _:=rfl
 hpos:=by decide
 under:=underlying212
 info:=by kernel_rfl
 hz:=rfl
 one x u hu:=by
  rw[QF]at hu;rw[hu];rfl
 hbytes:=by decide
theorem zlZ(l:List Nat):l.flatMap rowP.cells=l.map ptrV:=by
 induction l with
 |nil=>rfl
 |cons a r ih=>rw[QV,ih];rfl
def zhY(x:RuM):zcr:=⟨x.r.id,x.r.phase,.slice x.vA x.r.vars.length x.vc,.slice x.pA x.r.pipe.length x.pc,x.r.no,x.r.op,x.r.arg,.slice x.aA x.r.acts.length x.ac,x.r.chain⟩
abbrev RuB:=Nat × RuM
def ze2(a:List RuB)(k:Nat):Prop:=∃p∈a,p.1=k
def GU(u:Nat)(a:List RuB)(k:Nat):Prop:=k=u\/ze2 a k
def AllSt(F:Nat->Prop)(a:List RuB)(w:World):Prop:=∀p∈a,StR F p.1 (zhY p.2) (tstO p.2.r.op p.2.r.arg) w
theorem StR.box{F:Nat->Prop}{g:Nat}{r:zcr}{f:ByteArray->Bool}{w:World}(h:StR F g r f w):∃d m t,RBox g r d m t w:=by
 rcases h with h|h
 ·exact⟨_,_,_,h⟩
 ·obtain⟨t,h⟩:=h.box
  exact⟨_,_,_,h⟩
theorem RBox.five{g:Nat}{r:zcr}{d m:Int}{t:Value}{w:World}(h:RBox g r d m t w):w.cell? g=some (jA r.id)/\w.cell? ⟨g,1,none⟩=some (jA r.ph)/\w.cell? ⟨g,2,none⟩=some r.vs/\w.cell? ⟨g,7,none⟩=some r.av/\w.cell? ⟨g,8,none⟩=some (.bool r.ch):=
 ⟨Qo w g 0 _ _ _ h,Qo w g 1 _ _ _ h,Qo w g 2 _ _ _ h,Qo w g 7 _ _ _ h,Qo w g 8 _ _ _ h⟩
theorem AllSt.five{F:Nat->Prop}{a:List RuB}{w:World}(h:AllSt F a w)(p:RuB)(b:p∈a):w.cell? (p.1:)=some (jA p.2.r.id)/\w.cell? ⟨p.1,1,none⟩=some (jA p.2.r.phase)/\w.cell? ⟨p.1,2,none⟩=some (.slice p.2.vA p.2.r.vars.length p.2.vc)/\w.cell? ⟨p.1,7,none⟩=some (.slice p.2.aA p.2.r.acts.length p.2.ac)/\w.cell? ⟨p.1,8,none⟩=some (.bool p.2.r.chain):=by
 obtain⟨d,m,t,hb⟩:=(h p b).box;exact hb.five
theorem AllSt.next{F:Nat->Prop}{a:List RuB}{w W:World}(h:AllSt F a w)(hb:w W):AllSt F a W:=λp b=>(h p b).next hb
theorem AllSt.keep{F:Nat->Prop}{a:List RuB}{w W:World}(h:AllSt F a w)(e:w.heap.size<=W.heap.size)(d:∀p∈a,W.heap[p.1]? = w.heap[p.1]?)(c:∀k,k<w.heap.size->¬F k->W.heap[k]? = w.heap[k]?):AllSt F a W:=λp b=>(h p b).keep e (d p b) c
theorem AllSt.more{F b:Nat->Prop}{a:List RuB}{w:World}(h:AllSt F a w)(d:∀k,b k->F k\/w.heap.size<=k):AllSt b a w:=λp c=>(h p c).more d
theorem zlE:∀{l:List RuB},(l.map (·.1)).Nodup->∀{p q:RuB},p∈l->q∈l->p.1=q.1->p=q
 | [],_,_,_,d,_,_=>by cases d
 |x::l,c,p,q,d,f,e=>by
  rw[Q8,XJ]at c
  rcases QN.1 d with b|b
  ·rcases QN.1 f with a|a
   ·exact b.trans a.symm
   ·exact absurd (show x.1∈l.map (·.1)from QS.2 ⟨q,a,by rw[<-e,b]⟩) c.1
  ·rcases QN.1 f with a|a
   ·exact absurd (show x.1∈l.map (·.1)from QS.2 ⟨p,b,by rw[e,a]⟩) c.1
   ·exact zlE c.2 b a e
theorem AllSt.asked{F:Nat->Prop}{a:List RuB}{B:Nat}{w W:World}(h:AllSt F a w)(l:∀p∈a,F p.1)(f:(a.map (·.1)).Nodup)(p:RuB)(g:p∈a)(b:Oth B p.1 w W)(j:StR F p.1 (zhY p.2) (tstO p.2.r.op p.2.r.arg) W):AllSt F a W:=λq c=>by
 by_cases e:q.1=p.1
 ·have d:q=p:=zlE f c g e
  rw[d];exact j
 ·exact(h q c).keep b.below.size (b.keep _ (h q c).lt e) λk i f=>b.keep k i λd=>f (d ▸ l p g)
structure RunQ where
 m:ByteArray
 t:ByteArray
 b:ByteArray
 fs:List zas
 A:Option Addr
 c:Nat
 cl:Nat
 list:List Pair
 Al:Option Addr
 c1:Nat
 cook:List Pair
 Ac:Option Addr
 c2:Nat
def RunQ.uc(q:RunQ):zeb:=⟨q.m,q.t,.slice q.A q.fs.length q.c,q.b,(q.cl:Int),.slice q.Al q.list.length q.c1,.slice q.Ac q.cook.length q.c2⟩
noncomputable def RunQ.hit(q:RunQ)(a:Int)(r:zaz):Bool:=isR r q.m q.t q.b q.fs q.cl a q.list q.cook
structure zgU(B u:Nat)(all:List RuB)(q:RunQ)(wS:World):Prop where
 nodup:(all.map (·.1)).Nodup
 base:∀p∈all,B<=p.1/\p.1<wS.heap.size/\p.1≠u
 ub:B<=u/\u<wS.heap.size
 rin:∀p∈all,RuIn wS B p.2
 small:∀p∈all,ze3 p.2.r
 ops:∀p∈all,1<=p.2.r.op/\p.2.r.op<=12/\argC p.2.r.op p.2.r.arg=0
 acts:∀p∈all,∀a∈p.2.r.acts,0<=a.n/\a.n<=1000
 val:∀W,Apart (GU u all) B wS W->ValIn q.m q.t q.b q.fs q.A q.list q.Al q.cook q.Ac W
 zs:∀sc:Int,0<=sc->sc<=1000000->znj q.t q.fs q.list q.cook q.cl sc
def zAt(F:Nat->Prop)(a b:List RuB)(B:Nat)(H:RuB->Bool)(w:World)(i:Value)(wr:World):Prop:=
 ∃k:Nat,k<=b.length/\i=jA k/\AllSt F a wr/\Apart (ze2 a) B w wr/\Hid ((b.take k).all H=true)
theorem zwc{a:Type}(p:a->Bool)(l:List a)(k:Nat)(c:k<l.length)(h:(l.take k).all p=true)(b:p l[k]=true):(l.take (k+1)).all p=true:=by
 rw[Qu c,List.all_append,h,Bool.true_and,ZM,b];rfl
theorem zuw{b:Type}(p:b->Bool)(l:List b)(k:Nat)(c:k<l.length)(a:p l[k]=false):l.all p=false:=by
 rw[Bool.eq_false_iff];intro h;rw[Zv.1 h _ (QC c)]at a;cases a
theorem zpb{w:World}{n:Nat}{A:Option Addr}{l:List RuB}(h:Sl w w.heap.size 1 A n (l.map λp=>ptrV p.1))(k:Nat)(c:k<l.length):∃b a,A=some ⟨b,a,none⟩/\w.cell? ⟨b,a+k,none⟩=some (.pointer (l[k].1:)):=by
 obtain⟨b,a,e,_,d⟩:=h.src (by rw[Qk];omega);refine⟨b,a,e,?_⟩;rw[d k (by rw[Qk];exact c),Zo]
 rfl
def zl4(F:Nat->Prop)(a:List RuB)(B:Nat)(b:Bool)(w:World)(e:Ending)(w':World):Prop:=
 e=jC (.bool b)/\AllSt F a w'/\Apart (ze2 a) B w w'
theorem ztv{B u:Nat}{a:List RuB}{q:RunQ}{wS:World}(f:zgU B u a q wS)(F:Nat->Prop)(he:∀p∈a,F p.1)(s:RunS)(mv:Value)(d:List RuB)(hc:∀p∈d,p∈a)(hE:d.length<=4194304)(Ap:Option Addr)(cp:Nat)(w:World)
 (hq:Apart (GU u a) B wS w) (hu:UBox u q.uc s mv w) (z:0<=s.sc/\s.sc<=1000000) (T:AllSt F a w) (hF:∀k,F k->k<w.heap.size)
 (Q:∀W,Apart (ze2 a) B w W->Sl W W.heap.size 1 Ap d.length (d.map λp=>ptrV p.1)):
 Calls prog 158 #[.pointer u,.slice Ap d.length cp] w (zl4 F a B (d.all λp=>q.hit s.sc p.2.r) w):=by
 have h8:∀W,Apart (ze2 a) B w W->UBox u q.uc s mv W:=λW h=>hu.keep (h.keep u hu.lt λ⟨p,n,e⟩=>(f.base p n).2.2 e)
 have j:∀W,Apart (ze2 a) B w W->Apart (GU u a) B wS W:=λW h=>hq.trans (h.mono λk hk=>.inr hk)
 have HU:=hIx h8
 have P:Hid (∀(p:RuB) W,p∈a->Apart (ze2 a) B w W->Calls prog 189 #[.slice p.2.vA p.2.r.vars.length p.2.vc,.agg #[.string q.m,.string q.t,.slice q.A q.fs.length q.c,.string q.b],.int .u32 (q.cl:Int),jA s.sc,.slice q.Al q.list.length q.c1,.slice q.Ac q.cook.length q.c2] W
  (RowA (allP (vfP q.m q.t q.b q.fs q.cl s.sc q.list q.cook) (p.2.r.vars.map varQ) (p.2.r.vars.map varQ)) W)):=λp W n hW=>by
  have o:=j W hW;have hB:=f.rin p n
  have hx:Sl W W.heap.size 3 p.2.vA (p.2.r.vars.map varQ).length ((p.2.r.vars.map varQ).flatMap zb5):=by
   rw[zp0,Qk];exact(hB.vars.below o.below).more (Ql f.ub.1 (QZ (Qw f.ub.2 o.below.size)))
  have Y:(p.2.r.vars.map varQ).length<=1048576:=by rw[Qk];exact(f.small p n).vars
  have hz:=f.zs s.sc z.1 z.2;have:=zxq (p.2.r.vars.map varQ) p.2.vA p.2.vc q.m q.t q.b q.fs q.A q.c q.cl s.sc q.list q.Al q.c1 q.cook q.Ac q.c2 W hx (f.val W o) hz (by omega) (zoh hz _ _ Y);rw[Qk]at this;exact this
 have K:Hid (∀(p:RuB) (v:Value) W E,p∈a->Apart (ze2 a) B w W->AllSt F a W->OwnA E W.heap.size v (allP (vfP q.m q.t q.b q.fs q.cl s.sc q.list q.cook) (p.2.r.vars.map varQ) (p.2.r.vars.map varQ))->W E->
  ∃A4 n4 c4,v=.slice A4 n4 c4/\Calls prog 188 #[.pointer (some ⟨p.1,0,none⟩),.slice A4 n4 c4] E λe w'=>e=jC (.bool (q.hit s.sc p.2.r))/\AllSt F a w'/\Apart (ze2 a) B w w'):=λp v W E n hW hs hO hb=>by
  have o:=j W hW;have hz:=f.zs s.sc z.1 z.2;have Y:(p.2.r.vars.map varQ).length<=1048576:=by rw[Qk];exact(f.small p n).vars
  have h5:=zoh (m:=q.m) (b:=q.b) hz (p.2.r.vars.map varQ) (p.2.r.vars.map varQ) Y;have hi:q.hit s.sc p.2.r=(allP (vfP q.m q.t q.b q.fs q.cl s.sc q.list q.cook) (p.2.r.vars.map varQ) (p.2.r.vars.map varQ)).any (hitX p.2.r.pipe p.2.r.no (tstO p.2.r.op p.2.r.arg)):=rfl;rw[hi];generalize allP (vfP q.m q.t q.b q.fs q.cl s.sc q.list q.cook) (p.2.r.vars.map varQ) (p.2.r.vars.map varQ)=L at *;obtain⟨A4,c4,rfl,_⟩:=hO.form;have hv:B<=W.heap.size:=Ql f.ub.1 (QZ (Qw f.ub.2 o.below.size));have h4:Apart (ze2 a) B w E:=hW.trans (Apart.of hb hv);have hf:=hs.next hb;have h6:=f.base p n;have hC:p.1<W.heap.size:=Qw h6.2.1 o.below.size;have G:∀X,Oth B p.1 E X->Apart (ze2 a) B w X:=λX x=>h4.trans (x.apart ⟨p,n,rfl⟩)
  have hy:∀X,Oth B p.1 E X->B<=X.heap.size:=λX x=>Ql hv (Ql hb.size x.below.size)
  have hr:∀X,Oth B p.1 E X->Sl X X.heap.size 2 A4 L.length (L.flatMap za6):=λX x=>by
   have h2:=hO.keep (w':=X) λg hg=>by
    have:=QE hO g hg;exact x.keep g this.2 (by omega)
   obtain⟨A',c',e',hA⟩:=h2.form;injection e' with e1 _ _
   rw[e1];exact hA
  obtain⟨o1,o2,o3⟩:=f.ops p n
  refine⟨A4,L.length,c4,rfl,(zm7 B F p.1 (zhY p.2) p.2.r.pipe p.2.pA p.2.pc rfl (by have:=(f.small p n).pipe;omega) L h5 A4 c4 E h6.1 (λk hk=>Qw (hF k hk) h4.below.size) (hf p n)
   (λX x=>((f.rin p n).pipe.below (j X (G X x)).below).more (hy X x)) hr (λX x=>(f.val X (j X (G X x))).lib) (λX x=>(f.val X (j X (G X x))).tab) o1 o2 (f.small p n).arg o3).mono ?_⟩
  rintro e w' ⟨rfl,T,ho⟩;exact⟨rfl,hf.asked he f.nodup p n ho T,G w' ho⟩
 have ht:Hid (∀W,Apart (ze2 a) B w W->B<=W.heap.size):=λW hW=>Ql f.ub.1 (QZ (Qw f.ub.2 (j W hW).below.size))
 have O:=hIx Q;obtain⟨H,N⟩:∃H:RuB->Bool,(λp=>q.hit s.sc p.2.r)=H:=⟨_,rfl⟩
 have hj:Hid (∀p,q.hit s.sc p.2.r=H p):=λp=>by rw[<-N]
 rw[N];have hd:=hIx hc;unfold zl4;clear h8 j Q N f hq hu hF he z hc
 go_in
 go_wp2
 go_loopw [9] (λi wr=>zAt F a d B H w i wr) (λi _=>d.length-(intOf i).toNat)
 case atStart=>exact⟨0,Qn _,rfl,T,Apart.refl _ _ _,rfl⟩
 case round=>
  obtain⟨k,hk,rfl,hs,ha,l⟩:=hrel
  by_cases I:k<d.length
  ·have d1:decide ((k:Int)<(d.length:Int))=true:=by simp;omega
   have i7:IntKind.i64.wrap ((k:Int)+1)=(k:Int)+1:=Qz _ (by omega);obtain⟨b,hD,rfl,x0⟩:=zpb (O.out wr ha) k I;have D:=hd.out d[k] (QC I);have V:Hid (H d[k]=true->(d.take (k+1)).all H=true):=λh=>zwc H d k I l.out h
   have h0:Hid (H d[k]=false->d.all H=false):=zuw H d k I;generalize d[k]=p at *;have HS:=hIx hs;have HA:=hIx ha;have hn:=hIx (P.out p wr.drew D (ha.trans (Apart.of (Qi _ _).drew (ht.out wr ha))));have hw:=hIx (K.out p);have hm:=hIx (hj.out p);obtain⟨p1,J⟩:=p;dsimp only at *;clear P K O hs ha l hd hj
   have HK:Hid (∀w',AllSt F a w'->Apart (ze2 a) B w w'->w'.cell? ⟨p1,2,none⟩=some (.slice J.vA J.r.vars.length J.vc)/\w'.cell? u=some (.string q.m)/\w'.cell? ⟨u,1,none⟩=some (.string q.t)/\w'.cell? ⟨u,2,none⟩=some (.slice q.A q.fs.length q.c)/\w'.cell? ⟨u,3,none⟩=some (.string q.b)/\w'.cell? ⟨u,4,none⟩=some (.int .u32 (q.cl:Int))/\w'.cell? ⟨u,5,none⟩=some (.slice q.Al q.list.length q.c1)/\w'.cell? ⟨u,6,none⟩=some (.slice q.Ac q.cook.length q.c2)/\w'.cell? ⟨u,9,none⟩=some (jA s.sc)):=λW h1 h2=>by
    have h3:=(h1.five (p1,J) D).2.2.1;have h4:=HU.out W h2;obtain⟨e0,e1,e2,e3,e4,e5,e6⟩:=h4.req;exact⟨h3,e0,e1,e2,e3,e4,e5,e6,h4.out.2.2.1⟩
   have K0:=HK.out wr HS.out HA.out;have h7:=ht.out wr HA.out;go_upto_region 4 with fail
   go_region_held3 (λw'=>w'.cell? ⟨p1,2,none⟩=some (.slice J.vA J.r.vars.length J.vc)/\w'.cell? u=some (.string q.m)/\w'.cell? ⟨u,1,none⟩=some (.string q.t)/\w'.cell? ⟨u,2,none⟩=some (.slice q.A q.fs.length q.c)/\w'.cell? ⟨u,3,none⟩=some (.string q.b)/\w'.cell? ⟨u,4,none⟩=some (.int .u32 (q.cl:Int))/\w'.cell? ⟨u,5,none⟩=some (.slice q.Al q.list.length q.c1)/\w'.cell? ⟨u,6,none⟩=some (.slice q.Ac q.cook.length q.c2)/\w'.cell? ⟨u,9,none⟩=some (jA s.sc))
    (first|exact K0|exact K8|exact K9|go_keep|fail "keep")
    (first|(go_at_call 189;(with_reducible refine hn.out.mono ?_);rintro e w8 ⟨v8,rfl,hh,y⟩;have S:wr w8:=undrew y;have K8:=HK.out w8 (HS.out.next S) (HA.out.trans (Apart.of S h7));obtain⟨A4,n4,c4,rfl,h9⟩:=hw.out v8 wr.drew w8 D (HA.out.trans (Apart.of (Qi _ _).drew h7)) (HS.out.next (Qi _ _).drew) hh y)|(go_at_call 188;(with_reducible refine h9.mono ?_);rintro e w9 ⟨rfl,Z,U⟩;have K9:=HK.out w9 Z U)|fail "arm")
   rw[hm.out];clear K0 K8 K9 hn hw h9 hh S y HK HU hm;cases N:H (p1,J)with
   |true=>
    have C:=hIx (V.out N);clear N V h0;go_wp2;exact⟨⟨k+1,by omega,rfl,Z,U,C.out⟩,by dsimp only[intOf];omega⟩
   |false=>
    have C:=hIx (h0.out N);clear N V h0;go_wp2;go_ret;exact⟨by rw[C.out];rfl,Z,U⟩
  ·obtain rfl:k=d.length:=by omega
   have d1:decide ((d.length:Int)<(d.length:Int))=false:=by simp
   have C:Hid (d.all H=true):=by have:=l.out;rw[Q0]at this;exact this
   clear l;go_wp2;go_ret;exact⟨by rw[C.out];rfl,hs,ha⟩
