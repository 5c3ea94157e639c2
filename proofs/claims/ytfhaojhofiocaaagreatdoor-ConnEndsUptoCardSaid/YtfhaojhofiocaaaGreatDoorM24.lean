/- Lemmas for the last texts. -/
import Derived.Test.YtfhaojhofiocaaaGreatDoorM23
import Derived.Lib.SlBytesConst
import Derived.OneCell
import Derived.Lib.AppendStr
set_option maxHeartbeats 6400000
set_option maxRecDepth 100000
namespace Go.Proofs.YtfhaojhofiocaaaGreatDoor
open Go.RowKit Go.Proofs.Tryz
section
variable {P:Program} {w:World}
theorem zmx(base:Nat)(t H e:TypeId)(i:TypeInfo)(z:Value)(size o:Nat)(I:P.underlying t=some (.slice e))(K:P.info? e=some i)(O:i.zero=some z)
 (r:i.size=size) (D:i.bytes=o)
 (v:Value) (n:Nat) (F:List Value) (d:w.ownsRow base e size v n F) (T:0<n)
 (a:Addr) (m c:Nat) (b:List Value) (hl:b.length=m*size) (l:∀j u,b[j]? = some u->w.cell? (a.add j)=some u) (h1:∀u∈b,u.oneCell'=true)
 (C:n+m<=maxLen) (q:(n+m)*o<=140737488355328) {v':Value} {w':World} (J:(Builtin.append_ #[t,t] H #[v,.slice (some a) m c]).run P w=.ok v' w'):
 ∀k,v'.ownBlock=some k->v.ownBlock=some k\/w.heap.size<=k:=by
 subst r;subst D;have A:n+m<=9223372036854775807:=by simp only[maxLen]at C;omega
 rcases d.2 with ⟨rfl,rfl⟩|⟨g,cap,x,rfl,Q,N,S,L,G,E⟩
 ·omega
 ·by_cases h:n+m<=cap
  ·have y:n*i.size+b.length<=x.size:=by rw[hl,G,<-Nat.add_mul];exact Xu _ h
   have f:=run_append_room (P:=P) w t H e i I K g n cap x N a m c b hl l h1 h y;rw[J]at f;injection f with h2 _
   subst h2;exact λk B=>.inl B
  ·have s:∀j u,F[j]? = some u->w.cell? ((⟨g,0,none⟩:Addr).add j)=some u:=d.cells (g:=g) rfl
   have f:=run_append_grow (P:=P) w t H e i z I K O ⟨g,0,none⟩ n cap F d.1 s a m c b hl l (by omega) (by omega) (growslice_fits (by omega) q);rw[J]at f;injection f with h2 _
   subst h2;intro k B;simp only[Value.ownBlock,Option.some.injEq]at B;exact .inr (by omega)
end
section
variable {ops:Array Oper} {rest:List Oper} {o:Oper} {a:Act} {Q:Exit->Act->World->Prop} {w:World}
theorem zg4(m:o.guard=none)(s x:Operand)(F:o.op=.call {callee:=.builtin .append,args:=#[s,x],argTypes:=#[108,108]})
 (base:Nat) (v:Value) (l:List ByteArray) (H:a.eval s=v) (e:OwnS w base v l) (C:0<l.length) (n:base<=w.heap.size)
 (new:ByteArray) (y:Nat) (t:w.heap.size=y) (c:Nat) (I:a.eval x=.slice y 1 c)
 (j:l.length<=4194304)
 (h:∀v' w',OwnS w' base v' (l++[new])->w.grownBy w' v.ownBlock->(∀k,v'.ownBlock=some k->v.ownBlock=some k\/w.heap.size<=k)->wpList prog ops Q rest (a.put o.dst v') w'):
 wpList prog ops Q (o::rest) a (w.alloc (.cells #[.string new] 9)):=by
 subst t;obtain⟨z,B,f,g,i⟩:=ZG zoj;refine Z3 m λK E=>?_
 have b:=World.ownsRow.alloc e (.cells #[.string new] 9);have d:=zd6 w [.string new] 9
 obtain⟨v',w',A,h2,G,_⟩:=run_append_own (P:=prog) (w.alloc (.cells #[.string new] 9)) base 108 o.type 9 z (.string ByteArray.empty) 1 16 underlying108 B f g i rfl (by decide) v l.length (l.map Value.string) b
  ⟨w.heap.size,0,none⟩ 1 c [.string new] rfl d (λu r=>by rw[QF.1 r];rfl) (by unfold maxLen;omega) (by omega) (by simp;omega)
 have q:=zmx (P:=prog) (w:=w.alloc (.cells #[.string new] 9)) base 108 o.type 9 z (.string ByteArray.empty) 1 16 underlying108 B f g i v l.length (l.map Value.string) b C
  ⟨w.heap.size,0,none⟩ 1 c [.string new] rfl d (λu r=>by rw[QF.1 r];rfl) (by unfold maxLen;omega) (by omega) A
 unfold Oper.wp execOp;simp only[F,resolve,invoke,builtin,Xj,Sem.run_pure,ZY,List.map_toArray,Q8,ZE,H,I,A];refine E _ _ (h v' w' (by unfold OwnS;rw[Qb,Q2];exact h2) (zay (World.grownBy_alloc w _ _) G) λk D=>?_)
 rcases q k D with h|h
 ·exact .inl h
 ·exact .inr (by rw[Qp]at h;omega)
end
def zhG:ByteArray:=ByteArray.mk #[99,111,110,110,101,99,116,105,111,110]
def ze9:List ByteArray:=[zhG,ByteArray.mk #[107,101,101,112,45,97,108,105,118,101],ByteArray.mk #[112,114,111,120,121,45,99,111,110,110,101,99,116,105,111,110],ByteArray.mk #[116,101],
 ByteArray.mk #[116,114,97,105,108,101,114],ByteArray.mk #[116,114,97,110,115,102,101,114,45,101,110,99,111,100,105,110,103],ByteArray.mk #[117,112,103,114,97,100,101],ByteArray.mk #[99,111,110,116,101,110,116,45,108,101,110,103,116,104]]
def zav(v:ByteArray):List ByteArray:=(splL 44 v.data.toList).map λx=>bs (zaB (zaI x))
def zbL(a:List zas):List ByteArray:=ze9++(getL a zhG).flatMap zav
def lowN(f:zas):ByteArray:=bs (zaB f.1.data.toList)
def zgu(a:List zas)(f:zas):Bool:=!(Lib.containsS (zbL a) (lowN f))
def zbi(a:List zas):List zas:=a.filter (zgu a)
structure zgF(fs:List zas):Prop where
 n:fs.length<=4194304
 sz:∀f∈fs,f.1.size<=4194304/\f.2.size<=4194304
 drop:(zbL fs).length<=4194304
theorem zp2(a:List zas)(k:Nat)(h:k<a.length):(a.take (k+1)).filter (zgu a)=(a.take k).filter (zgu a)++if Lib.containsS (zbL a) (lowN a[k])=true then []else [a[k]]:=by
 rw[Qu h,ZR];unfold zgu
 by_cases c:Lib.containsS (zbL a) (lowN a[k])=true <;> simp[c]
theorem zu4(a:List zas)(k:Nat):((a.take k).filter (zgu a)).length<=k:=Ql (Zh _ _) (ZN _ _)
theorem znl(cs:List ByteArray)(k:Nat)(h:k<cs.length):(cs.take (k+1)).flatMap zav=(cs.take k).flatMap zav++zav cs[k]:=by
 rw[Qu h,Q7];simp
theorem zsO(cs:List ByteArray)(k:Nat):((cs.take k).flatMap zav).length<=(cs.flatMap zav).length:=by
 have:cs.flatMap zav=(cs.take k).flatMap zav++(cs.drop k).flatMap zav:=by rw[<-Q7,Zt]
 rw[this,Qb];omega
def zhL(h:zbR)(w:World)(e:Ending)(w':World):Prop:=
 ∃A c,e=jC (.agg #[.string h.m,.string h.t,.slice A (zbi h.fs).length c])/\OwnV w' w.heap.size (.slice A (zbi h.fs).length c) (zbi h.fs)/\w w'
structure DropSt(w2:World)(lit:Nat)(w:World)(v:Value)(acc:List ByteArray):Prop where
 own:OwnS w lit v acc
 far:∀q,v.ownBlock=some q->q=lit\/w2.heap.size<=q
 grown:w2.grownBy w (some lit)
def zpA(cs:List ByteArray)(w2:World)(lit:Nat)(v i:Value)(wr:World):Prop:=
 ∃k:Nat,k<=cs.length/\i=jA k/\DropSt w2 lit wr v (ze9++(cs.take k).flatMap zav)
def zwy(a qs:List ByteArray)(c:List ByteArray)(w2:World)(lit b:Nat)(v i:Value)(wr:World):Prop:=
 ∃j:Nat,j<=qs.length/\i=jA j/\DropSt w2 lit wr v (a++qs.take j)/\(∀q,v.ownBlock=some q->q≠b)/\wr.heap[b]? = some (.cells (c.map Value.string).toArray 9 (0,0))
theorem DropSt.below{w2:World}{lit:Nat}{w w':World}{v:Value}{a:List ByteArray}(h:DropSt w2 lit w v a)(hb:w w'):DropSt w2 lit w' v a:=
 ⟨h.own.below hb,h.far,zjm h.grown hb⟩
theorem DropSt.push{w2:World}{lit:Nat}{w w':World}{v v':Value}{a:List ByteArray}{x:ByteArray}(h:DropSt w2 lit w v a)(j:OwnS w' lit v' (a++[x]))(c:w.grownBy w' v.ownBlock)(g:∀k,v'.ownBlock=some k->v.ownBlock=some k\/w.heap.size<=k):
 DropSt w2 lit w' v' (a++[x]):=
 ⟨j,λq f=>(g q f).elim (h.far q) (λh2=>.inr (Ql h.grown.size h2)),⟨c.os.trans h.grown.os,c.tape.trans h.grown.tape,c.output.trans h.grown.output,Ql h.grown.size c.size,λi d b=>
  (c.block i (Qw d h.grown.size) (λe=>(h.far i e.symm).elim (λh2=>b (by rw[h2])) (λh2=>by omega))).trans (h.grown.block i d b)⟩⟩
theorem OwnS.sl2{w:World}{b n c:Nat}{A:Option Addr}{l:List ByteArray}(h:OwnS w b (.slice A n c) l):n=l.length/\Sl w w.heap.size 1 A l.length (l.map Value.string):=by
 obtain⟨i,j,e,f⟩:=h.form;injection e with a d g
 subst a;subst d
 exact⟨rfl,f⟩
def zzh(a:List zas)(m t:ByteArray)(H:Nat)(b:World)(i:Value)(wr:World):Prop:=
 ∃k v,k<=a.length/\i=jA k/\HdAt H m t v wr/\OwnV wr (H+1) v ((a.take k).filter (zgu a))/\Below H b wr
theorem ztt(h:zbR)(A:Option Addr)(c:Nat)(w:World)(hf:Sl w w.heap.size 2 A h.fs.length (h.fs.flatMap zaJ))(E:zgF h.fs)(h9:LibOk w):
 Calls prog 121 #[.agg #[.string h.m,.string h.t,.slice A h.fs.length c]] w (zhL h w):=by
 obtain⟨m,t,a⟩:=h;dsimp only at *;obtain⟨l,H⟩:∃l,(w.alloc (.cells #[.string m,.string t,.slice A a.length c] 51)).alloc (.cells #[.string (.mk #[]),.string (.mk #[]),jD 0 0] 51)=l:=⟨_,rfl⟩
 have hE:w l:=by rw[<-H];exact WaL.alloc (by simp) _
 have gX:l.heap.size=w.heap.size+2:=by rw[<-H];simp
 have ha:HdAt w.heap.size m t (.slice A a.length c) l:=by
  unfold HdAt;rw[<-H];exact(Qs _ _ _ (by simp)).trans (Qv w _)
 have hr:ResAt (w.heap.size+1) l:=by
  unfold ResAt;rw[<-H];have:=Qv (w.alloc (.cells #[.string m,.string t,.slice A a.length c] 51)) (.cells #[.string (.mk #[]),.string (.mk #[]),jD 0 0] 51);rw[Qp]at this;exact this
 have gd:∀W,l W->HdAt w.heap.size m t (.slice A a.length c) W/\ResAt (w.heap.size+1) W/\w W/\Sl W W.heap.size 2 A a.length (a.flatMap zaJ)/\LibOk W:=λW hb=>by
  have h2:=hE.trans (hb.mono hE.size);exact⟨(hb.block _ (by omega)).trans ha,hr.below hb (by omega),h2,(hf.below h2).more h2.size,h9.below h2⟩
 have h8:=hIx gd;have gt:=hIx H;have gG:w.heap.size<l.heap.size:=by omega
 have k0:w.heap.size+1<l.heap.size:=by omega
 have gl:=hIx E;have hn:=E.n;have gF:=zfz a zhG
 have hi:∀x∈getL a zhG,x.size<=4194304:=λx hx=>by
  obtain⟨f,hf,rfl⟩:=QS.1 hx;exact(E.sz f (Xg.1 hf).1).2
 have ht:=hIx hi;have gi:Hid ((ze9++(getL a zhG).flatMap zav).length<=4194304):=E.drop;have g8:Hid (zbL a=ze9++(getL a zhG).flatMap zav):=rfl
 have hv:Hid (∀W,l W->Calls prog 115 #[.agg #[.string m,.string t,.slice A a.length c],.string zhG] W (zgr (getL a zhG) W)):=λW h=>
  zhI m t A a.length c a zhG W rfl (h8.out W h).2.2.2.1 (λf hf=>by have:=(E.sz f hf).1;unfold maxLen;omega) (by decide) (by omega)
 generalize gM:getL a zhG=cs at *;have a0:=ha.cells;clear H hE ha hr gd hf E hi h9 gM gX;have gE:Sl (l.alloc (.cells (ze9.map Value.string).toArray 9)) (l.alloc (.cells (ze9.map Value.string).toArray 9)).heap.size 1 (some ⟨l.heap.size,0,none⟩) 8 (ze9.map Value.string):=Sl.lit rfl (by simp) rfl rfl;have g5:OwnS (l.alloc (.cells (ze9.map Value.string).toArray 9)) l.heap.size (.slice (some ⟨l.heap.size,0,none⟩) 8 8) ze9:=Xw l (ze9.map Value.string).toArray 8 (Qd _) (by decide) rfl;have gs:l (l.alloc (.cells (ze9.map Value.string).toArray 9)):=WaL;have gz:=hIx (hv.out _ gs);have gg:=hIx g5;clear gE g5 gs hv
 go_in
 go_upto_region 1 with fail
 rw[gt.out];go_wp2_with fail;refine gz.out.mono ?_;rintro e w2 ⟨v2,rfl,hz,O⟩;obtain⟨A2,d2,rfl,g4⟩:=hz.form;have V:=gg.out.below O;have O:=zaN O (Qd _);have hN:l.heap.size<w2.heap.size:=(V.lt _ rfl).2
 have gq:Hid (∀W,w2.grownBy W (some l.heap.size)->∀k (h:k<cs.length),∃b N,A2=some ⟨b,N,none⟩/\W.cell? ⟨b,N+k,none⟩=some (.string cs[k])):=λW hg k h=>by
  obtain⟨b,N,rfl,kc,hc⟩:=g4.src (by rw[Qk];omega);have hl:=hz.lt b rfl;simp at hl;refine⟨b,N,rfl,hg.cell ?_ (λe=>by injection e with e;have:b=l.heap.size:=e;omega)⟩;rw[hc k (by rw[Qk];exact h),Zo]
 have gj:Hid (∀W,w2.grownBy W (some l.heap.size)->l W):=λW hg=>O.grown hg (QZ hN) (λk hk=>by injection hk with hk;omega)
 have gA:Hid (DropSt w2 l.heap.size w2 (.slice (some ⟨l.heap.size,0,none⟩) 8 8) ze9):=⟨V,λq u=>.inl (by injection u with u;exact u.symm),⟨rfl,rfl,rfl,Qd _,λ_ _ _=>rfl⟩⟩
 clear V O g4 hz gz gg gt;go_wp2
 go_loopw [3,15] (λv i wr=>zpA cs w2 l.heap.size v i wr) (λ_ i _=>cs.length-(intOf i).toNat)
 case atStart=>exact⟨0,Qn _,rfl,by simpa using gA.out⟩
 case round=>
  obtain⟨k,hk,rfl,hD⟩:=hrel;have J:=gj.out wr hD.grown;have hF:=gi.out;obtain⟨Ao,co,rfl,_⟩:=hD.own.form
  by_cases B:k<cs.length
  ·have gD:decide ((k:Int)<(cs.length:Int))=true:=by simp;omega
   have i7:IntKind.i64.wrap ((k:Int)+1)=(k:Int)+1:=Qz _ (by omega);obtain⟨b,N,rfl,x0⟩:=gq.out wr hD.grown k B;obtain⟨m0,ge⟩:=(h8.out wr J).2.2.2.2;have ki:=ht.out cs[k] (QC B);have hI:=hIx (znl cs k B);have hw:=zsO cs (k+1);rw[hI.out,Qb]at hw
   have he:Hid ((ze9++(cs.take k).flatMap zav).length+(zav cs[k]).length<=4194304):=by
    unfold Hid;rw[Qb]at hF ⊢;omega
   generalize cs[k]=X at *;have S:=strings_Split X ⟨#[44]⟩ m0 wr (by omega) ge (by decide);have h6:=zb1 44 X;have h7:=Z9 ⟨#[44]⟩ (by decide) 0 _ X rfl;generalize Lib.splitB ⟨#[44]⟩ 0 (Lib.countB X ⟨#[44]⟩) X=y at S h6 h7;generalize Lib.countB X ⟨#[44]⟩=n at S h7;rw[<-h7]at S
   have gx:Hid (zav X=y.map λp=>bs (zaB (zaI p.data.toList))):=by
    unfold Hid zav;rw[<-h6,Xn]
    rfl
   have gH:Hid (∀p∈y,p.size<=4194304):=λp hp=>by
    have hm:p.data.toList∈splL 44 X.data.toList:=by rw[<-h6];exact QS.2 ⟨p,hp,rfl⟩
    have h1:=zbY 44 X.data.toList _ hm;have h2:X.data.toList.length=X.size:=by simp
    have h3:p.data.toList.length=p.size:=by simp
    omega
   have g3:=hIx S;have HD:=hIx hD;clear S h6 h7 hD J ge hw hF;generalize hT:ze9++(cs.take k).flatMap zav=d at *;have Z:Hid (ze9++(cs.take (k+1)).flatMap zav=d++zav X):=by unfold Hid;rw[hI.out,<-hT,Q4]
   have k8:0<d.length:=by rw[<-hT,Qb];show 0<8+_;omega
   have gk:=he.out;rw[gx.out]at Z gk;clear hT hI gx he;generalize hR:(y.map λp=>bs (zaB (zaI p.data.toList)))=qs at *;have gY:qs.length=y.length:=by rw[<-hR,Qk]
   have gR:Hid (∀j (h:j<y.length) (h2:j<qs.length),bs (zaB (zaI y[j].data.toList))=qs[j]):=λj h h2=>by simp[<-hR]
   clear hR;go_wp2_with fail;refine g3.out.mono ?_;rintro e w3 ⟨rfl,hK⟩;have P:wr w3:=by rw[hK];exact WaL
   have gc:w3.heap[wr.heap.size]? = some (.cells (y.map Value.string).toArray 9 (0,0)):=by rw[hK];exact Qv wr _
   have k3:Hid (zwy d qs y w2 l.heap.size wr.heap.size (.slice Ao d.length co) (jA 0) w3):=⟨0,Qn _,rfl,by simpa using HD.out.below P,λq u=>by have:=(HD.out.own.lt q u).2;omega,gc⟩
   clear hK P gc g3;obtain⟨wo,rfl⟩:∃wo:World,wo=wr:=⟨_,rfl⟩
   go_wp2
   go_loopw [3,22] (λv i wr=>zwy d qs y w2 l.heap.size wo.heap.size v i wr) (λ_ i _=>qs.length-(intOf i).toNat)
   case atStart=>exact k3.out
   case round=>
    obtain⟨j,hj,rfl,F,Y,o⟩:=hrel;obtain⟨Ai,ci,rfl,_⟩:=F.own.form
    have g9:wo.heap.size<wr.heap.size:=by
     rw[QI]at o;exact o.1
    have gQ:(d++qs.take j).length<=4194304:=by rw[Qb];have:=ZN j qs;omega
    have k6:0<(d++qs.take j).length:=by rw[Qb];omega
    by_cases hy:j<qs.length
    ·have dj:decide ((j:Int)<(y.length:Int))=true:=by simp;omega
     have i9:IntKind.i64.wrap ((j:Int)+1)=(j:Int)+1:=Qz _ (by omega);have hP:j<y.length:=by omega
     have y0:wr.cell? ⟨wo.heap.size,j,none⟩=some (.string y[j]):=by
      rw[Qo wr _ j _ _ _ o];simp[hP]
     have kg:=gH.out y[j] (QC hP);have u:=gR.out j hP hy;have gC:Hid (d++qs.take (j+1)=d++qs.take j++[bs (zaB (zaI y[j].data.toList))]):=by unfold Hid;rw[u,Qu hy,Q4]
     generalize y[j]=p at *;have gN:p.data.toList.length=p.size:=by simp
     have gZ:=zfC p.data.toList;have gV:Hid (∀W,Calls prog 78 #[.string p] W λe w'=>e=jC (.string (bs (zaI p.data.toList)))/\w'=W):=λW=>zdG p W (by unfold maxLen;omega)
     have hG:Hid (∀W,Calls prog 116 #[.string (bs (zaI p.data.toList))] W (zbJ (bs (zaB (zaI p.data.toList))) W)):=λW=>by
      have:=zbg (bs (zaI p.data.toList)) W (by rw[zah];unfold maxLen;omega);rw[zam]at this;exact this
     generalize bs (zaB (zaI p.data.toList))=Q at *;generalize bs (zaI p.data.toList)=TQ at *;generalize d++qs.take j=g2 at *;have hZ:=hIx F;have gm:=hIx o;have ho:=hIx Y;clear F o Y u gN gZ;go_wp2_with fail;refine(gV.out wr).mono ?_;rintro e w4 ⟨rfl,g1⟩;rw[g1];clear g1;go_wp2_with fail;refine(hG.out wr).mono ?_;rintro e w5 ⟨rfl,hU⟩;have hY:=hZ.out.below hU;have gB:=hY.own;have h4:l.heap.size<=w5.heap.size:=Ql (QZ hN) hY.grown.size;have gS:=(hU.block _ g9).trans gm.out;have k5:wo.heap.size<w5.heap.size:=Qw g9 hU.size;go_wp2_with (at_builtin;refine zg4 rfl (.tmp 26) (.tmp 30) rfl l.heap.size (.slice Ai g2.length ci) g2 rfl (by exact gB) (by exact k6) (by exact h4) Q w5.heap.size rfl 1 rfl (by exact gQ) ?_;intro v6 w6 U gr g0);exact⟨⟨j+1,by omega,rfl,by rw[gC.out];exact hY.push U gr g0,λq u=>(g0 q u).elim (ho.out q) (λh=>by omega),(gr.block _ k5 (λe=>ho.out _ e.symm rfl)).trans gS⟩,by dsimp only[intOf];omega⟩
    ·obtain rfl:j=qs.length:=by omega
     have dj:decide ((qs.length:Int)<(y.length:Int))=false:=by rw[gY];simp
     rw[Q0]at F;have hZ:=hIx F;rw[Q0];clear F o Y;go_wp2;exact⟨⟨k+1,by omega,rfl,by rw[Z.out];exact hZ.out⟩,by dsimp only[intOf];omega⟩
  ·obtain rfl:k=cs.length:=by omega
   have gD:decide ((cs.length:Int)<(cs.length:Int))=false:=by simp
   rw[Q0]at hD ⊢;rw[<-g8.out]at hD ⊢;have ka:(zbL a).length<=4194304:=gl.out.drop;obtain⟨_,hd⟩:=hD.own.sl2;have gP:Hid (∀W,wr W->Sl W W.heap.size 1 Ao (zbL a).length ((zbL a).map Value.string)):=λW h=>(hd.below h).more h.size
   have ⟨hh,_,_,_,_⟩:=h8.out wr J;have b0:=hh.cells;have hA:l.heap.size<=wr.heap.size:=J.size;have kb:w.heap.size<wr.heap.size:=Qw gG hA;have k9:w.heap.size+1<wr.heap.size:=Qw k0 hA;have gf:=hIx J;have gJ:=λk h=>hIx (zp2 a k h)
   have g6:Hid (∀f∈a,∀W,Calls prog 116 #[.string f.1] W (zbJ (lowN f) W)):=λf hf W=>zbg f.1 W (by have:=(gl.out.sz f hf).1;unfold maxLen;omega)
   generalize ke:zbL a=D at *;clear hD hd hh J gj gq ht gi g8 gA hF gF hN;obtain⟨s,rfl⟩:∃s:World,s=wr:=⟨_,rfl⟩
   go_wp2
   go_loopw [42] (λi wr=>zzh a m t s.heap.size s i wr) (λi _=>a.length-(intOf i).toNat)
   case atStart=>exact⟨0,jD 0 0,Qn _,rfl,Qv _ _,OwnV.nil _ _,WaL⟩
   case round=>
    obtain⟨k,v,hk,rfl,hH,hO,hb⟩:=hrel;have hS:=gf.out.trans (hb.mono hA);have ⟨_,C,hL,hC,_⟩:=h8.out wr hS;have hJ:=gP.out wr hb
    have hu:s.heap.size<wr.heap.size:=by
     have:=hH;unfold HdAt at this;rw[QI]at this;exact this.1
    have gh:=zu4 a k
    by_cases B:k<a.length
    ·have k1:decide ((k:Int)<(a.length:Int))=true:=by simp;omega
     have i7:IntKind.i64.wrap ((k:Int)+1)=(k:Int)+1:=Qz _ (by omega);obtain⟨b',k7,rfl,_,x0,x1⟩:=zoz hC k B;have HT:=gJ k B;have hG:=hIx (g6.out a[k] (QC B));have z:wr (wr.alloc (.cells #[.string a[k].1,.string a[k].2] 162)):=WaL;have gp:=hO.below z;have g7:=(z.block _ hu).trans hH;have P:=hb.trans (z.mono hb.size);have hs:=(hJ.below z).more z.size;have gT:Hid (∀W,Below (wr.alloc (.cells #[.string a[k].1,.string a[k].2] 162)).heap.size (wr.alloc (.cells #[.string a[k].1,.string a[k].2] 162)) W->W.cell? ⟨wr.heap.size,0,none⟩=some (.string a[k].1)/\W.cell? ⟨wr.heap.size,1,none⟩=some (.string a[k].2)):=λW h=>⟨zar h 0,zar h 1⟩
     generalize a[k]=X at *;generalize hQ:lowN X=Q at *;obtain⟨n1,n2⟩:=X;dsimp only at *;have gv:s.heap.size<(wr.alloc (.cells #[.string n1,.string n2] 162)).heap.size:=Qw hu z.size;have k2:=hIx gp;have gK:=hIx g7;have gn:=hIx P;have gu:=hIx hs;clear gp g7 P hs z hO hH hb hS C hL hC hJ b0;go_wp2_with fail;refine(hG.out _).mono ?_;rintro e w4 ⟨rfl,r⟩;have T:HdAt s.heap.size m t v w4:=(r.block _ gv).trans gK.out;have G:=k2.out.below r;have h5:=gn.out.trans (r.mono gn.out.size);have t0:=gT.out w4 r;have I:=zkr co Q ((gu.out.below r).more r.size) (by omega);have ga:s.heap.size<w4.heap.size:=Qw gv r.size;cases u:Lib.containsS D Q with
     |true=>
      have hB:Hid ((a.take (k+1)).filter (zgu a)=(a.take k).filter (zgu a)):=by unfold Hid;rw[HT.out,Qj u,QO]
      rw[u]at I;have hX:=hIx I;have HN:=hIx (And.intro T (And.intro G h5));clear u I T G h5 r t0;go_wp2_with (go_at_call 94;(with_reducible refine hX.out.mono ?_);rintro e w5 ⟨rfl,rfl⟩);exact⟨⟨k+1,v,by omega,rfl,HN.out.1,by rw[hB.out];exact HN.out.2.1,HN.out.2.2⟩,by dsimp only[intOf];omega⟩
     |false=>
      have hB:Hid ((a.take (k+1)).filter (zgu a)=(a.take k).filter (zgu a)++[(n1,n2)]):=by unfold Hid;rw[HT.out,Qf (by rw[u];decide)]
      rw[u]at I;have hX:=hIx I;obtain⟨Af,cf,rfl,_⟩:=G.form;have h0:=T.cells;have k4:Hid ((Value.slice Af ((a.take k).filter (zgu a)).length cf).ownBlock≠some s.heap.size):=λe=>by have:=(QE G _ e).1;omega
      generalize (a.take k).filter (zgu a)=d at *;have gO:=hIx G;have gI:=hIx T;have gW:=hIx h5;have h4:s.heap.size+1<=w4.heap.size:=ga;clear u I T G h5 r
      go_wp2_with (first
       |(go_at_call 94;(with_reducible refine hX.out.mono ?_);rintro e w5 ⟨rfl,rfl⟩)
       |(at_builtin;refine ziS rfl (.tmp 53) (.tmp 55) rfl (s.heap.size+1) (.slice Af d.length cf) d rfl (by exact gO.out) (by exact h4) _ (n1,n2) rfl w5.heap.size rfl 1 rfl (by omega) ?_;intro v6 w6 U gU gL kd;have hW:HdAt s.heap.size m t (.slice Af d.length cf) w6:=(gL s.heap.size h4 k4.out).trans gI.out;obtain⟨A6,c6,rfl,_⟩:=U.form;have kh:=hW.free 2;have kf:=hW.cells.2.2))
      have gw:=hW.put (.slice A6 (d++[(n1,n2)]).length c6);have gy:=(gW.out.trans (gU.mono (Zd _))).setCell (p:=⟨s.heap.size,2,none⟩) (Qd _) (.slice A6 (d++[(n1,n2)]).length c6)
      have L:OwnV (w6.setCell ⟨s.heap.size,2,none⟩ (.slice A6 (d++[(n1,n2)]).length c6)) (s.heap.size+1) (.slice A6 (d++[(n1,n2)]).length c6) (d++[(n1,n2)]):=by
       refine U.keep λg hg=>?_
       have K:g≠s.heap.size:=λe=>by have:=(QE U g hg).1;omega
       rw[Qm _ _ _ _ K]
      have hV:(d++[(n1,n2)]).length=d.length+1:=by rw[Qb];rfl
      rw[hV]at gw gy L;exact⟨⟨k+1,_,by omega,rfl,gw,by rw[hB.out];exact L,gy⟩,by dsimp only[intOf];omega⟩
    ·obtain rfl:k=a.length:=by omega
     have k1:decide ((a.length:Int)<(a.length:Int))=false:=by simp
     rw[Q0]at hO gh;have e1:a.filter (zgu a)=zbi a:=rfl;rw[e1]at hO gh;obtain⟨Af,cf,rfl,_⟩:=hO.form;have h0:=hH.cells;have ⟨r0,r1,r2⟩:=C.cells;have f0:=C.free
     have L:OwnV (((wr.setCell (w.heap.size+1:) (.string m)).setCell ⟨w.heap.size+1,1,none⟩ (.string t)).setCell ⟨w.heap.size+1,2,none⟩ (.slice Af (zbi a).length cf)) w.heap.size (.slice Af (zbi a).length cf) (zbi a):=by
      refine(hO.keep λg hg=>?_).low (by omega);have K:g≠w.heap.size+1:=λe=>by have:=(QE hO g hg).1;omega
      rw[Qm _ _ _ _ K,Qm _ _ _ _ K,Qm _ _ _ _ K]
     have HP:Hid (zhL ⟨m,t,a⟩ w (jC (.agg #[.string m,.string t,.slice Af (zbi a).length cf])) (((wr.setCell (w.heap.size+1:) (.string m)).setCell ⟨w.heap.size+1,1,none⟩ (.string t)).setCell ⟨w.heap.size+1,2,none⟩ (.slice Af (zbi a).length cf))):=
      ⟨Af,cf,rfl,L,((hL.setCell (p:=⟨w.heap.size+1,0,none⟩) (Zd _) _).setCell (p:=⟨w.heap.size+1,1,none⟩) (Zd _) _).setCell (p:=⟨w.heap.size+1,2,none⟩) (Zd _) _⟩
     have tt:=zbx (.string m) (.string t) (.slice Af (zbi a).length cf) r0 r1 r2;have TT:=hIx tt;clear L hO hH hb hS C hL hC hJ b0 tt;generalize zbi a=SF at *;go_wp2;exact QD (by simp[results,results121,go_sem,TT.out.1,TT.out.2.1,TT.out.2.2]) rfl HP.out
def zau:jE->Int × Nat
 | []=>(7,0)
 |a::r=>if a=13 then (match r with | []=>(7,1)|b::_=>if b=10 then (0,2)else (4,1))else (4,0)
def digN:Nat->jE->Nat
 |0,_=>0
 |_+1,[]=>0
 |f+1,b::r=>if 0<=zaA b then digN f r+1 else 0
def hexV(l:jE):Int:=(numL 16 7 l).getD 0
structure zvF where
 n:Int
 e:Int
 c:Nat
 d:jE
def zaE(l:jE):zvF:=
 if digN 7 l=0 then ⟨0,if l.length=0 then 7 else 4,0,[]⟩
 else ⟨hexV (l.take (digN 7 l)),(zau (l.drop (digN 7 l))).1,digN 7 l+(zau (l.drop (digN 7 l))).2,[]⟩
def zan(l:jE)(room:Int):zvF:=
 if (zaE l).e≠0 then ⟨0,(zaE l).e,(zaE l).c,[]⟩
 else if room<(zaE l).n then ⟨0,6,(zaE l).c,[]⟩
 else if (l.length:Int)-(zaE l).c<(zaE l).n then ⟨0,7,(zaE l).c,[]⟩
 else ⟨(zaE l).n,(zau (l.drop ((zaE l).c+(zaE l).n.toNat))).1,(zaE l).c+(zaE l).n.toNat+(zau (l.drop ((zaE l).c+(zaE l).n.toNat))).2,(l.drop (zaE l).c).take (zaE l).n.toNat⟩
abbrev Told:=Sum Int (jE × Nat)
def preT(d:jE)(c:Nat):Told->Told
 |.inl e=>.inl e
 |.inr (t,k)=>.inr (d++t,c+k)
def za8:Nat->jE->Int->Told
 |0,_,_=>.inl 7
 |f+1,l,room=>if (zan l room).e≠0 then .inl (zan l room).e else if (zan l room).n=0 then .inr ([],(zan l room).c)
  else preT (zan l room).d (zan l room).c (za8 f (l.drop (zan l room).c) (room-(zan l room).n))
theorem zrx{l:jE}(h:(zau l).1=0):∃r,l=13::10::r:=by
 unfold zau at h
 split at h
 ·exact absurd h (by decide)
 ·split at h
  ·split at h
   ·exact absurd h (by decide)
   ·split at h
    ·rename_i h1 _ _ _ h2;exact⟨_,by rw[h1,h2]⟩
    ·exact absurd h (by decide)
  ·exact absurd h (by decide)
theorem zlG(r:jE):zau (13::10::r)=(0,2):=rfl
def zdV(l:jE):Prop:=∀b∈l,0<=zaA b
theorem ztn:∀(f:Nat) (l:jE),digN f l<=f/\digN f l<=l.length/\zdV (l.take (digN f l))
 |0,l=>⟨Qd _,Qn _,λb h=>by simp[digN]at h⟩
 |f+1,[]=>⟨Qn _,Qd _,λb h=>by simp at h⟩
 |f+1,b::r=>by
  obtain⟨h1,h2,c⟩:=ztn f r;unfold digN
  split
  ·refine⟨by omega,by simp only[Qq];omega,λx a=>?_⟩
   rw[Xe,QN]at a
   rcases a with rfl|a
   ·assumption
   ·exact c x a
  ·exact⟨Qn _,Qn _,λx a=>by simp at a⟩
theorem zkS(r:jE)(c:r=[]\/∃q,r=13::q):∀(f:Nat) (a:jE),zdV a->a.length<=f->digN f (a++r)=a.length
 |0,a,_,hl=>by rw[QA (by omega:a.length=0)];rfl
 |f+1,[],_,_=>by
  rcases c with rfl|⟨q,rfl⟩
  ·rfl
  ·show digN (f+1) (13::q)=0
   unfold digN;rw[Qf (by decide)]
 |f+1,b::a,h,hl=>by
  rw[List.cons_append];unfold digN;rw[Qj (h b (Zk ..)),zkS r c f a (λx d=>h x (Zl _ d)) (by simp only[Qq]at hl;omega)]
  rfl
structure zzg(l ds r:jE):Prop where
 e:l=ds++13::10::r
 dig:zdV ds
 lo:1<=ds.length
 hi:ds.length<=7
theorem zfA(a r:jE)(b:zdV a)(h1:1<=a.length)(c:a.length<=7):zaE (a++13::10::r)=⟨hexV a,0,a.length+2,[]⟩:=by
 unfold zaE;rw[zkS _ (.inr ⟨_,rfl⟩) 7 a b c,Qf (by omega),List.take_left,Xa,zlG]
theorem zsQ{l:jE}(h:(zaE l).e=0):∃d r,zzg l d r:=by
 unfold zaE at h;obtain⟨g,f,b⟩:=ztn 7 l
 by_cases a:digN 7 l=0
 ·rw[Qj a]at h
  dsimp only at h
  split at h <;> exact absurd h (by decide)
 ·rw[Qf a]at h
  obtain⟨r,c⟩:=zrx h;refine⟨l.take (digN 7 l),r,?_,b,?_,?_⟩
  ·rw[<-c,Zt]
  ·rw[QK];omega
  ·rw[QK];omega
theorem zs9:(zaE []).e=7:=rfl
theorem zon(a p:jE)(c:zdV a)(h1:1<=a.length)(d:a.length<=7)(b:p=[]\/p=[13]):(zaE (a++p)).e=7:=by
 unfold zaE;rw[zkS p (by rcases b with rfl|rfl;exact .inl rfl;exact .inr ⟨[],rfl⟩) 7 a c d,Qf (by omega),Xa]
 rcases b with rfl|rfl <;> rfl
theorem znJ(a r:jE)(d:zdV a)(h1:1<=a.length)(f:a.length<=7)(j:Nat)(h:j<a.length+2):(zaE ((a++13::10::r).take j)).e=7:=by
 by_cases g:j=0
 ·subst g;exact zs9
 by_cases c:j<=a.length
 ·rw[List.take_append_of_le_length c]
  have:=zon (a.take j) [] (λb hb=>d b (Z7 hb)) (by rw[QK];omega) (by rw[QK];omega) (.inl rfl)
  rwa[QO]at this
 ·rw[List.take_append,QR (by omega),show j-a.length=1 by omega]
  exact zon a [13] d h1 f (.inr rfl)
theorem zwg(b:UInt8):-1<=zaA b/\zaA b<=15:=
 Zp (zeg (p:=λb=>decide (-1<=zaA b/\zaA b<=15)) (by decide+kernel) b)
theorem zin:∀(l:jE) (v w:Int),0<=v->zcb 16 l v=some w->0<=w/\w<(v+1)*16 ^ l.length
 | [],v,w,c,h=>by
  unfold zcb at h;have e:v=w:=QG h;subst e;rw[QP,Int.pow_zero];omega
 |b::l,v,w,c,h=>by
  unfold zcb at h
  split at h
  ·cases h
  ·have:=zin l _ w (by omega) h
   refine⟨this.1,?_⟩;rw[Qq,Int.pow_succ'];have a:(0:Int)<16 ^ l.length:=Int.pow_pos (by decide);have h2:(v*16+zaA b+1)*16 ^ l.length<=((v+1)*16)*16 ^ l.length:=Int.mul_le_mul_of_nonneg_right (by omega) (Int.le_of_lt a);rw[<-Int.mul_assoc];omega
theorem zjy:∀(l:jE) (v:Int),zdV l->∃w,zcb 16 l v=some w
 | [],v,_=>⟨v,rfl⟩
 |b::l,v,h=>by
  unfold zcb;have h1:=zwg b;have h2:=h b (Zk ..);rw[Qf (by omega)];exact zjy l _ (λx a=>h x (Zl _ a))
theorem zfZ(l:jE):0<=hexV l/\hexV l<268435456:=by
 unfold hexV numL
 split
 ·exact⟨by decide,by decide⟩
 ·rename_i h
  cases b:zcb 16 l 0 with
  |none=>exact⟨by decide,by decide⟩
  |some w=>
   obtain⟨h1,h2⟩:=zin l 0 w (ZB _) b;refine⟨h1,?_⟩;have c:(16:Nat) ^ l.length<=16 ^ 7:=ZS (by decide) (by omega);have a:(16:Int) ^ l.length=((16 ^ l.length:Nat):Int):=by simp
   rw[a]at h2;show w<_
   omega
theorem ztT(l:jE)(h:zdV l)(h1:1<=l.length)(b:l.length<=7):numL 16 7 l=some (hexV l):=by
 unfold hexV numL;rw[Qf (by omega)];obtain⟨w,a⟩:=zjy l 0 h;rw[a];rfl
structure zw4(l ds d r:jE)(room:Int):Prop where
 e:l=ds++13::10::(d++13::10::r)
 dig:zdV ds
 lo:1<=ds.length
 hi:ds.length<=7
 n:(d.length:Int)=hexV ds
 room:hexV ds<=room
theorem zdv(a d r:jE)(room:Int)(e:zdV a)(h1:1<=a.length)(g:a.length<=7)(j:(d.length:Int)=hexV a)(i:hexV a<=room):
 zan (a++13::10::(d++13::10::r)) room=⟨hexV a,0,a.length+2+d.length+2,d⟩:=by
 have h:=zfA a (d++13::10::r) e h1 g;unfold zan;rw[h];dsimp only;have b:(hexV a).toNat=d.length:=by omega
 have c:(a++13::10::(d++13::10::r)).drop (a.length+2)=d++13::10::r:=by
  rw[<-Zw,Xa];rfl
 have f:(a++13::10::(d++13::10::r)).drop (a.length+2+d.length)=13::10::r:=by
  rw[<-Zw,c,Xa]
 rw[Qf (by simp),Qf (by omega),Qf (by simp;omega),b,c,f,zlG,List.take_left]
theorem zeM{l:jE}{room:Int}(h:(zan l room).e=0):∃a d r,zw4 l a d r room:=by
 unfold zan at h
 by_cases h1:(zaE l).e≠0
 ·rw[Qj h1]at h;exact absurd h h1
 obtain⟨a,q,b⟩:=zsQ (ZZ.1 h1);rw[Qf h1,b.e,zfA a q b.dig b.lo b.hi]at h;dsimp only at h
 by_cases h2:room<hexV a
 ·rw[Qj h2]at h;simp at h
 rw[Qf h2]at h
 by_cases c:((a++13::10::q).length:Int)-((a.length+2:Nat):Int)<hexV a
 ·rw[Qj c]at h;simp at h
 rw[Qf c]at h;have i:=(zfZ a).1
 have g:(hexV a).toNat<=q.length:=by
  rw[Qb,Qq,Qq]at c;omega
 have f:(a++13::10::q).drop (a.length+2)=q:=by
  rw[<-Zw,Xa];rfl
 rw[<-Zw,f]at h;obtain⟨r,hl⟩:=zrx h;exact⟨a,q.take (hexV a).toNat,r,by rw[<-hl,Zt];exact b.e,b.dig,b.lo,b.hi,by rw[QK];omega,by omega⟩
theorem zl0(a d r:jE)(room:Int)(c:zdV a)(h1:1<=a.length)(f:a.length<=7)(m:(d.length:Int)=hexV a)(l:hexV a<=room)
 (j:Nat) (n:j<a.length+2+d.length+2):(zan ((a++13::10::(d++13::10::r)).take j) room).e=7:=by
 by_cases g:j<a.length+2
 ·have:=znJ a (d++13::10::r) c h1 f j g
  unfold zan;rw[Qj (by rw[this];decide)];exact this
 ·have i:(a++13::10::(d++13::10::r)).take j=a++13::10::((d++13::10::r).take (j-a.length-2)):=by
   rw[List.take_append,QR (by omega)]
   congr 1
   rw[show j-a.length=j-a.length-2+1+1 by omega,Xe,Xe]
   rfl
  rw[i];have k:=zfA a ((d++13::10::r).take (j-a.length-2)) c h1 f;unfold zan;rw[k];dsimp only;rw[Qf (by simp),Qf (by omega)]
  by_cases h2:j-a.length-2<d.length
  ·rw[Qj]
   rw[Qb,Qq,Qq,QK];omega
  ·rw[Qf (by
    rw[Qb,Qq,Qq,QK,Qb,Qq,Qq];omega)]
   dsimp only;have b:(hexV a).toNat=d.length:=by omega
   have h:(a++13::10::(d++13::10::r).take (j-a.length-2)).drop (a.length+2+d.length)=(13::10::r).take (j-a.length-2-d.length):=by
    rw[<-Zw,<-Zw,Xa];show ((d++13::10::r).take _).drop d.length=_
    rw[List.drop_take,Xa]
   rw[b,h];have h3:j-a.length-2-d.length=0\/j-a.length-2-d.length=1:=by omega
   rcases h3 with h3|h3 <;> rw[h3] <;> rfl
def zaV(a d:jE):jE:=a++13::10::(d++[13,10])
theorem zeF(a d:jE):(zaV a d).length=a.length+2+d.length+2:=by
 unfold zaV;rw[Qb,Qq,Qq,Qb,Qq,Qq,QP];omega
theorem zdj(a d r:jE):a++13::10::(d++13::10::r)=zaV a d++r:=by unfold zaV;simp
theorem zey(room:Int):(zan [] room).e=7:=rfl
theorem zdA{f:Nat}{l:jE}{room:Int}(h:(zan l room).e≠0):za8 (f+1) l room=.inl (zan l room).e:=by
 rw[za8,Qj h]
theorem zb0(f:Nat)(a d x:jE)(room:Int)(b:zdV a)(h1:1<=a.length)(g:a.length<=7)(h:(d.length:Int)=hexV a)(c:hexV a<=room):
 za8 (f+1) (zaV a d++x) room=if hexV a=0 then .inr ([],(zaV a d).length)else preT d (zaV a d).length (za8 f x (room-hexV a)):=by
 have e:=zdv a d x room b h1 g h c;rw[zdj,<-zeF]at e;rw[za8,e];dsimp only;rw[Qf (by simp),Xa]
theorem zf0:∀(f:Nat) (l:jE) (room:Int) (t:jE) (k:Nat),za8 f l room=.inr (t,k)->
 k<=l.length/\1<=k/\(t.length:Int)<=room/\(∀(x:jE) (b:Nat) (a:Int),k<=b->(t.length:Int)<=a->za8 b (l.take k++x) a=.inr (t,k))/\
 (∀(j b:Nat) (a:Int),j<k->j<=b->(t.length:Int)<=a->za8 b (l.take j) a=.inl 7):=by
 intro f
 induction f with
 |zero=>intro l room t k h;unfold za8 at h;cases h
 |succ f ih=>
  intro l room t k h
  by_cases D:(zan l room).e≠0
  ·rw[zdA D]at h;cases h
  obtain⟨c,d,r,o⟩:=zeM (ZZ.1 D);have G:=(zfZ c).1;have E:=zeF c d;have J:=o.lo;have y:=o.room;have I:=o.n;have C:l=zaV c d++r:=by rw[o.e,zdj]
  have u:∀(j b:Nat) (a:Int) (x:jE),j<(zaV c d).length->j<=b->hexV c<=a->za8 b ((zaV c d++x).take j) a=.inl 7:=by
   intro j b a x B q m;have e:=zl0 c d x a o.dig o.lo o.hi o.n m j (by omega);rw[zdj]at e;cases b with
   |zero=>rfl
   |succ g=>rw[zdA (by rw[e];decide),e]
  rw[C,zb0 f c d r room o.dig o.lo o.hi o.n o.room]at h;rw[C]
  by_cases s:hexV c=0
  ·rw[Qj s]at h
   cases h;refine⟨by rw[Qb];omega,by omega,by rw[QP];omega,?_,?_⟩
   ·intro x b a q m
    rw[QP]at m;rw[List.take_left,show b=b-1+1 by omega,zb0 (b-1) c d x a o.dig o.lo o.hi o.n (by omega),Qj s]
   ·intro j b a B q m
    rw[QP]at m;exact u j b a r B q (by omega)
  ·rw[Qf s]at h
   cases i:za8 f r (room-hexV c)with
   |inl e=>rw[i]at h;cases h
   |inr p=>
    obtain⟨w,z⟩:=p;rw[i]at h;cases h;obtain⟨N,K,L,H,F⟩:=ih r _ w z i;have v:(d++w).length=d.length+w.length:=Qb;rw[Qb,v];refine⟨by omega,by omega,by omega,?_,?_⟩
    ·intro x b a q m
     rw[List.take_append,QR (by omega),show (zaV c d).length+z-(zaV c d).length=z by omega,Q4,show b=b-1+1 by omega,
      zb0 (b-1) c d _ a o.dig o.lo o.hi o.n (by omega),Qf s,H x (b-1) _ (by omega) (by omega)]
     rfl
    ·intro j b a B q m
     by_cases A:j<(zaV c d).length
     ·exact u j b a r A q (by omega)
     ·rw[List.take_append,QR (by omega),show b=b-1+1 by omega,
       zb0 (b-1) c d _ a o.dig o.lo o.hi o.n (by omega),Qf s,F _ (b-1) _ (by omega) (by omega) (by omega)]
      rfl
theorem zn3:∀(f g:Nat) (l:jE) (room:Int),l.length<=f->l.length<=g->za8 f l room=za8 g l room:=by
 intro f
 induction f with
 |zero=>
  intro g l room c i;cases g with
  |zero=>rfl
  |succ g=>rw[QA (by omega:l.length=0),zdA (by rw[zey];decide)];rfl
 |succ f ih=>
  intro g l room c i;cases g with
  |zero=>rw[QA (by omega:l.length=0),zdA (by rw[zey];decide)];rfl
  |succ g=>
   by_cases b:(zan l room).e≠0
   ·rw[zdA b,zdA b]
   obtain⟨a,d,r,o⟩:=zeM (ZZ.1 b);have j:=zeF a d;have h:l=zaV a d++r:=by rw[o.e,zdj]
   rw[h,zb0 f a d r room o.dig o.lo o.hi o.n o.room,zb0 g a d r room o.dig o.lo o.hi o.n o.room];rw[h,Qb]at c i;rw[ih g r _ (by omega) (by omega)]
def zbj(l:jE)(room:Int):Told:=za8 l.length l room
theorem ziH(l:jE)(room:Int)(h:(zan l room).e≠0):zbj l room=.inl (zan l room).e:=by
 unfold zbj;cases hl:l.length with
 |zero=>rw[QA hl];rfl
 |succ n=>exact zdA h
theorem znT(l:jE)(room:Int)(h:(zan l room).e=0)(a:(zan l room).n=0):zbj l room=.inr ([],(zan l room).c):=by
 unfold zbj;cases hl:l.length with
 |zero=>rw[QA hl,zey]at h;exact absurd h (by decide)
 |succ n=>rw[za8,Qf (by rw[h];decide),Qj a]
theorem zgM(l:jE)(room:Int)(h:(zan l room).e=0)(b:(zan l room).n≠0):
 zbj l room=preT (zan l room).d (zan l room).c (zbj (l.drop (zan l room).c) (room-(zan l room).n)):=by
 unfold zbj;cases hl:l.length with
 |zero=>rw[QA hl,zey]at h;exact absurd h (by decide)
 |succ n=>
  obtain⟨a,d,r,o⟩:=zeM h;have e:=zdv a d r room o.dig o.lo o.hi o.n o.room;rw[<-o.e]at e;have f:1<=(zan l room).c:=by rw[e];show 1<=a.length+2+d.length+2;omega
  rw[za8,Qf (by rw[h];decide),Qf b];rw[zn3 n ((l.drop (zan l room).c).length) _ _ (by rw[QJ];omega) (Qd _)]
theorem zts(a b:jE)(c k:Nat)(x:Told):preT a c (preT b k x)=preT (a++b) (c+k) x:=by
 cases x with
 |inl e=>rfl
 |inr p=>obtain⟨t,n⟩:=p;simp[preT,Zf]
theorem zkV{l:jE}{room:Int}(h:(zan l room).e=0):(zan l room).c<=l.length/\1<=(zan l room).c/\((zan l room).d.length:Int)=(zan l room).n/\(zan l room).n<=room:=by
 obtain⟨a,d,r,o⟩:=zeM h;have e:=zdv a d r room o.dig o.lo o.hi o.n o.room;rw[<-o.e]at e;rw[e];refine⟨?_,by show 1<=a.length+2+d.length+2;omega,o.n,o.room⟩;rw[o.e,zdj,Qb,zeF];show a.length+2+d.length+2<=_
 omega
theorem zkR(l:jE)(room:Int)(t:jE)(k:Nat)(h:zbj l room=.inr (t,k)):k<=l.length/\1<=k/\(t.length:Int)<=room:=
 ⟨(zf0 _ l room t k h).1,(zf0 _ l room t k h).2.1,(zf0 _ l room t k h).2.2.1⟩
theorem zmf:∀(f:Nat) {l:jE} {room:Int} {e:Int},za8 f l room=.inl e->e≠0
 |0,l,room,e,h=>by unfold za8 at h;cases h;decide
 |f+1,l,room,e,h=>by
  unfold za8 at h
  split at h
  ·rename_i h1;cases h;exact h1
  ·split at h
   ·cases h
   ·cases a:za8 f (l.drop (zan l room).c) (room-(zan l room).n)with
    |inl b=>rw[a]at h;cases h;exact zmf f a
    |inr p=>rw[a]at h;cases h
theorem zhp:∀(l:jE) (v w:Int),0<=v->zcb 10 l v=some w->0<=w/\w<(v+1)*10 ^ l.length
 | [],v,w,c,h=>by
  unfold zcb at h;have e:v=w:=QG h;subst e;rw[QP,Int.pow_zero];omega
 |b::l,v,w,c,h=>by
  unfold zcb at h
  split at h
  ·cases h
  ·rename_i d
   have:=zhp l _ w (by omega) h;refine⟨this.1,?_⟩;rw[Qq,Int.pow_succ'];have a:(0:Int)<10 ^ l.length:=Int.pow_pos (by decide);have h2:(v*10+zaA b+1)*10 ^ l.length<=((v+1)*10)*10 ^ l.length:=Int.mul_le_mul_of_nonneg_right (by omega) (Int.le_of_lt a);rw[<-Int.mul_assoc];omega
theorem zpQ{l:jE}{n:Int}(h:numL 10 9 l=some n):0<=n/\n<1000000000:=by
 unfold numL at h
 split at h
 ·cases h
 ·rename_i hl
  obtain⟨h1,h2⟩:=zhp l 0 n (ZB _) h;refine⟨h1,?_⟩;have b:(10:Nat) ^ l.length<=10 ^ 9:=ZS (by decide) (by omega);have a:(10:Int) ^ l.length=((10 ^ l.length:Nat):Int):=by simp
  rw[a]at h2;omega
def zcx(r:Int × Int × Int)(l:jE)(most:Int):Told:=
 if r.2.2≠0 then .inl r.2.2 else if r.1=1 then .inr ([],0)else if r.1=3 then zbj l (max most 0)
 else if most<r.2.1 then .inl 6 else if (l.length:Int)<r.2.1 then .inl 7 else .inr (l.take r.2.1.toNat,r.2.1.toNat)
def zaK(h:zbR):Int × Int × Int:=ofL (getL h.fs clen) (getL h.fs tenc)
structure ReqV where
 h:zbR
 b:jE
def zfc(l:jE)(H:Int):jE:=l.take (min (l.length:Int) H).toNat
def oneR(l:jE)(H B:Int):Except Int (ReqV × Nat):=
 if Lib.index (zfc l H) endL<0 then (if H<=(l.length:Int)then .error 5 else .error 7)
 else match zbz (l.take ((Lib.index (zfc l H) endL).toNat+4))with
  |.error e=>.error e
  |.ok h=>match zcx (zaK h) (l.drop ((Lib.index (zfc l H) endL).toNat+4)) B with
   |.inl e=>.error e
   |.inr (t,k)=>.ok (⟨h,t⟩,(Lib.index (zfc l H) endL).toNat+4+k)
def zbG(H B A:Int):Bool:=decide (30<=H)&&decide (H<=4096)&&(decide (0<=B)&&decide (B<=4096))&&(decide (1<=A)&&decide (A<=40))
theorem zlK(S C:List ByteArray):(ofL S C).2.2=4\/((ofL S C).2.2=0/\((ofL S C).1=1\/(ofL S C).1=3\/((ofL S C).1=2/\0<=(ofL S C).2.1/\(ofL S C).2.1<1000000000))):=by
 match S,C with
 | [],[]=>exact .inr ⟨rfl,.inl rfl⟩
 | [],[c]=>
  rw[zsG]
  split
  ·exact .inr ⟨rfl,.inr (.inl rfl)⟩
  ·exact .inl rfl
 | [],_::_::_=>exact .inl rfl
 |_::_,_::_=>exact .inl rfl
 |s::S,[]=>
  rw[zoM];cases a:numL 10 9 s.data.toList with
  |none=>exact .inl rfl
  |some n=>
   dsimp only
   split
   ·exact .inl rfl
   ·refine .inr ⟨rfl,.inr (.inr ⟨rfl,?_⟩)⟩
    exact zpQ a
theorem zrW{r:Int × Int × Int}{l:jE}{B e:Int}(h:zcx r l B=.inl e):e≠0:=by
 unfold zcx at h
 split at h
 ·cases h;assumption
 ·split at h
  ·cases h
  ·split at h
   ·exact zmf _ h
   ·split at h
    ·cases h;decide
    ·split at h
     ·cases h;decide
     ·cases h
theorem zzs{l:jE}{H B e:Int}(h:oneR l H B=.error e):e≠0:=by
 unfold oneR at h
 split at h
 ·split at h <;> cases h <;> decide
 ·split at h
  ·rename_i b a
   cases h
   rcases zlz a with h|h <;> rw[h] <;> decide
  ·split at h
   ·rename_i b a
    cases h;exact zrW a
   ·cases h
theorem zpd{r:Int × Int × Int}{l:jE}{B:Int}{t:jE}{k:Nat}(a:0<=B)(h:zcx r l B=.inr (t,k)):(t.length:Int)<=B/\k<=l.length:=by
 unfold zcx at h
 by_cases c1:r.2.2≠0
 ·rw[Qj c1]at h;cases h
 ·rw[Qf c1]at h
  by_cases c2:r.1=1
  ·rw[Qj c2]at h;cases h;exact⟨by simpa using a,Qn _⟩
  ·rw[Qf c2]at h
   by_cases c3:r.1=3
   ·rw[Qj c3]at h
    have:=zkR _ _ _ _ h;omega
   ·rw[Qf c3]at h
    by_cases c4:B<r.2.1
    ·rw[Qj c4]at h;cases h
    ·rw[Qf c4]at h
     by_cases c5:(l.length:Int)<r.2.1
     ·rw[Qj c5]at h;cases h
     ·rw[Qf c5]at h
      injection h with h
      injection h with h1 h2
      rw[<-h1,<-h2,QK];omega
theorem zof{l:jE}{n i:Nat}(h:Lib.occAt (l.take n) endL i=true):Lib.occAt l endL i=true/\i+4<=n/\i+4<=l.length:=by
 unfold Lib.occAt at h ⊢;rw[Zg]at h ⊢;have a:=h.length_le;rw[QJ,QK]at a;have b:endL.length=4:=rfl;refine⟨?_,by omega,by omega⟩;rw[List.drop_take]at h;exact h.trans (List.take_prefix _ _)
theorem zjt{l:jE}{n i:Nat}(h:Lib.occAt l endL i=true)(c:i+4<=n):Lib.occAt (l.take n) endL i=true:=by
 unfold Lib.occAt at h ⊢;rw[Zg]at h ⊢;rw[List.drop_take];obtain⟨r,a⟩:=h;rw[<-a];have b:endL.length=4:=rfl;rw[List.take_append];exact⟨r.take (n-i-endL.length),by rw[QR (l:=endL) (by omega)]⟩
def zdM(l:jE)(i:Nat):Prop:=Lib.occAt l endL i=true/\∀j,j<i->Lib.occAt l endL j=false
theorem zrT{l:jE}{i:Nat}(h:Lib.index l endL=(i:Int)):zdM l i:=by
 rcases Lib.index_spec l endL with ⟨h1,_⟩|⟨k,h1,_,b,a⟩
 ·rw[h1]at h;omega
 ·have:k=i:=by omega
  subst this;exact⟨b,a⟩
theorem zny{l:jE}{i:Nat}(h:zdM l i):Lib.index l endL=(i:Int):=by
 rcases Lib.index_spec l endL with ⟨_,h2⟩|⟨k,h1,f,d,c⟩
 ·have e:i<=l.length:=by
   have:=h.1;unfold Lib.occAt at this;rw[Zg]at this;have hl:=this.length_le;rw[QJ]at hl;have:endL.length=4:=rfl;omega
  have:=h.1;rw[h2 i e]at this;cases this
 ·rcases Nat.lt_trichotomy k i with b|he|a
  ·have:=h.2 k b;rw[d]at this;cases this
  ·rw[h1,he]
  ·have:=c i a;rw[h.1]at this;cases this
theorem zpW{l:jE}{n i:Nat}(h:zdM (l.take n) i):zdM l i/\i+4<=n/\i+4<=l.length:=by
 obtain⟨h1,h2,c⟩:=zof h.1;refine⟨⟨h1,λj b=>?_⟩,h2,c⟩;cases a:Lib.occAt l endL j with
 |false=>rfl
 |true=>have:=zjt a (by omega:j+4<=n);rw[h.2 j b]at this;cases this
theorem zuE{l:jE}{n i:Nat}(h:zdM l i)(c:i+4<=n):zdM (l.take n) i:=by
 refine⟨zjt h.1 c,λj b=>?_⟩;cases a:Lib.occAt (l.take n) endL j with
 |false=>rfl
 |true=>have:=(zof a).1;rw[h.2 j b]at this;cases this
structure znw(l:jE)(H:Int)(i:Nat):Prop where
 first:zdM l i
 fits:((i+4:Nat):Int)<=H
 len:i+4<=l.length
theorem ze7{l:jE}{H:Int}{i:Nat}(b:0<=H):Lib.index (zfc l H) endL=(i:Int)↔znw l H i:=by
 unfold zfc
 constructor
 ·intro h
  obtain⟨h1,h2,a⟩:=zpW (zrT h);exact⟨h1,by omega,a⟩
 ·intro h
  have:=h.fits;have:=h.len;exact zny (zuE h.first (by omega))
theorem zwz{l:jE}{H B:Int}{i:Nat}(a:0<=H)(h:znw l H i):oneR l H B=match zbz (l.take (i+4))with
 |.error e=>.error e
 |.ok h=>match zcx (zaK h) (l.drop (i+4)) B with
  |.inl e=>.error e
  |.inr (t,k)=>.ok (⟨h,t⟩,i+4+k):=by
 unfold oneR;rw[(ze7 a).2 h,Qf (by omega),Q9]
theorem zwP{l:jE}{H B:Int}{q:ReqV}{n:Nat}(d:0<=H)(h:oneR l H B=.ok (q,n)):
 ∃i k,znw l H i/\zbz (l.take (i+4))=.ok q.h/\zcx (zaK q.h) (l.drop (i+4)) B=.inr (q.b,k)/\n=i+4+k:=by
 have a:=h;unfold oneR at h
 split at h
 ·split at h <;> cases h
 ·rename_i j
  obtain⟨i,f⟩:∃i:Nat,Lib.index (zfc l H) endL=(i:Int):=⟨(Lib.index (zfc l H) endL).toNat,by omega⟩
  have c:=(ze7 d).1 f;rw[zwz d c]at a
  split at a
  ·cases a
  ·rename_i g e
   split at a
   ·cases a
   ·rename_i t k hb
    cases a;exact⟨i,k,c,e,hb,rfl⟩
theorem zgi{l:jE}{H B:Int}{q:ReqV}{n:Nat}(c:0<=H)(d:0<=B)(h:oneR l H B=.ok (q,n)):(q.b.length:Int)<=B/\1<=n/\n<=l.length:=by
 obtain⟨i,k,a,e,hb,rfl⟩:=zwP c h;have h1:=zpd d hb;rw[QJ]at h1;have:=a.len;exact⟨h1.1,by omega,by omega⟩
theorem OwnV.sl{w:World}{base:Nat}{A:Option Addr}{n c:Nat}{l:List zas}(h:OwnV w base (.slice A n c) l):Sl w w.heap.size 2 A l.length (l.flatMap zaJ):=by
 obtain⟨f,g,e,b⟩:=h.form;injection e with a i d
 subst a;exact b
structure Rd(w:World)(g B:Nat)(s:ByteArray)(a m:Int)(v:Value)(acc:jE):Prop where
 blk:w.heap[g]? = some (.cells #[.string s,jA a,jA m,v] 204 (0,0))
 own:OwnB w B v acc
 hB:B<=g
section
variable {w w':World} {g B:Nat} {s:ByteArray} {a m:Int} {v:Value} {acc:jE}
theorem Rd.lt(h:Rd w g B s a m v acc):g<w.heap.size:=by
 rcases ZJ g w.heap.size with c|b
 ·exact c
 ·have:=h.blk;rw[ZV b]at this;cases this
theorem Rd.c0(h:Rd w g B s a m v acc):w.cell? g=some (.string s):=Qo w g 0 _ _ (0,0) h.blk
theorem Rd.c1(h:Rd w g B s a m v acc):w.cell? ⟨g,1,none⟩=some (jA a):=Qo w g 1 _ _ (0,0) h.blk
theorem Rd.c2(h:Rd w g B s a m v acc):w.cell? ⟨g,2,none⟩=some (jA m):=Qo w g 2 _ _ (0,0) h.blk
theorem Rd.c3(h:Rd w g B s a m v acc):w.cell? ⟨g,3,none⟩=some v:=Qo w g 3 _ _ (0,0) h.blk
theorem Rd.free(h:Rd w g B s a m v acc)(i:Nat):w.frozen? ⟨g,i,none⟩=false:=by simp[World.frozen?, h.blk]
theorem Rd.apart(h:Rd w g B s a m v acc):v.ownBlock≠some g:=by
 intro d;obtain⟨c,f,b⟩:=Xo h.own g d;rw[h.blk]at b;injection b with b
 injection b with _ e
 exact absurd e (by decide)
theorem Rd.eq(h:Rd w g B s a m v acc){b:Int}(e:a=b):Rd w g B s b m v acc:=e ▸ h
theorem Rd.alloc(h:Rd w g B s a m v acc)(o:Obj):Rd (w.alloc o) g B s a m v acc:=⟨(Qs w o g h.lt).trans h.blk,h.own.alloc o,h.hB⟩
theorem Rd.drewN(h:Rd w g B s a m v acc)(n:Nat):Rd (w.drewN n) g B s a m v acc:=⟨h.blk,h.own,h.hB⟩
theorem Rd.at_(h:Rd w g B s a m v acc)(b:Int):Rd (w.setCell ⟨g,1,none⟩ (jA b)) g B s b m v acc:=by
 refine⟨?_,ownsRow_setCell_other h.own h.apart _,h.hB⟩;have:=h.blk;simp[World.setCell,Q5,this]
end
theorem zkm(s:ByteArray)(k:Nat)(h:s.size<=k):s.data.toList.drop k=[]:=QM (by rw[ZC];exact h)
theorem zwi(b:UInt8)(r:jE):zau (13::b::r)=if b=10 then (0,2)else (4,1):=rfl
theorem zpG(a:UInt8)(r:jE)(h:a≠13):zau (a::r)=(4,0):=by unfold zau;exact Qf h
def zew(w:World)(g B:Nat)(s:ByteArray)(k:Nat)(m:Int)(v:Value)(a:jE)(e:Ending)(w':World):Prop:=
 e=jC (jA (zau (s.data.toList.drop k)).1)/\Rd w' g B s ((k+(zau (s.data.toList.drop k)).2:Nat):Int) m v a/\Below B w w'
theorem zhd(w:World)(g B:Nat)(s:ByteArray)(k:Nat)(m:Int)(v:Value)(o:jE)(h:Rd w g B s (k:Int) m v o)(z:s.size<=maxLen)(G:k<=s.size)(D:B<=w.heap.size):
 Calls prog 153 #[.pointer g] w (zew w g B s k m v o):=by
 unfold maxLen at z;have A:=λ(w:World) (C:Array Value) (n c:Nat)=>Lib.run_convert_bytes_const (P:=prog) w 176 5 C n c underlying176 underlying5
 by_cases c0:k<s.size
 rotate_left
 have j:Hid (zau (s.data.toList.drop k)=(7,0)):=by unfold Hid;rw[zkm s k (by omega)];rfl
 have u:((k:Int)==(s.size:Int))=true:=Zn.2 (by omega)
 rotate_left
 have r:=hIx (zaH s k c0);have u:((k:Int)==(s.size:Int))=false:=Qc.2 (by omega);have J:(k:Int)<(s.size:Int):=by omega
 by_cases c1:s[k]=13
 rotate_left
 have x:((s[k].toNat:Int) != 13)=true:=Q6.2 (λe=>c1 (Zr.1 (by show s[k].toNat=13;omega)));have j:Hid (zau (s.data.toList.drop k)=(4,0)):=by unfold Hid;rw[r.out];exact zpG _ _ c1
 clear c1
 rotate_right
 have x:((s[k].toNat:Int) != 13)=false:=by rw[c1];decide
 by_cases c2:k+1<s.size
 rotate_left
 have E:((k:Int)+1==(s.size:Int))=true:=Zn.2 (by omega);have j:Hid (zau (s.data.toList.drop k)=(7,1)):=by unfold Hid;rw[r.out,zkm s (k+1) (by omega),c1];rfl
 clear c1
 rotate_right
 have l:=hIx (zaH s (k+1) c2);have E:((k:Int)+1==(s.size:Int))=false:=Qc.2 (by omega);have F:(k:Int)+1<(s.size:Int):=by omega
 have K:0<=(k:Int)+1:=by omega
 have I:((k:Int)+1).toNat=k+1:=by omega
 by_cases c3:s[k+1]=10
 have y:((s[k+1].toNat:Int) != 10)=false:=by rw[c3];decide
 have j:Hid (zau (s.data.toList.drop k)=(0,2)):=by unfold Hid;rw[r.out,l.out,c1,c3];rfl
 clear c1 c3
 rotate_left
 have y:((s[k+1].toNat:Int) != 10)=true:=Q6.2 (λe=>c3 (Zr.1 (by show s[k+1].toNat=10;omega)));have j:Hid (zau (s.data.toList.drop k)=(4,1)):=by unfold Hid;rw[r.out,l.out,c1];rw[zwi,Qf c3]
 clear c1 c3
 all_goals
  go_in
  go_wp2_with fail;have a:=h.alloc (.cells #[.int .u8 13,.int .u8 10] 5 (2,3));have b:Below B w (w.alloc (.cells #[.int .u8 13,.int .u8 10] 5 (2,3))):=(Qi _ _).alloc D _;have H:(w.alloc (.cells #[.int .u8 13,.int .u8 10] 5 (2,3))).cell? w.heap.size=some (.int .u8 13):=Qo _ _ 0 _ _ (2,3) (Qv w _);have d:(w.alloc (.cells #[.int .u8 13,.int .u8 10] 5 (2,3))).cell? ⟨w.heap.size,1,none⟩=some (.int .u8 10):=Qo _ _ 1 _ _ (2,3) (Qv w _);have t:g≠w.heap.size:=Nat.ne_of_lt h.lt;generalize w.alloc (.cells #[.int .u8 13,.int .u8 10] 5 (2,3))=W at *;have f:=a.c0;have h1:=a.c1;have i:=a.free 1;have q:=h.hB;clear h A;refine wp_loop_rounds 3 ?_;rw[rounds_succ];go_wp2_with (first|rw[rounds_succ]|fail)
  go_quiet (fail)
  have a:=a.drewN nq;have b:=below_drewN b nq;have d:(W.drewN nq).cell? ⟨w.heap.size,1,none⟩=some (.int .u8 10):=d;clear f h1 i;generalize W.drewN nq=W at *;have f:=a.c0;have h1:=a.c1;have i:=a.free 1;go_wp2_with (first|rw[rounds_succ]|fail)
  first
   |(
    go_ret
    unfold zew;rw[j.out];exact⟨rfl,a.eq (by omega),b⟩)
   |(
    go_quiet (fail)
    have a:=a.drewN nq;have b:=below_drewN b nq;have d:(W.drewN nq).cell? ⟨w.heap.size,1,none⟩=some (.int .u8 10):=d;clear f h1 i;generalize W.drewN nq=W at *;have f:=a.c0;have h1:=a.c1;have i:=a.free 1;go_wp2_with (first|rw[rounds_succ]|fail)
    first
     |(
      go_ret
      unfold zew;rw[j.out];exact⟨rfl,a.eq (by omega),b⟩)
     |(
      have a:=a.at_ ((k:Int)+1)
      have b:=b.setCell (p:=⟨g,1,none⟩) q (jA ((k:Int)+1));have d:(W.setCell ⟨g,1,none⟩ (jA ((k:Int)+1))).cell? ⟨w.heap.size,1,none⟩=some (.int .u8 10):=(QQ W ⟨g,1,none⟩ ⟨w.heap.size,1,none⟩ _ (λe=>t (by injection e))).trans d;clear f h1 i;generalize W.setCell ⟨g,1,none⟩ (jA ((k:Int)+1))=W at *;have f:=a.c0;have h1:=a.c1;have i:=a.free 1
      go_quiet (fail)
      have a:=a.drewN nq;have b:=below_drewN b nq;have d:(W.drewN nq).cell? ⟨w.heap.size,1,none⟩=some (.int .u8 10):=d;clear f h1 i;generalize W.drewN nq=W at *;have f:=a.c0;have h1:=a.c1;have i:=a.free 1;go_wp2_with (first|rw[rounds_succ]|fail)
      first
       |(
        go_ret
        unfold zew;rw[j.out];exact⟨rfl,a.eq (by omega),b⟩)
       |(
        go_quiet (fail)
        have a:=a.drewN nq;have b:=below_drewN b nq;have d:(W.drewN nq).cell? ⟨w.heap.size,1,none⟩=some (.int .u8 10):=d;clear f h1 i;generalize W.drewN nq=W at *;have f:=a.c0;have h1:=a.c1;have i:=a.free 1;go_wp2_with (first|rw[rounds_succ]|fail)
        first
         |(
          go_ret
          unfold zew;rw[j.out];exact⟨rfl,a.eq (by omega),b⟩)
         |(
          go_ret
          unfold zew;rw[j.out];exact⟨rfl,(a.at_ _).eq (by omega),b.setCell (p:=⟨g,1,none⟩) q _⟩))))
