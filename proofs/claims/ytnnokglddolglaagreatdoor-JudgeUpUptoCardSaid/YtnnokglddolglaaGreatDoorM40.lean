/- Lemmas for the last texts. -/
import Derived.Test.YtnnokglddolglaaGreatDoorM39
set_option maxHeartbeats 6400000
set_option maxRecDepth 100000
namespace Go.Proofs.YtnnokglddolglaaGreatDoor
open Go.RowKit Go.Proofs.Tryz
section
variable {P:Program} {w:World}
theorem zng(base:Nat)(t G e:TypeId)(i:TypeInfo)(z:Value)(size o:Nat)(H:P.underlying t=some (.slice e))(J:P.info? e=some i)(N:i.zero=some z)
 (q:i.size=size) (C:i.bytes=o)
 (v:Value) (n:Nat) (E:List Value) (d:w.ownsRow base e size v n E) (S:0<n)
 (a:Addr) (m c:Nat) (b:List Value) (hl:b.length=m*size) (l:∀j u,b[j]? = some u->w.cell? (a.add j)=some u) (h1:∀u∈b,u.oneCell'=true)
 (B:n+m<=maxLen) (p:(n+m)*o<=140737488355328) {v':Value} {w':World} (I:(Builtin.append_ #[t,t] G #[v,.slice (some a) m c]).run P w=.ok v' w'):
 ∀k,v'.ownBlock=some k->v.ownBlock=some k\/w.heap.size<=k:=by
 subst q;subst C;have y:n+m<=9223372036854775807:=by simp only[maxLen]at B;omega
 rcases d.2 with ⟨rfl,rfl⟩|⟨g,cap,s,rfl,O,L,Q,K,F,D⟩
 ·omega
 ·by_cases h:n+m<=cap
  ·have x:n*i.size+b.length<=s.size:=by rw[hl,F,<-Nat.add_mul];exact XM _ h
   have f:=run_append_room (P:=P) w t G e i H J g n cap s L a m c b hl l h1 h x;rw[I]at f;injection f with h2 _
   subst h2;exact λk A=>.inl A
  ·have r:∀j u,E[j]? = some u->w.cell? ((⟨g,0,none⟩:Addr).add j)=some u:=d.cells (g:=g) rfl
   have f:=run_append_grow (P:=P) w t G e i z H J N ⟨g,0,none⟩ n cap E d.1 r a m c b hl l (by omega) (by omega) (growslice_fits (by omega) p);rw[I]at f;injection f with h2 _
   subst h2;intro k A;simp only[Value.ownBlock,Option.some.injEq]at A;exact .inr (by omega)
end
section
variable {ops:Array Oper} {rest:List Oper} {o:Oper} {a:Act} {Q:Exit->Act->World->Prop} {w:World}
theorem zhh(m:o.guard=none)(s x:Operand)(E:o.op=.call {callee:=.builtin .append,args:=#[s,x],argTypes:=#[125,125]})
 (base:Nat) (v:Value) (l:List ByteArray) (G:a.eval s=v) (e:OwnS w base v l) (B:0<l.length) (n:base<=w.heap.size)
 (new:ByteArray) (t:Nat) (r:w.heap.size=t) (c:Nat) (H:a.eval x=.slice (some ⟨t,0,none⟩) 1 c)
 (j:l.length<=4194304)
 (h:∀v' w',OwnS w' base v' (l++[new])->w.grownBy w' v.ownBlock->(∀k,v'.ownBlock=some k->v.ownBlock=some k\/w.heap.size<=k)->wpList prog ops Q rest (a.put o.dst v') w'):
 wpList prog ops Q (o::rest) a (w.alloc (.cells #[.string new] 9)):=by
 subst r;obtain⟨y,A,f,g,i⟩:=ZC zo6;refine Xs m λK D=>?_
 have b:=World.ownsRow.alloc e (.cells #[.string new] 9);have d:=zeb w [.string new] 9
 obtain⟨v',w',z,h2,F,_⟩:=run_append_own (P:=prog) (w.alloc (.cells #[.string new] 9)) base 125 o.type 9 y (.string ByteArray.empty) 1 16 underlying125 A f g i rfl (by decide) v l.length (l.map Value.string) b
  ⟨w.heap.size,0,none⟩ 1 c [.string new] rfl d (λu q=>by rw[QE.1 q];rfl) (by unfold maxLen;omega) (by omega) (by simp;omega)
 have p:=zng (P:=prog) (w:=w.alloc (.cells #[.string new] 9)) base 125 o.type 9 y (.string ByteArray.empty) 1 16 underlying125 A f g i v l.length (l.map Value.string) b B
  ⟨w.heap.size,0,none⟩ 1 c [.string new] rfl d (λu q=>by rw[QE.1 q];rfl) (by unfold maxLen;omega) (by omega) z
 unfold Oper.wp execOp;simp only[E,resolve,invoke,builtin,Xz,Sem.run_pure,Xg,List.map_toArray,QX,ZE,G,H,z];refine D _ _ (h v' w' (by unfold OwnS;rw[Qa,QU];exact h2) (zay (World.grownBy_alloc w _ _) F) λk C=>?_)
 rcases p k C with h|h
 ·exact .inl h
 ·exact .inr (by rw[Qr]at h;omega)
end
def zhS:ByteArray:=ByteArray.mk #[99,111,110,110,101,99,116,105,111,110]
def zcT:List ByteArray:=[zhS,ByteArray.mk #[107,101,101,112,45,97,108,105,118,101],ByteArray.mk #[112,114,111,120,121,45,99,111,110,110,101,99,116,105,111,110],ByteArray.mk #[116,101],
 ByteArray.mk #[116,114,97,105,108,101,114],ByteArray.mk #[116,114,97,110,115,102,101,114,45,101,110,99,111,100,105,110,103],ByteArray.mk #[117,112,103,114,97,100,101],ByteArray.mk #[99,111,110,116,101,110,116,45,108,101,110,103,116,104]]
def zaw(v:ByteArray):List ByteArray:=(splL 44 v.data.toList).map λx=>bs (zav (zaF x))
def zbE(a:List zao):List ByteArray:=zcT++(getL a zhS).flatMap zaw
def lowN(f:zao):ByteArray:=bs (zav f.1.data.toList)
def zfM(a:List zao)(f:zao):Bool:=!(Lib.containsS (zbE a) (lowN f))
def za2(a:List zao):List zao:=a.filter (zfM a)
structure zgN(fs:List zao):Prop where
 n:fs.length<=4194304
 sz:∀f∈fs,f.1.size<=4194304/\f.2.size<=4194304
 drop:(zbE fs).length<=4194304
theorem zqQ(a:List zao)(k:Nat)(h:k<a.length):(a.take (k+1)).filter (zfM a)=(a.take k).filter (zfM a)++if Lib.containsS (zbE a) (lowN a[k])=true then []else [a[k]]:=by
 rw[Qq h,ZM];unfold zfM
 by_cases c:Lib.containsS (zbE a) (lowN a[k])=true <;> simp[c]
theorem zvJ(a:List zao)(k:Nat):((a.take k).filter (zfM a)).length<=k:=Qn (Zl _ _) (ZU _ _)
theorem zn7(cs:List ByteArray)(k:Nat)(h:k<cs.length):(cs.take (k+1)).flatMap zaw=(cs.take k).flatMap zaw++zaw cs[k]:=by
 rw[Qq h,Q4];simp
theorem ztC(cs:List ByteArray)(k:Nat):((cs.take k).flatMap zaw).length<=(cs.flatMap zaw).length:=by
 have:cs.flatMap zaw=(cs.take k).flatMap zaw++(cs.drop k).flatMap zaw:=by rw[<-Q4,Zm]
 rw[this,Qa];omega
def zhX(h:zbh)(w:World)(e:Ending)(w':World):Prop:=
 ∃A c,e=.returned (.agg #[.string h.m,.string h.t,.slice A (za2 h.fs).length c])/\OwnV w' w.heap.size (.slice A (za2 h.fs).length c) (za2 h.fs)/\Below w.heap.size w w'
structure DropSt(w2:World)(lit:Nat)(w:World)(v:Value)(acc:List ByteArray):Prop where
 own:OwnS w lit v acc
 far:∀q,v.ownBlock=some q->q=lit\/w2.heap.size<=q
 grown:w2.grownBy w (some lit)
def zqn(cs:List ByteArray)(w2:World)(lit:Nat)(v i:Value)(wr:World):Prop:=
 ∃k:Nat,k<=cs.length/\i=.int .i64 k/\DropSt w2 lit wr v (zcT++(cs.take k).flatMap zaw)
def zxl(a qs:List ByteArray)(c:List ByteArray)(w2:World)(lit b:Nat)(v i:Value)(wr:World):Prop:=
 ∃j:Nat,j<=qs.length/\i=.int .i64 j/\DropSt w2 lit wr v (a++qs.take j)/\(∀q,v.ownBlock=some q->q≠b)/\wr.heap[b]? = some (.cells (c.map Value.string).toArray 9 (0,0))
theorem DropSt.below{w2:World}{lit:Nat}{w w':World}{v:Value}{a:List ByteArray}(h:DropSt w2 lit w v a)(hb:Below w.heap.size w w'):DropSt w2 lit w' v a:=
 ⟨h.own.below hb,h.far,zjG h.grown hb⟩
theorem DropSt.push{w2:World}{lit:Nat}{w w':World}{v v':Value}{a:List ByteArray}{x:ByteArray}(h:DropSt w2 lit w v a)(j:OwnS w' lit v' (a++[x]))(c:w.grownBy w' v.ownBlock)(g:∀k,v'.ownBlock=some k->v.ownBlock=some k\/w.heap.size<=k):
 DropSt w2 lit w' v' (a++[x]):=
 ⟨j,λq f=>(g q f).elim (h.far q) (λh2=>.inr (Qn h.grown.size h2)),⟨c.os.trans h.grown.os,c.tape.trans h.grown.tape,c.output.trans h.grown.output,Qn h.grown.size c.size,λi d b=>
  (c.block i (Qv d h.grown.size) (λe=>(h.far i e.symm).elim (λh2=>b (by rw[h2])) (λh2=>by omega))).trans (h.grown.block i d b)⟩⟩
theorem OwnS.sl2{w:World}{b n c:Nat}{A:Option Addr}{l:List ByteArray}(h:OwnS w b (.slice A n c) l):n=l.length/\Sl w w.heap.size 1 A l.length (l.map Value.string):=by
 obtain⟨i,j,e,f⟩:=h.form;injection e with a d g
 subst a;subst d
 exact⟨rfl,f⟩
def zzJ(a:List zao)(m t:ByteArray)(H:Nat)(b:World)(i:Value)(wr:World):Prop:=
 ∃k v,k<=a.length/\i=.int .i64 k/\HdAt H m t v wr/\OwnV wr (H+1) v ((a.take k).filter (zfM a))/\Below H b wr
theorem zuf(h:zbh)(A:Option Addr)(c:Nat)(w:World)(hf:Sl w w.heap.size 2 A h.fs.length (h.fs.flatMap zaL))(E:zgN h.fs)(he:LibOk w):
 Calls prog 57 #[.agg #[.string h.m,.string h.t,.slice A h.fs.length c]] w (zhX h w):=by
 obtain⟨m,t,a⟩:=h;dsimp only at *;obtain⟨l,H⟩:∃l,(w.alloc (.cells #[.string m,.string t,.slice A a.length c] 27)).alloc (.cells #[.string (.mk #[]),.string (.mk #[]),.slice none 0 0] 27)=l:=⟨_,rfl⟩
 have hG:Below w.heap.size w l:=by rw[<-H];exact WaL.alloc (by simp) _
 have gY:l.heap.size=w.heap.size+2:=by rw[<-H];simp
 have ha:HdAt w.heap.size m t (.slice A a.length c) l:=by
  unfold HdAt;rw[<-H];exact(Qt _ _ _ (by simp)).trans (Qp w _)
 have hr:ResAt (w.heap.size+1) l:=by
  unfold ResAt;rw[<-H];have:=Qp (w.alloc (.cells #[.string m,.string t,.slice A a.length c] 27)) (.cells #[.string (.mk #[]),.string (.mk #[]),.slice none 0 0] 27);rw[Qr]at this;exact this
 have ge:∀W,Below l.heap.size l W->HdAt w.heap.size m t (.slice A a.length c) W/\ResAt (w.heap.size+1) W/\Below w.heap.size w W/\Sl W W.heap.size 2 A a.length (a.flatMap zaL)/\LibOk W:=λW hb=>by
  have h2:=hG.trans (hb.mono hG.size);exact⟨(hb.block _ (by omega)).trans ha,hr.below hb (by omega),h2,(hf.below h2).more h2.size,he.below h2⟩
 have hd:=hIx ge;have gu:=hIx H;have gH:w.heap.size<l.heap.size:=by omega
 have k1:w.heap.size+1<l.heap.size:=by omega
 have gm:=hIx E;have hn:=E.n;have gG:=zfB a zhS
 have hs:∀x∈getL a zhS,x.size<=4194304:=λx hx=>by
  obtain⟨f,hf,rfl⟩:=QO.1 hx;exact(E.sz f (ZB.1 hf).1).2
 have hv:=hIx hs;have gj:Hid ((zcT++(getL a zhS).flatMap zaw).length<=4194304):=E.drop;have ga:Hid (zbE a=zcT++(getL a zhS).flatMap zaw):=rfl
 have hy:Hid (∀W,Below l.heap.size l W->Calls prog 52 #[.agg #[.string m,.string t,.slice A a.length c],.string zhS] W (zgz (getL a zhS) W)):=λW h=>
  zhV m t A a.length c a zhS W rfl (hd.out W h).2.2.2.1 (λf hf=>by have:=(E.sz f hf).1;unfold maxLen;omega) (by decide) (by omega)
 generalize gN:getL a zhS=cs at *;have ⟨a0,a1,a2⟩:=ha.cells;clear H hG ha hr ge hf E hs he gN gY;have gF:Sl (l.alloc (.cells (zcT.map Value.string).toArray 9)) (l.alloc (.cells (zcT.map Value.string).toArray 9)).heap.size 1 (some ⟨l.heap.size,0,none⟩) 8 (zcT.map Value.string):=Sl.lit rfl (by simp) rfl rfl;have g7:OwnS (l.alloc (.cells (zcT.map Value.string).toArray 9)) l.heap.size (.slice (some ⟨l.heap.size,0,none⟩) 8 8) zcT:=Xw l (zcT.map Value.string).toArray 8 (Qd _) (by decide) rfl;have gt:Below l.heap.size l (l.alloc (.cells (zcT.map Value.string).toArray 9)):=WaL;have gA:=hIx (hy.out _ gt);have gh:=hIx g7;clear gF g7 gt hy
 go_in
 go_upto_region 1 with fail
 rw[gu.out];go_wp2_with fail;refine gA.out.mono ?_;rintro e w2 ⟨v2,rfl,hB,P⟩;obtain⟨A2,d2,rfl,g6⟩:=hB.form;have Z:=gh.out.below P;have P:=zaJ P (Qd _);have hR:l.heap.size<w2.heap.size:=(Z.lt _ rfl).2
 have gr:Hid (∀W,w2.grownBy W (some l.heap.size)->∀k (h:k<cs.length),∃b N,A2=some ⟨b,N,none⟩/\W.cell? ⟨b,N+k,none⟩=some (.string cs[k])):=λW hg k h=>by
  obtain⟨b,N,rfl,kd,hc⟩:=g6.src (by rw[Qh];omega);have hl:=hB.lt b rfl;simp at hl;refine⟨b,N,rfl,hg.cell ?_ (λe=>by injection e with e;have:b=l.heap.size:=e;omega)⟩;rw[hc k (by rw[Qh];exact h),Zd]
 have gk:Hid (∀W,w2.grownBy W (some l.heap.size)->Below l.heap.size l W):=λW hg=>P.grown hg (Q5 hR) (λk hk=>by injection hk with hk;omega)
 have gB:Hid (DropSt w2 l.heap.size w2 (.slice (some ⟨l.heap.size,0,none⟩) 8 8) zcT):=⟨Z,λq y=>.inl (by injection y with y;exact y.symm),⟨rfl,rfl,rfl,Qd _,λ_ _ _=>rfl⟩⟩
 clear Z P g6 hB gA gh gu;go_wp2
 go_loopw [3,15] (λv i wr=>zqn cs w2 l.heap.size v i wr) (λ_ i _=>cs.length-(intOf i).toNat)
 case atStart=>exact⟨0,Qm _,rfl,by simpa using gB.out⟩
 case round=>
  obtain⟨k,hk,rfl,hD⟩:=hrel;have J:=gk.out wr hD.grown;have hI:=gj.out;obtain⟨Ao,co,rfl,_⟩:=hD.own.form
  by_cases C:k<cs.length
  ·have gE:decide ((k:Int)<(cs.length:Int))=true:=by simp;omega
   have i7:IntKind.i64.wrap ((k:Int)+1)=(k:Int)+1:=Qx _ (by omega);obtain⟨b,N,rfl,x0⟩:=gr.out wr hD.grown k C;obtain⟨m0,gf⟩:=(hd.out wr J).2.2.2.2;have kj:=hv.out cs[k] (Qy C);have hK:=hIx (zn7 cs k C);have hz:=ztC cs (k+1);rw[hK.out,Qa]at hz
   have ho:Hid ((zcT++(cs.take k).flatMap zaw).length+(zaw cs[k]).length<=4194304):=by
    unfold Hid;rw[Qa]at hI ⊢;omega
   generalize cs[k]=X at *;have U:=strings_Split X ⟨#[44]⟩ m0 wr (by omega) gf (by decide);have h8:=zb2 44 X;have h9:=Xi ⟨#[44]⟩ (by decide) 0 _ X rfl;generalize Lib.splitB ⟨#[44]⟩ 0 (Lib.countB X ⟨#[44]⟩) X=z at U h8 h9;generalize Lib.countB X ⟨#[44]⟩=n at U h9;rw[<-h9]at U
   have gy:Hid (zaw X=z.map λp=>bs (zav (zaF p.data.toList))):=by
    unfold Hid zaw;rw[<-h8,Xu]
    rfl
   have gI:Hid (∀p∈z,p.size<=4194304):=λp hp=>by
    have hm:p.data.toList∈splL 44 X.data.toList:=by rw[<-h8];exact QO.2 ⟨p,hp,rfl⟩
    have h1:=zbZ 44 X.data.toList _ hm;have h2:X.data.toList.length=X.size:=by simp
    have h3:p.data.toList.length=p.size:=by simp
    omega
   have g5:=hIx U;have HD:=hIx hD;clear U h8 h9 hD J gf hz hI;generalize hV:zcT++(cs.take k).flatMap zaw=d at *;have h5:Hid (zcT++(cs.take (k+1)).flatMap zaw=d++zaw X):=by unfold Hid;rw[hK.out,<-hV,QH]
   have k9:0<d.length:=by rw[<-hV,Qa];show 0<8+_;omega
   have gl:=ho.out;rw[gy.out]at h5 gl;clear hV hK gy ho;generalize hT:(z.map λp=>bs (zav (zaF p.data.toList)))=qs at *;have gZ:qs.length=z.length:=by rw[<-hT,Qh]
   have gS:Hid (∀j (h:j<z.length) (h2:j<qs.length),bs (zav (zaF z[j].data.toList))=qs[j]):=λj h h2=>by simp[<-hT]
   clear hT;go_wp2_with fail;refine g5.out.mono ?_;rintro e w3 ⟨rfl,hN⟩;have S:Below wr.heap.size wr w3:=by rw[hN];exact WaL
   have gd:w3.heap[wr.heap.size]? = some (.cells (z.map Value.string).toArray 9 (0,0)):=by rw[hN];exact Qp wr _
   have k4:Hid (zxl d qs z w2 l.heap.size wr.heap.size (.slice Ao d.length co) (.int .i64 0) w3):=⟨0,Qm _,rfl,by simpa using HD.out.below S,λq y=>by have:=(HD.out.own.lt q y).2;omega,gd⟩
   clear hN S gd g5;obtain⟨wo,rfl⟩:∃wo:World,wo=wr:=⟨_,rfl⟩
   go_wp2
   go_loopw [3,22] (λv i wr=>zxl d qs z w2 l.heap.size wo.heap.size v i wr) (λ_ i _=>qs.length-(intOf i).toNat)
   case atStart=>exact k4.out
   case round=>
    obtain⟨j,hj,rfl,F,h4,r⟩:=hrel;obtain⟨Ai,ci,rfl,_⟩:=F.own.form
    have gb:wo.heap.size<wr.heap.size:=by
     rw[Q1]at r;exact r.1
    have gR:(d++qs.take j).length<=4194304:=by rw[Qa];have:=ZU j qs;omega
    have k7:0<(d++qs.take j).length:=by rw[Qa];omega
    by_cases hA:j<qs.length
    ·have dj:decide ((j:Int)<(z.length:Int))=true:=by simp;omega
     have i9:IntKind.i64.wrap ((j:Int)+1)=(j:Int)+1:=Qx _ (by omega);have hS:j<z.length:=by omega
     have y0:wr.cell? ⟨wo.heap.size,j,none⟩=some (.string z[j]):=by
      rw[Qf wr _ j _ _ _ r];simp[hS]
     have kh:=gI.out z[j] (Qy hS);have y:=gS.out j hS hA;have gD:Hid (d++qs.take (j+1)=d++qs.take j++[bs (zav (zaF z[j].data.toList))]):=by unfold Hid;rw[y,Qq hA,QH]
     generalize z[j]=p at *;have gO:p.data.toList.length=p.size:=by simp
     have k0:=zfE p.data.toList;have gW:Hid (∀W,Calls prog 80 #[.string p] W λe w'=>e=.returned (.string (bs (zaF p.data.toList)))/\w'=W):=λW=>zdK p W (by unfold maxLen;omega)
     have hJ:Hid (∀W,Calls prog 64 #[.string (bs (zaF p.data.toList))] W (zbN (bs (zav (zaF p.data.toList))) W)):=λW=>by
      have:=zbg (bs (zaF p.data.toList)) W (by rw[zaj];unfold maxLen;omega);rw[zae]at this;exact this
     generalize bs (zav (zaF p.data.toList))=Q at *;generalize bs (zaF p.data.toList)=TQ at *;generalize d++qs.take j=g4 at *;have g1:=hIx F;have gn:=hIx r;have ht:=hIx h4;clear F r h4 y gO k0;go_wp2_with fail;refine(gW.out wr).mono ?_;rintro e w4 ⟨rfl,g3⟩;rw[g3];clear g3;go_wp2_with fail;refine(hJ.out wr).mono ?_;rintro e w5 ⟨rfl,hW⟩;have g0:=g1.out.below hW;have gC:=g0.own;have h6:l.heap.size<=w5.heap.size:=Qn (Q5 hR) g0.grown.size;have gT:=(hW.block _ gb).trans gn.out;have k6:wo.heap.size<w5.heap.size:=Qv gb hW.size;go_wp2_with (at_builtin;refine zhh rfl (.tmp 26) (.tmp 30) rfl l.heap.size (.slice Ai g4.length ci) g4 rfl (by exact gC) (by exact k7) (by exact h6) Q w5.heap.size rfl 1 rfl (by exact gR) ?_;intro v6 w6 Y gs g2);exact⟨⟨j+1,by omega,rfl,by rw[gD.out];exact g0.push Y gs g2,λq y=>(g2 q y).elim (ht.out q) (λh=>by omega),(gs.block _ k6 (λe=>ht.out _ e.symm rfl)).trans gT⟩,by dsimp only[intOf];omega⟩
    ·obtain rfl:j=qs.length:=by omega
     have dj:decide ((qs.length:Int)<(z.length:Int))=false:=by rw[gZ];simp
     rw[QV]at F;have g1:=hIx F;rw[QV];clear F r h4;go_wp2;exact⟨⟨k+1,by omega,rfl,by rw[h5.out];exact g1.out⟩,by dsimp only[intOf];omega⟩
  ·obtain rfl:k=cs.length:=by omega
   have gE:decide ((cs.length:Int)<(cs.length:Int))=false:=by simp
   rw[QV]at hD ⊢;rw[<-ga.out]at hD ⊢;have kb:(zbE a).length<=4194304:=gm.out.drop;obtain⟨_,hi⟩:=hD.own.sl2;have gQ:Hid (∀W,Below wr.heap.size wr W->Sl W W.heap.size 1 Ao (zbE a).length ((zbE a).map Value.string)):=λW h=>(hi.below h).more h.size
   have ⟨hh,_,_,_,_⟩:=hd.out wr J;have ⟨b0,b1,b2⟩:=hh.cells;have hC:l.heap.size<=wr.heap.size:=J.size;have kc:w.heap.size<wr.heap.size:=Qv gH hC;have ka:w.heap.size+1<wr.heap.size:=Qv k1 hC;have gg:=hIx J;have gK:=λk h=>hIx (zqQ a k h)
   have g8:Hid (∀f∈a,∀W,Calls prog 64 #[.string f.1] W (zbN (lowN f) W)):=λf hf W=>zbg f.1 W (by have:=(gm.out.sz f hf).1;unfold maxLen;omega)
   generalize kf:zbE a=D at *;clear hD hi hh J gk gr hv gj ga gB hI gG hR;obtain⟨u,rfl⟩:∃u:World,u=wr:=⟨_,rfl⟩
   go_wp2
   go_loopw [42] (λi wr=>zzJ a m t u.heap.size u i wr) (λi _=>a.length-(intOf i).toNat)
   case atStart=>exact⟨0,.slice none 0 0,Qm _,rfl,Qp _ _,OwnV.nil _ _,WaL⟩
   case round=>
    obtain⟨k,v,hk,rfl,hH,hO,hb⟩:=hrel;have hU:=gg.out.trans (hb.mono hC);have ⟨_,o,hP,hF,_⟩:=hd.out wr hU;have hL:=gQ.out wr hb
    have hw:u.heap.size<wr.heap.size:=by
     have:=hH;unfold HdAt at this;rw[Q1]at this;exact this.1
    have gi:=zvJ a k
    by_cases C:k<a.length
    ·have k2:decide ((k:Int)<(a.length:Int))=true:=by simp;omega
     have i7:IntKind.i64.wrap ((k:Int)+1)=(k:Int)+1:=Qx _ (by omega);obtain⟨b',k8,rfl,_,x0,x1⟩:=zpj hF k C;have HT:=gK k C;have hJ:=hIx (g8.out a[k] (Qy C));have B:Below wr.heap.size wr (wr.alloc (.cells #[.string a[k].1,.string a[k].2] 133)):=WaL;have gq:=hO.below B;have g9:=(B.block _ hw).trans hH;have S:=hb.trans (B.mono hb.size);have hu:=(hL.below B).more B.size;have gU:Hid (∀W,Below (wr.alloc (.cells #[.string a[k].1,.string a[k].2] 133)).heap.size (wr.alloc (.cells #[.string a[k].1,.string a[k].2] 133)) W->W.cell? ⟨wr.heap.size,0,none⟩=some (.string a[k].1)/\W.cell? ⟨wr.heap.size,1,none⟩=some (.string a[k].2)):=λW h=>⟨zar h 0,zar h 1⟩
     generalize a[k]=X at *;generalize hQ:lowN X=Q at *;obtain⟨n1,n2⟩:=X;dsimp only at *;have gw:u.heap.size<(wr.alloc (.cells #[.string n1,.string n2] 133)).heap.size:=Qv hw B.size;have k3:=hIx gq;have gL:=hIx g9;have gp:=hIx S;have gv:=hIx hu;clear gq g9 S hu B hO hH hb hU o hP hF hL b0 b1 b2;go_wp2_with fail;refine(hJ.out _).mono ?_;rintro e w4 ⟨rfl,s⟩;have V:HdAt u.heap.size m t v w4:=(s.block _ gw).trans gL.out;have G:=k3.out.below s;have h7:=gp.out.trans (s.mono gp.out.size);have ⟨t0,t1⟩:=gU.out w4 s;have I:=zk4 co Q ((gv.out.below s).more s.size) (by omega);have gc:u.heap.size<w4.heap.size:=Qv gw s.size;cases y:Lib.containsS D Q with
     |true=>
      have hE:Hid ((a.take (k+1)).filter (zfM a)=(a.take k).filter (zfM a)):=by unfold Hid;rw[HT.out,Qi y,QI]
      rw[y]at I;have hZ:=hIx I;have HN:=hIx (And.intro V (And.intro G h7));clear y I V G h7 s t0 t1;go_wp2_with (go_at_call 90;(with_reducible refine hZ.out.mono ?_);rintro e w5 ⟨rfl,rfl⟩);exact⟨⟨k+1,v,by omega,rfl,HN.out.1,by rw[hE.out];exact HN.out.2.1,HN.out.2.2⟩,by dsimp only[intOf];omega⟩
     |false=>
      have hE:Hid ((a.take (k+1)).filter (zfM a)=(a.take k).filter (zfM a)++[(n1,n2)]):=by unfold Hid;rw[HT.out,Qe (by rw[y];decide)]
      rw[y]at I;have hZ:=hIx I;obtain⟨T,O,rfl,_⟩:=G.form;have ⟨h0,h1,h2⟩:=V.cells;have k5:Hid ((Value.slice T ((a.take k).filter (zfM a)).length O).ownBlock≠some u.heap.size):=λe=>by have:=(QK G _ e).1;omega
      generalize (a.take k).filter (zfM a)=d at *;have gP:=hIx G;have gJ:=hIx V;have gX:=hIx h7;have h6:u.heap.size+1<=w4.heap.size:=gc;clear y I V G h7 s
      go_wp2_with (first
       |(go_at_call 90;(with_reducible refine hZ.out.mono ?_);rintro e w5 ⟨rfl,rfl⟩)
       |(at_builtin;refine zi7 rfl (.tmp 53) (.tmp 55) rfl (u.heap.size+1) (.slice T d.length O) d rfl (by exact gP.out) (by exact h6) _ (n1,n2) rfl w5.heap.size rfl 1 rfl (by omega) ?_;intro v6 w6 Y gV gM ke;have hY:HdAt u.heap.size m t (.slice T d.length O) w6:=(gM u.heap.size h6 k5.out).trans gJ.out;obtain⟨A6,c6,rfl,_⟩:=Y.form;have ki:=hY.free 2;have kg:=hY.cells.2.2))
      have gx:=hY.put (.slice A6 (d++[(n1,n2)]).length c6);have gz:=(gX.out.trans (gV.mono (Zg _))).setCell (p:=⟨u.heap.size,2,none⟩) (Qd _) (.slice A6 (d++[(n1,n2)]).length c6)
      have L:OwnV (w6.setCell ⟨u.heap.size,2,none⟩ (.slice A6 (d++[(n1,n2)]).length c6)) (u.heap.size+1) (.slice A6 (d++[(n1,n2)]).length c6) (d++[(n1,n2)]):=by
       refine Y.keep λg hg=>?_
       have K:g≠u.heap.size:=λe=>by have:=(QK Y g hg).1;omega
       rw[Ql _ _ _ _ K]
      have hX:(d++[(n1,n2)]).length=d.length+1:=by rw[Qa];rfl
      rw[hX]at gx gz L;exact⟨⟨k+1,_,by omega,rfl,gx,by rw[hE.out];exact L,gz⟩,by dsimp only[intOf];omega⟩
    ·obtain rfl:k=a.length:=by omega
     have k2:decide ((a.length:Int)<(a.length:Int))=false:=by simp
     rw[QV]at hO gi;have e1:a.filter (zfM a)=za2 a:=rfl;rw[e1]at hO gi;obtain⟨T,O,rfl,_⟩:=hO.form;have ⟨h0,h1,h2⟩:=hH.cells;have ⟨r0,r1,r2⟩:=o.cells;have f0:=o.free 0;have f1:=o.free 1;have f2:=o.free 2
     have L:OwnV (((wr.setCell ⟨w.heap.size+1,0,none⟩ (.string m)).setCell ⟨w.heap.size+1,1,none⟩ (.string t)).setCell ⟨w.heap.size+1,2,none⟩ (.slice T (za2 a).length O)) w.heap.size (.slice T (za2 a).length O) (za2 a):=by
      refine(hO.keep λg hg=>?_).low (by omega);have K:g≠w.heap.size+1:=λe=>by have:=(QK hO g hg).1;omega
      rw[Ql _ _ _ _ K,Ql _ _ _ _ K,Ql _ _ _ _ K]
     have HP:Hid (zhX ⟨m,t,a⟩ w (.returned (.agg #[.string m,.string t,.slice T (za2 a).length O])) (((wr.setCell ⟨w.heap.size+1,0,none⟩ (.string m)).setCell ⟨w.heap.size+1,1,none⟩ (.string t)).setCell ⟨w.heap.size+1,2,none⟩ (.slice T (za2 a).length O))):=
      ⟨T,O,rfl,L,((hP.setCell (p:=⟨w.heap.size+1,0,none⟩) (Zg _) _).setCell (p:=⟨w.heap.size+1,1,none⟩) (Zg _) _).setCell (p:=⟨w.heap.size+1,2,none⟩) (Zg _) _⟩
     have tt:=zbF (.string m) (.string t) (.slice T (za2 a).length O) r0 r1 r2;have TT:=hIx tt;clear L hO hH hb hU o hP hF hL b0 b1 b2 tt;generalize za2 a=SF at *;go_wp2;exact Qj (v:=.agg #[.string m,.string t,.slice T SF.length O]) (by simp[results,results57,go_sem,TT.out.1,TT.out.2.1,TT.out.2.2]) rfl HP.out
def zau:List UInt8->Int × Nat
 | []=>(7,0)
 |a::r=>if a=13 then (match r with | []=>(7,1)|b::_=>if b=10 then (0,2)else (4,1))else (4,0)
def digN:Nat->List UInt8->Nat
 |0,_=>0
 |_+1,[]=>0
 |f+1,b::r=>if 0<=zat b then digN f r+1 else 0
def hexV(l:List UInt8):Int:=(numL 16 7 l).getD 0
structure zws where
 n:Int
 e:Int
 c:Nat
 d:List UInt8
def zaD(l:List UInt8):zws:=
 if digN 7 l=0 then ⟨0,if l.length=0 then 7 else 4,0,[]⟩
 else ⟨hexV (l.take (digN 7 l)),(zau (l.drop (digN 7 l))).1,digN 7 l+(zau (l.drop (digN 7 l))).2,[]⟩
def zam(l:List UInt8)(room:Int):zws:=
 if (zaD l).e≠0 then ⟨0,(zaD l).e,(zaD l).c,[]⟩
 else if room<(zaD l).n then ⟨0,6,(zaD l).c,[]⟩
 else if (l.length:Int)-(zaD l).c<(zaD l).n then ⟨0,7,(zaD l).c,[]⟩
 else ⟨(zaD l).n,(zau (l.drop ((zaD l).c+(zaD l).n.toNat))).1,(zaD l).c+(zaD l).n.toNat+(zau (l.drop ((zaD l).c+(zaD l).n.toNat))).2,(l.drop (zaD l).c).take (zaD l).n.toNat⟩
abbrev Told:=Sum Int (List UInt8 × Nat)
def preT(d:List UInt8)(c:Nat):Told->Told
 |.inl e=>.inl e
 |.inr (t,k)=>.inr (d++t,c+k)
def zbb:Nat->List UInt8->Int->Told
 |0,_,_=>.inl 7
 |f+1,l,room=>if (zam l room).e≠0 then .inl (zam l room).e else if (zam l room).n=0 then .inr ([],(zam l room).c)
  else preT (zam l room).d (zam l room).c (zbb f (l.drop (zam l room).c) (room-(zam l room).n))
theorem zsn{l:List UInt8}(h:(zau l).1=0):∃r,l=13::10::r:=by
 unfold zau at h
 split at h
 ·exact absurd h (by decide)
 ·split at h
  ·split at h
   ·exact absurd h (by decide)
   ·split at h
    ·rename_i h1 _ _ _ h2;exact⟨_,by rw[h1,h2]⟩
    ·exact absurd h (by decide)
  ·exact absurd h (by decide)
theorem zmk(r:List UInt8):zau (13::10::r)=(0,2):=rfl
def zdY(l:List UInt8):Prop:=∀b∈l,0<=zat b
theorem zt9:∀(f:Nat) (l:List UInt8),digN f l<=f/\digN f l<=l.length/\zdY (l.take (digN f l))
 |0,l=>⟨Qd _,Qm _,λb h=>by simp[digN]at h⟩
 |f+1,[]=>⟨Qm _,Qd _,λb h=>by simp at h⟩
 |f+1,b::r=>by
  obtain⟨h1,h2,c⟩:=zt9 f r;unfold digN
  split
  ·refine⟨by omega,by simp only[Qo];omega,λx a=>?_⟩
   rw[Xm,QJ]at a
   rcases a with rfl|a
   ·assumption
   ·exact c x a
  ·exact⟨Qm _,Qm _,λx a=>by simp at a⟩
theorem zls(r:List UInt8)(c:r=[]\/∃q,r=13::q):∀(f:Nat) (a:List UInt8),zdY a->a.length<=f->digN f (a++r)=a.length
 |0,a,_,hl=>by rw[QA (by omega:a.length=0)];rfl
 |f+1,[],_,_=>by
  rcases c with rfl|⟨q,rfl⟩
  ·rfl
  ·show digN (f+1) (13::q)=0
   unfold digN;rw[Qe (by decide)]
 |f+1,b::a,h,hl=>by
  rw[ZS];unfold digN;rw[Qi (h b (Q7 ..)),zls r c f a (λx d=>h x (Q3 _ d)) (by simp only[Qo]at hl;omega)]
  rfl
structure zzI(l ds r:List UInt8):Prop where
 e:l=ds++13::10::r
 dig:zdY ds
 lo:1<=ds.length
 hi:ds.length<=7
theorem zfC(a r:List UInt8)(b:zdY a)(h1:1<=a.length)(c:a.length<=7):zaD (a++13::10::r)=⟨hexV a,0,a.length+2,[]⟩:=by
 unfold zaD;rw[zls _ (.inr ⟨_,rfl⟩) 7 a b c,Qe (by omega),XJ,ZH,zmk]
theorem ztE{l:List UInt8}(h:(zaD l).e=0):∃d r,zzI l d r:=by
 unfold zaD at h;obtain⟨g,f,b⟩:=zt9 7 l
 by_cases a:digN 7 l=0
 ·rw[Qi a]at h
  dsimp only at h
  split at h <;> exact absurd h (by decide)
 ·rw[Qe a]at h
  obtain⟨r,c⟩:=zsn h;refine⟨l.take (digN 7 l),r,?_,b,?_,?_⟩
  ·rw[<-c,Zm]
  ·rw[Qz];omega
  ·rw[Qz];omega
theorem ztT:(zaD []).e=7:=rfl
theorem zo9(a p:List UInt8)(c:zdY a)(h1:1<=a.length)(d:a.length<=7)(b:p=[]\/p=[13]):(zaD (a++p)).e=7:=by
 unfold zaD;rw[zls p (by rcases b with rfl|rfl;exact .inl rfl;exact .inr ⟨[],rfl⟩) 7 a c d,Qe (by omega),ZH]
 rcases b with rfl|rfl <;> rfl
theorem zor(a r:List UInt8)(d:zdY a)(h1:1<=a.length)(f:a.length<=7)(j:Nat)(h:j<a.length+2):(zaD ((a++13::10::r).take j)).e=7:=by
 by_cases g:j=0
 ·subst g;exact ztT
 by_cases c:j<=a.length
 ·rw[List.take_append_of_le_length c]
  have:=zo9 (a.take j) [] (λb hb=>d b (ZK hb)) (by rw[Qz];omega) (by rw[Qz];omega) (.inl rfl)
  rwa[QI]at this
 ·rw[Z2,QC (by omega),show j-a.length=1 by omega]
  exact zo9 a [13] d h1 f (.inr rfl)
theorem zw1(b:UInt8):-1<=zat b/\zat b<=15:=
 Zq (zcs (p:=λb=>decide (-1<=zat b/\zat b<=15)) (by decide+kernel) b)
theorem ziD:∀(l:List UInt8) (v w:Int),0<=v->zby 16 l v=some w->0<=w/\w<(v+1)*16 ^ l.length
 | [],v,w,c,h=>by
  unfold zby at h;have e:v=w:=QD h;subst e;rw[QR,Int.pow_zero];omega
 |b::l,v,w,c,h=>by
  unfold zby at h
  split at h
  ·cases h
  ·have:=ziD l _ w (by omega) h
   refine⟨this.1,?_⟩;rw[Qo,Int.pow_succ'];have a:(0:Int)<16 ^ l.length:=Int.pow_pos (by decide);have h2:(v*16+zat b+1)*16 ^ l.length<=((v+1)*16)*16 ^ l.length:=Int.mul_le_mul_of_nonneg_right (by omega) (Int.le_of_lt a);rw[<-Int.mul_assoc];omega
theorem zjX:∀(l:List UInt8) (v:Int),zdY l->∃w,zby 16 l v=some w
 | [],v,_=>⟨v,rfl⟩
 |b::l,v,h=>by
  unfold zby;have h1:=zw1 b;have h2:=h b (Q7 ..);rw[Qe (by omega)];exact zjX l _ (λx a=>h x (Q3 _ a))
theorem zf4(l:List UInt8):0<=hexV l/\hexV l<268435456:=by
 unfold hexV numL
 split
 ·exact⟨by decide,by decide⟩
 ·rename_i h
  cases b:zby 16 l 0 with
  |none=>exact⟨by decide,by decide⟩
  |some w=>
   obtain⟨h1,h2⟩:=ziD l 0 w (Zw _) b;refine⟨h1,?_⟩;have c:(16:Nat) ^ l.length<=16 ^ 7:=ZZ (by decide) (by omega);have a:(16:Int) ^ l.length=((16 ^ l.length:Nat):Int):=by simp
   rw[a]at h2;show w<_
   omega
theorem zuB(l:List UInt8)(h:zdY l)(h1:1<=l.length)(b:l.length<=7):numL 16 7 l=some (hexV l):=by
 unfold hexV numL;rw[Qe (by omega)];obtain⟨w,a⟩:=zjX l 0 h;rw[a];rfl
structure zxO(l ds d r:List UInt8)(room:Int):Prop where
 e:l=ds++13::10::(d++13::10::r)
 dig:zdY ds
 lo:1<=ds.length
 hi:ds.length<=7
 n:(d.length:Int)=hexV ds
 room:hexV ds<=room
theorem zdv(a d r:List UInt8)(room:Int)(e:zdY a)(h1:1<=a.length)(g:a.length<=7)(j:(d.length:Int)=hexV a)(i:hexV a<=room):
 zam (a++13::10::(d++13::10::r)) room=⟨hexV a,0,a.length+2+d.length+2,d⟩:=by
 have h:=zfC a (d++13::10::r) e h1 g;unfold zam;rw[h];dsimp only;have b:(hexV a).toNat=d.length:=by omega
 have c:(a++13::10::(d++13::10::r)).drop (a.length+2)=d++13::10::r:=by
  rw[<-Zy,ZH];rfl
 have f:(a++13::10::(d++13::10::r)).drop (a.length+2+d.length)=13::10::r:=by
  rw[<-Zy,c,ZH]
 rw[Qe (by simp),Qe (by omega),Qe (by simp;omega),b,c,f,zmk,XJ]
theorem zeO{l:List UInt8}{room:Int}(h:(zam l room).e=0):∃a d r,zxO l a d r room:=by
 unfold zam at h
 by_cases h1:(zaD l).e≠0
 ·rw[Qi h1]at h;exact absurd h h1
 obtain⟨a,q,b⟩:=ztE (Z6.1 h1);rw[Qe h1,b.e,zfC a q b.dig b.lo b.hi]at h;dsimp only at h
 by_cases h2:room<hexV a
 ·rw[Qi h2]at h;simp at h
 rw[Qe h2]at h
 by_cases c:((a++13::10::q).length:Int)-((a.length+2:Nat):Int)<hexV a
 ·rw[Qi c]at h;simp at h
 rw[Qe c]at h;have i:=(zf4 a).1
 have g:(hexV a).toNat<=q.length:=by
  rw[Qa,Qo,Qo]at c;omega
 have f:(a++13::10::q).drop (a.length+2)=q:=by
  rw[<-Zy,ZH];rfl
 rw[<-Zy,f]at h;obtain⟨r,hl⟩:=zsn h;exact⟨a,q.take (hexV a).toNat,r,by rw[<-hl,Zm];exact b.e,b.dig,b.lo,b.hi,by rw[Qz];omega,by omega⟩
theorem zmD(a d r:List UInt8)(room:Int)(f:zdY a)(h1:1<=a.length)(g:a.length<=7)(n:(d.length:Int)=hexV a)(m:hexV a<=room)
 (j:Nat) (o:j<a.length+2+d.length+2):(zam ((a++13::10::(d++13::10::r)).take j) room).e=7:=by
 by_cases h:j<a.length+2
 ·have:=zor a (d++13::10::r) f h1 g j h
  unfold zam;rw[Qi (by rw[this];decide)];exact this
 ·have k:(a++13::10::(d++13::10::r)).take j=a++13::10::((d++13::10::r).take (j-a.length-2)):=by
   rw[Z2,QC (by omega)]
   congr 1
   rw[show j-a.length=j-a.length-2+1+1 by omega,Xm,Xm]
   rfl
  rw[k];have l:=zfC a ((d++13::10::r).take (j-a.length-2)) f h1 g;unfold zam;rw[l];dsimp only;rw[Qe (by simp),Qe (by omega)]
  by_cases h2:j-a.length-2<d.length
  ·rw[Qi]
   rw[Qa,Qo,Qo,Qz];omega
  ·rw[Qe (by
    rw[Qa,Qo,Qo,Qz,Qa,Qo,Qo];omega)]
   dsimp only;have c:(hexV a).toNat=d.length:=by omega
   have i:(a++13::10::(d++13::10::r).take (j-a.length-2)).drop (a.length+2+d.length)=(13::10::r).take (j-a.length-2-d.length):=by
    rw[<-Zy,<-Zy,ZH];show ((d++13::10::r).take _).drop d.length=_
    rw[List.drop_take,ZH]
   rw[c,i];have b:j-a.length-2-d.length=0\/j-a.length-2-d.length=1:=by omega
   rcases b with b|b <;> rw[b] <;> rfl
def zaW(a d:List UInt8):List UInt8:=a++13::10::(d++[13,10])
theorem zeK(a d:List UInt8):(zaW a d).length=a.length+2+d.length+2:=by
 unfold zaW;rw[Qa,Qo,Qo,Qa,Qo,Qo,QR];omega
theorem zdo(a d r:List UInt8):a++13::10::(d++13::10::r)=zaW a d++r:=by unfold zaW;simp
theorem zeD(room:Int):(zam [] room).e=7:=rfl
theorem zdC{f:Nat}{l:List UInt8}{room:Int}(h:(zam l room).e≠0):zbb (f+1) l room=.inl (zam l room).e:=by
 rw[zbb,Qi h]
theorem zb1(f:Nat)(a d x:List UInt8)(room:Int)(b:zdY a)(h1:1<=a.length)(g:a.length<=7)(h:(d.length:Int)=hexV a)(c:hexV a<=room):
 zbb (f+1) (zaW a d++x) room=if hexV a=0 then .inr ([],(zaW a d).length)else preT d (zaW a d).length (zbb f x (room-hexV a)):=by
 have e:=zdv a d x room b h1 g h c;rw[zdo,<-zeK]at e;rw[zbb,e];dsimp only;rw[Qe (by simp),ZH]
theorem zf5:∀(f:Nat) (l:List UInt8) (room:Int) (t:List UInt8) (k:Nat),zbb f l room=.inr (t,k)->
 k<=l.length/\1<=k/\(t.length:Int)<=room/\(∀(x:List UInt8) (b:Nat) (a:Int),k<=b->(t.length:Int)<=a->zbb b (l.take k++x) a=.inr (t,k))/\
 (∀(j b:Nat) (a:Int),j<k->j<=b->(t.length:Int)<=a->zbb b (l.take j) a=.inl 7):=by
 intro f
 induction f with
 |zero=>intro l room t k h;unfold zbb at h;cases h
 |succ f ih=>
  intro l room t k h
  by_cases D:(zam l room).e≠0
  ·rw[zdC D]at h;cases h
  obtain⟨c,d,r,o⟩:=zeO (Z6.1 D);have G:=(zf4 c).1;have E:=zeK c d;have J:=o.lo;have y:=o.room;have I:=o.n;have C:l=zaW c d++r:=by rw[o.e,zdo]
  have u:∀(j b:Nat) (a:Int) (x:List UInt8),j<(zaW c d).length->j<=b->hexV c<=a->zbb b ((zaW c d++x).take j) a=.inl 7:=by
   intro j b a x B q m;have e:=zmD c d x a o.dig o.lo o.hi o.n m j (by omega);rw[zdo]at e;cases b with
   |zero=>rfl
   |succ g=>rw[zdC (by rw[e];decide),e]
  rw[C,zb1 f c d r room o.dig o.lo o.hi o.n o.room]at h;rw[C]
  by_cases s:hexV c=0
  ·rw[Qi s]at h
   cases h;refine⟨by rw[Qa];omega,by omega,by rw[QR];omega,?_,?_⟩
   ·intro x b a q m
    rw[QR]at m;rw[XJ,show b=b-1+1 by omega,zb1 (b-1) c d x a o.dig o.lo o.hi o.n (by omega),Qi s]
   ·intro j b a B q m
    rw[QR]at m;exact u j b a r B q (by omega)
  ·rw[Qe s]at h
   cases i:zbb f r (room-hexV c)with
   |inl e=>rw[i]at h;cases h
   |inr p=>
    obtain⟨w,z⟩:=p;rw[i]at h;cases h;obtain⟨N,K,L,H,F⟩:=ih r _ w z i;have v:(d++w).length=d.length+w.length:=Qa;rw[Qa,v];refine⟨by omega,by omega,by omega,?_,?_⟩
    ·intro x b a q m
     rw[Z2,QC (by omega),show (zaW c d).length+z-(zaW c d).length=z by omega,QH,show b=b-1+1 by omega,
      zb1 (b-1) c d _ a o.dig o.lo o.hi o.n (by omega),Qe s,H x (b-1) _ (by omega) (by omega)]
     rfl
    ·intro j b a B q m
     by_cases A:j<(zaW c d).length
     ·exact u j b a r A q (by omega)
     ·rw[Z2,QC (by omega),show b=b-1+1 by omega,
       zb1 (b-1) c d _ a o.dig o.lo o.hi o.n (by omega),Qe s,F _ (b-1) _ (by omega) (by omega) (by omega)]
      rfl
theorem zoL:∀(f g:Nat) (l:List UInt8) (room:Int),l.length<=f->l.length<=g->zbb f l room=zbb g l room:=by
 intro f
 induction f with
 |zero=>
  intro g l room c i;cases g with
  |zero=>rfl
  |succ g=>rw[QA (by omega:l.length=0),zdC (by rw[zeD];decide)];rfl
 |succ f ih=>
  intro g l room c i;cases g with
  |zero=>rw[QA (by omega:l.length=0),zdC (by rw[zeD];decide)];rfl
  |succ g=>
   by_cases b:(zam l room).e≠0
   ·rw[zdC b,zdC b]
   obtain⟨a,d,r,o⟩:=zeO (Z6.1 b);have j:=zeK a d;have h:l=zaW a d++r:=by rw[o.e,zdo]
   rw[h,zb1 f a d r room o.dig o.lo o.hi o.n o.room,zb1 g a d r room o.dig o.lo o.hi o.n o.room];rw[h,Qa]at c i;rw[ih g r _ (by omega) (by omega)]
def zbn(l:List UInt8)(room:Int):Told:=zbb l.length l room
theorem ziU(l:List UInt8)(room:Int)(h:(zam l room).e≠0):zbn l room=.inl (zam l room).e:=by
 unfold zbn;cases hl:l.length with
 |zero=>rw[QA hl];rfl
 |succ n=>exact zdC h
theorem zoA(l:List UInt8)(room:Int)(h:(zam l room).e=0)(a:(zam l room).n=0):zbn l room=.inr ([],(zam l room).c):=by
 unfold zbn;cases hl:l.length with
 |zero=>rw[QA hl,zeD]at h;exact absurd h (by decide)
 |succ n=>rw[zbb,Qe (by rw[h];decide),Qi a]
theorem zgU(l:List UInt8)(room:Int)(h:(zam l room).e=0)(b:(zam l room).n≠0):
 zbn l room=preT (zam l room).d (zam l room).c (zbn (l.drop (zam l room).c) (room-(zam l room).n)):=by
 unfold zbn;cases hl:l.length with
 |zero=>rw[QA hl,zeD]at h;exact absurd h (by decide)
 |succ n=>
  obtain⟨a,d,r,o⟩:=zeO h;have e:=zdv a d r room o.dig o.lo o.hi o.n o.room;rw[<-o.e]at e;have f:1<=(zam l room).c:=by rw[e];show 1<=a.length+2+d.length+2;omega
  rw[zbb,Qe (by rw[h];decide),Qe b];rw[zoL n ((l.drop (zam l room).c).length) _ _ (by rw[QF];omega) (Qd _)]
theorem zud(a b:List UInt8)(c k:Nat)(x:Told):preT a c (preT b k x)=preT (a++b) (c+k) x:=by
 cases x with
 |inl e=>rfl
 |inr p=>obtain⟨t,n⟩:=p;simp[preT,Zh]
theorem zlv{l:List UInt8}{room:Int}(h:(zam l room).e=0):(zam l room).c<=l.length/\1<=(zam l room).c/\((zam l room).d.length:Int)=(zam l room).n/\(zam l room).n<=room:=by
 obtain⟨a,d,r,o⟩:=zeO h;have e:=zdv a d r room o.dig o.lo o.hi o.n o.room;rw[<-o.e]at e;rw[e];refine⟨?_,by show 1<=a.length+2+d.length+2;omega,o.n,o.room⟩;rw[o.e,zdo,Qa,zeK];show a.length+2+d.length+2<=_
 omega
theorem zlr(l:List UInt8)(room:Int)(t:List UInt8)(k:Nat)(h:zbn l room=.inr (t,k)):k<=l.length/\1<=k/\(t.length:Int)<=room:=
 ⟨(zf5 _ l room t k h).1,(zf5 _ l room t k h).2.1,(zf5 _ l room t k h).2.2.1⟩
