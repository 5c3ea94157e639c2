/- Lemmas for the last texts. -/
import Derived.Test.YtnnokglddolglaaGreatDoorM34
set_option maxHeartbeats 6400000
set_option maxRecDepth 100000
namespace Go.Proofs.YtnnokglddolglaaGreatDoor
open Go.RowKit Go.Proofs.Tryz
section
variable {P:Program} {w:World}
theorem zmD(base:Nat)(t F e:TypeId)(i:TypeInfo)(z:Value)(size o:Nat)(G:P.underlying t=some (.slice e))(I:P.info? e=some i)(L:i.zero=some z)
 (q:i.size=size) (C:i.bytes=o)
 (v:Value) (n:Nat) (xs:List Value) (d:w.ownsRow base e size v n xs) (Q:0<n)
 (a:Addr) (m c:Nat) (b:List Value) (hl:b.length=m*size) (l:∀j u,b[j]? = some u->w.cell? (a.add j)=some u) (h1:∀u∈b,u.oneCell'=true)
 (B:n+m<=maxLen) (p:(n+m)*o<=140737488355328) {v':Value} {w':World} (H:(Builtin.append_ #[t,t] F #[v,.slice (some a) m c]).run P w=.ok v' w'):
 ∀k,v'.ownBlock=some k->v.ownBlock=some k\/w.heap.size<=k:=by
 subst q;subst C;have y:n+m<=9223372036854775807:=by simp only[maxLen]at B;omega
 rcases d.2 with ⟨rfl,rfl⟩|⟨g,cap,s,rfl,N,K,O,J,E,D⟩
 ·omega
 ·by_cases h:n+m<=cap
  ·have x:n*i.size+b.length<=s.size:=by rw[hl,E,<-Nat.add_mul];exact Xs _ h
   have f:=run_append_room (P:=P) w t F e i G I g n cap s K a m c b hl l h1 h x;rw[H]at f;injection f with h2 _
   subst h2;exact λk A=>.inl A
  ·have r:∀j u,xs[j]? = some u->w.cell? ((⟨g,0,none⟩:Addr).add j)=some u:=d.cells (g:=g) rfl
   have f:=run_append_grow (P:=P) w t F e i z G I L ⟨g,0,none⟩ n cap xs d.1 r a m c b hl l (by omega) (by omega) (growslice_fits (by omega) p);rw[H]at f;injection f with h2 _
   subst h2;intro k A;simp only[Value.ownBlock,Option.some.injEq]at A;exact .inr (by omega)
end
section
variable {ops:Array Oper} {rest:List Oper} {o:Oper} {a:Act} {Q:Exit->Act->World->Prop} {w:World}
theorem zgX(m:o.guard=none)(s x:Operand)(E:o.op=.call {callee:=.builtin .append,args:=#[s,x],argTypes:=#[125,125]})
 (base:Nat) (v:Value) (l:List ByteArray) (G:a.eval s=v) (e:OwnS w base v l) (B:0<l.length) (n:base<=w.heap.size)
 (new:ByteArray) (t:Nat) (r:w.heap.size=t) (c:Nat) (H:a.eval x=.slice t 1 c)
 (j:l.length<=4194304)
 (h:∀v' w',OwnS w' base v' (l++[new])->w.grownBy w' v.ownBlock->(∀k,v'.ownBlock=some k->v.ownBlock=some k\/w.heap.size<=k)->wpList prog ops Q rest (a.put o.dst v') w'):
 wpList prog ops Q (o::rest) a (w.alloc (.cells #[.string new] 9)):=by
 subst r;obtain⟨y,A,f,g,i⟩:=ZG zoz;refine Xe m λK D=>?_
 have b:=World.ownsRow.alloc e (.cells #[.string new] 9);have d:=zd2 w [.string new] 9
 obtain⟨v',w',z,h2,F,_⟩:=run_append_own (P:=prog) (w.alloc (.cells #[.string new] 9)) base 125 o.type 9 y (.string ByteArray.empty) 1 16 underlying125 A f g i rfl (by decide) v l.length (l.map Value.string) b
  ⟨w.heap.size,0,none⟩ 1 c [.string new] rfl d (λu q=>by rw[Qy.1 q];rfl) (by unfold maxLen;omega) (by omega) (by simp;omega)
 have p:=zmD (P:=prog) (w:=w.alloc (.cells #[.string new] 9)) base 125 o.type 9 y (.string ByteArray.empty) 1 16 underlying125 A f g i v l.length (l.map Value.string) b B
  ⟨w.heap.size,0,none⟩ 1 c [.string new] rfl d (λu q=>by rw[Qy.1 q];rfl) (by unfold maxLen;omega) (by omega) z
 unfold Oper.wp execOp;simp only[E,resolve,invoke,builtin,Xf,Sem.run_pure,Zx,List.map_toArray,QW,Zu,G,H,z];refine D _ _ (h v' w' (by unfold OwnS;rw[Qa,Q2];exact h2) (zax (World.grownBy_alloc w _ _) F) λk C=>?_)
 rcases p k C with h|h
 ·exact .inl h
 ·exact .inr (by rw[Qp]at h;omega)
end
def zhB:ByteArray:=ByteArray.mk #[99,111,110,110,101,99,116,105,111,110]
def zeT:List ByteArray:=[zhB,ByteArray.mk #[107,101,101,112,45,97,108,105,118,101],ByteArray.mk #[112,114,111,120,121,45,99,111,110,110,101,99,116,105,111,110],ByteArray.mk #[116,101],
 ByteArray.mk #[116,114,97,105,108,101,114],ByteArray.mk #[116,114,97,110,115,102,101,114,45,101,110,99,111,100,105,110,103],ByteArray.mk #[117,112,103,114,97,100,101],ByteArray.mk #[99,111,110,116,101,110,116,45,108,101,110,103,116,104]]
def zau(v:ByteArray):List ByteArray:=(splL 44 v.data.toList).map λx=>bs (zay (zaG x))
def zbK(a:List zal):List ByteArray:=zeT++(getL a zhB).flatMap zau
def lowN(f:zal):ByteArray:=bs (zay f.1.data.toList)
def zgn(a:List zal)(f:zal):Bool:=!(Lib.containsS (zbK a) (lowN f))
def zbj(a:List zal):List zal:=a.filter (zgn a)
structure zgx(fs:List zal):Prop where
 n:fs.length<=4194304
 sz:∀f∈fs,f.1.size<=4194304/\f.2.size<=4194304
 drop:(zbK fs).length<=4194304
theorem zqj(a:List zal)(k:Nat)(h:k<a.length):(a.take (k+1)).filter (zgn a)=(a.take k).filter (zgn a)++if Lib.containsS (zbK a) (lowN a[k])=true then []else [a[k]]:=by
 rw[Qs h,ZW];unfold zgn
 by_cases c:Lib.containsS (zbK a) (lowN a[k])=true <;> simp[c]
theorem zuW(a:List zal)(k:Nat):((a.take k).filter (zgn a)).length<=k:=Ql (Zn _ _) (ZS _ _)
theorem znx(cs:List ByteArray)(k:Nat)(h:k<cs.length):(cs.take (k+1)).flatMap zau=(cs.take k).flatMap zau++zau cs[k]:=by
 rw[Qs h,Q6];simp
theorem zsU(cs:List ByteArray)(k:Nat):((cs.take k).flatMap zau).length<=(cs.flatMap zau).length:=by
 have:cs.flatMap zau=(cs.take k).flatMap zau++(cs.drop k).flatMap zau:=by rw[<-Q6,Zp]
 rw[this,Qa];omega
def zhJ(h:za3)(w:World)(e:Ending)(w':World):Prop:=
 ∃A c,e=jC (.agg #[.string h.m,.string h.t,.slice A (zbj h.fs).length c])/\OwnV w' w.heap.size (.slice A (zbj h.fs).length c) (zbj h.fs)/\w w'
structure DropSt(w2:World)(lit:Nat)(w:World)(v:Value)(acc:List ByteArray):Prop where
 own:OwnS w lit v acc
 far:∀q,v.ownBlock=some q->q=lit\/w2.heap.size<=q
 grown:w2.grownBy w (some lit)
def zpS(cs:List ByteArray)(w2:World)(lit:Nat)(v i:Value)(wr:World):Prop:=
 ∃k:Nat,k<=cs.length/\i=jA k/\DropSt w2 lit wr v (zeT++(cs.take k).flatMap zau)
def zwz(a qs:List ByteArray)(c:List ByteArray)(w2:World)(lit b:Nat)(v i:Value)(wr:World):Prop:=
 ∃j:Nat,j<=qs.length/\i=jA j/\DropSt w2 lit wr v (a++qs.take j)/\(∀q,v.ownBlock=some q->q≠b)/\wr.heap[b]? = some (.cells (c.map Value.string).toArray 9 (0,0))
theorem DropSt.below{w2:World}{lit:Nat}{w w':World}{v:Value}{a:List ByteArray}(h:DropSt w2 lit w v a)(hb:w w'):DropSt w2 lit w' v a:=
 ⟨h.own.below hb,h.far,zjq h.grown hb⟩
theorem DropSt.push{w2:World}{lit:Nat}{w w':World}{v v':Value}{a:List ByteArray}{x:ByteArray}(h:DropSt w2 lit w v a)(j:OwnS w' lit v' (a++[x]))(c:w.grownBy w' v.ownBlock)(g:∀k,v'.ownBlock=some k->v.ownBlock=some k\/w.heap.size<=k):
 DropSt w2 lit w' v' (a++[x]):=
 ⟨j,λq f=>(g q f).elim (h.far q) (λh2=>.inr (Ql h.grown.size h2)),⟨c.os.trans h.grown.os,c.tape.trans h.grown.tape,c.output.trans h.grown.output,Ql h.grown.size c.size,λi d b=>
  (c.block i (Qv d h.grown.size) (λe=>(h.far i e.symm).elim (λh2=>b (by rw[h2])) (λh2=>by omega))).trans (h.grown.block i d b)⟩⟩
theorem OwnS.sl2{w:World}{b n c:Nat}{A:Option Addr}{l:List ByteArray}(h:OwnS w b (.slice A n c) l):n=l.length/\Sl w w.heap.size 1 A l.length (l.map Value.string):=by
 obtain⟨i,j,e,f⟩:=h.form;injection e with a d g
 subst a;subst d
 exact⟨rfl,f⟩
def zy9(a:List zal)(m t:ByteArray)(H:Nat)(b:World)(i:Value)(wr:World):Prop:=
 ∃k v,k<=a.length/\i=jA k/\HdAt H m t v wr/\OwnV wr (H+1) v ((a.take k).filter (zgn a))/\Below H b wr
theorem ztu(h:za3)(A:Option Addr)(c:Nat)(w:World)(hf:Sl w w.heap.size 2 A h.fs.length (h.fs.flatMap zaA))(E:zgx h.fs)(hd:LibOk w):
 Calls prog 57 #[.agg #[.string h.m,.string h.t,.slice A h.fs.length c]] w (zhJ h w):=by
 obtain⟨m,t,a⟩:=h;dsimp only at *;obtain⟨l,H⟩:∃l,(w.alloc (.cells #[.string m,.string t,.slice A a.length c] 27)).alloc (.cells #[.string (.mk #[]),.string (.mk #[]),jD 0 0] 27)=l:=⟨_,rfl⟩
 have hF:w l:=by rw[<-H];exact WaL.alloc (by simp) _
 have gX:l.heap.size=w.heap.size+2:=by rw[<-H];simp
 have ha:HdAt w.heap.size m t (.slice A a.length c) l:=by
  unfold HdAt;rw[<-H];exact(Qr _ _ _ (by simp)).trans (Qt w _)
 have hr:ResAt (w.heap.size+1) l:=by
  unfold ResAt;rw[<-H];have:=Qt (w.alloc (.cells #[.string m,.string t,.slice A a.length c] 27)) (.cells #[.string (.mk #[]),.string (.mk #[]),jD 0 0] 27);rw[Qp]at this;exact this
 have gd:∀W,l W->HdAt w.heap.size m t (.slice A a.length c) W/\ResAt (w.heap.size+1) W/\w W/\Sl W W.heap.size 2 A a.length (a.flatMap zaA)/\LibOk W:=λW hb=>by
  have h2:=hF.trans (hb.mono hF.size);exact⟨(hb.block _ (by omega)).trans ha,hr.below hb (by omega),h2,(hf.below h2).more h2.size,hd.below h2⟩
 have h9:=hIx gd;have gt:=hIx H;have gG:w.heap.size<l.heap.size:=by omega
 have k0:w.heap.size+1<l.heap.size:=by omega
 have gl:=hIx E;have hn:=E.n;have gF:=zfo a zhB
 have ho:∀x∈getL a zhB,x.size<=4194304:=λx hx=>by
  obtain⟨f,hf,rfl⟩:=QR.1 hx;exact(E.sz f (ZE.1 hf).1).2
 have hu:=hIx ho;have gi:Hid ((zeT++(getL a zhB).flatMap zau).length<=4194304):=E.drop;have g9:Hid (zbK a=zeT++(getL a zhB).flatMap zau):=rfl
 have hw:Hid (∀W,l W->Calls prog 52 #[.agg #[.string m,.string t,.slice A a.length c],.string zhB] W (zgk (getL a zhB) W)):=λW h=>
  zhF m t A a.length c a zhB W rfl (h9.out W h).2.2.2.1 (λf hf=>by have:=(E.sz f hf).1;unfold maxLen;omega) (by decide) (by omega)
 generalize gM:getL a zhB=cs at *;have ⟨a0,a1,a2⟩:=ha.cells;clear H hF ha hr gd hf E ho hd gM gX;have gE:Sl (l.alloc (.cells (zeT.map Value.string).toArray 9)) (l.alloc (.cells (zeT.map Value.string).toArray 9)).heap.size 1 (some ⟨l.heap.size,0,none⟩) 8 (zeT.map Value.string):=Sl.lit rfl (by simp) rfl rfl;have g6:OwnS (l.alloc (.cells (zeT.map Value.string).toArray 9)) l.heap.size (.slice (some ⟨l.heap.size,0,none⟩) 8 8) zeT:=XG l (zeT.map Value.string).toArray 8 (Qc _) (by decide) rfl;have gs:l (l.alloc (.cells (zeT.map Value.string).toArray 9)):=WaL;have gz:=hIx (hw.out _ gs);have gg:=hIx g6;clear gE g6 gs hw
 go_in
 go_upto_region 1 with fail
 rw[gt.out];go_wp2_with fail;refine gz.out.mono ?_;rintro e w2 ⟨v2,rfl,hA,O⟩;obtain⟨A2,d2,rfl,g5⟩:=hA.form;have Y:=gg.out.below O;have O:=zaI O (Qc _);have hP:l.heap.size<w2.heap.size:=(Y.lt _ rfl).2
 have gq:Hid (∀W,w2.grownBy W (some l.heap.size)->∀k (h:k<cs.length),∃b off,A2=some ⟨b,off,none⟩/\W.cell? ⟨b,off+k,none⟩=some (.string cs[k])):=λW hg k h=>by
  obtain⟨b,off,rfl,kc,hc⟩:=g5.src (by rw[Qh];omega);have hl:=hA.lt b rfl;simp at hl;refine⟨b,off,rfl,hg.cell ?_ (λe=>by injection e with e;have:b=l.heap.size:=e;omega)⟩;rw[hc k (by rw[Qh];exact h),Zm]
 have gj:Hid (∀W,w2.grownBy W (some l.heap.size)->l W):=λW hg=>O.grown hg (QX hP) (λk hk=>by injection hk with hk;omega)
 have gA:Hid (DropSt w2 l.heap.size w2 (.slice (some ⟨l.heap.size,0,none⟩) 8 8) zeT):=⟨Y,λq y=>.inl (by injection y with y;exact y.symm),⟨rfl,rfl,rfl,Qc _,λ_ _ _=>rfl⟩⟩
 clear Y O g5 hA gz gg gt;go_wp2
 go_loopw [3,15] (λv i wr=>zpS cs w2 l.heap.size v i wr) (λ_ i _=>cs.length-(intOf i).toNat)
 case atStart=>exact⟨0,Qm _,rfl,by simpa using gA.out⟩
 case round=>
  obtain⟨k,hk,rfl,hD⟩:=hrel;have J:=gj.out wr hD.grown;have hG:=gi.out;obtain⟨Ao,co,rfl,_⟩:=hD.own.form
  by_cases C:k<cs.length
  ·have gD:decide ((k:Int)<(cs.length:Int))=true:=by simp;omega
   have i7:IntKind.i64.wrap ((k:Int)+1)=(k:Int)+1:=Qx _ (by omega);obtain⟨b,off,rfl,x0⟩:=gq.out wr hD.grown k C;obtain⟨m0,ge⟩:=(h9.out wr J).2.2.2.2;have ki:=hu.out cs[k] (Qz C);have hJ:=hIx (znx cs k C);have hy:=zsU cs (k+1);rw[hJ.out,Qa]at hy
   have hi:Hid ((zeT++(cs.take k).flatMap zau).length+(zau cs[k]).length<=4194304):=by
    unfold Hid;rw[Qa]at hG ⊢;omega
   generalize cs[k]=X at *;have T:=strings_Split X ⟨#[44]⟩ m0 wr (by omega) ge (by decide);have h7:=zbZ 44 X;have h8:=Xh ⟨#[44]⟩ (by decide) 0 _ X rfl;generalize Lib.splitB ⟨#[44]⟩ 0 (Lib.countB X ⟨#[44]⟩) X=z at T h7 h8;generalize Lib.countB X ⟨#[44]⟩=n at T h8;rw[<-h8]at T
   have gx:Hid (zau X=z.map λp=>bs (zay (zaG p.data.toList))):=by
    unfold Hid zau;rw[<-h7,Xr]
    rfl
   have gH:Hid (∀p∈z,p.size<=4194304):=λp hp=>by
    have hm:p.data.toList∈splL 44 X.data.toList:=by rw[<-h7];exact QR.2 ⟨p,hp,rfl⟩
    have h1:=zbV 44 X.data.toList _ hm;have h2:X.data.toList.length=X.size:=by simp
    have h3:p.data.toList.length=p.size:=by simp
    omega
   have g4:=hIx T;have HD:=hIx hD;clear T h7 h8 hD J ge hy hG;generalize hU:zeT++(cs.take k).flatMap zau=d at *;have h4:Hid (zeT++(cs.take (k+1)).flatMap zau=d++zau X):=by unfold Hid;rw[hJ.out,<-hU,QG]
   have k8:0<d.length:=by rw[<-hU,Qa];show 0<8+_;omega
   have gk:=hi.out;rw[gx.out]at h4 gk;clear hU hJ gx hi;generalize hS:(z.map λp=>bs (zay (zaG p.data.toList)))=qs at *;have gY:qs.length=z.length:=by rw[<-hS,Qh]
   have gR:Hid (∀j (h:j<z.length) (h2:j<qs.length),bs (zay (zaG z[j].data.toList))=qs[j]):=λj h h2=>by simp[<-hS]
   clear hS;go_wp2_with fail;refine g4.out.mono ?_;rintro e w3 ⟨rfl,hL⟩;have P:wr w3:=by rw[hL];exact WaL
   have gc:w3.heap[wr.heap.size]? = some (.cells (z.map Value.string).toArray 9 (0,0)):=by rw[hL];exact Qt wr _
   have k3:Hid (zwz d qs z w2 l.heap.size wr.heap.size (.slice Ao d.length co) (jA 0) w3):=⟨0,Qm _,rfl,by simpa using HD.out.below P,λq y=>by have:=(HD.out.own.lt q y).2;omega,gc⟩
   clear hL P gc g4;obtain⟨wo,rfl⟩:∃wo:World,wo=wr:=⟨_,rfl⟩
   go_wp2
   go_loopw [3,22] (λv i wr=>zwz d qs z w2 l.heap.size wo.heap.size v i wr) (λ_ i _=>qs.length-(intOf i).toNat)
   case atStart=>exact k3.out
   case round=>
    obtain⟨j,hj,rfl,F,Z,r⟩:=hrel;obtain⟨Ai,ci,rfl,_⟩:=F.own.form
    have ga:wo.heap.size<wr.heap.size:=by
     rw[QV]at r;exact r.1
    have gQ:(d++qs.take j).length<=4194304:=by rw[Qa];have:=ZS j qs;omega
    have k6:0<(d++qs.take j).length:=by rw[Qa];omega
    by_cases hz:j<qs.length
    ·have dj:decide ((j:Int)<(z.length:Int))=true:=by simp;omega
     have i9:IntKind.i64.wrap ((j:Int)+1)=(j:Int)+1:=Qx _ (by omega);have hR:j<z.length:=by omega
     have y0:wr.cell? ⟨wo.heap.size,j,none⟩=some (.string z[j]):=by
      rw[Qf wr _ j _ _ _ r];simp[hR]
     have kg:=gH.out z[j] (Qz hR);have y:=gR.out j hR hz;have gC:Hid (d++qs.take (j+1)=d++qs.take j++[bs (zay (zaG z[j].data.toList))]):=by unfold Hid;rw[y,Qs hz,QG]
     generalize z[j]=p at *;have gN:p.data.toList.length=p.size:=by simp
     have gZ:=zfs p.data.toList;have gV:Hid (∀W,Calls prog 80 #[.string p] W λe w'=>e=jC (.string (bs (zaG p.data.toList)))/\w'=W):=λW=>zdE p W (by unfold maxLen;omega)
     have hI:Hid (∀W,Calls prog 64 #[.string (bs (zaG p.data.toList))] W (zbJ (bs (zay (zaG p.data.toList))) W)):=λW=>by
      have:=zbd (bs (zaG p.data.toList)) W (by rw[zae];unfold maxLen;omega);rw[zah]at this;exact this
     generalize bs (zay (zaG p.data.toList))=Q at *;generalize bs (zaG p.data.toList)=TQ at *;generalize d++qs.take j=g3 at *;have g0:=hIx F;have gm:=hIx r;have hs:=hIx Z;clear F r Z y gN gZ;go_wp2_with fail;refine(gV.out wr).mono ?_;rintro e w4 ⟨rfl,g2⟩;rw[g2];clear g2;go_wp2_with fail;refine(hI.out wr).mono ?_;rintro e w5 ⟨rfl,hV⟩;have hZ:=g0.out.below hV;have gB:=hZ.own;have h5:l.heap.size<=w5.heap.size:=Ql (QX hP) hZ.grown.size;have gS:=(hV.block _ ga).trans gm.out;have k5:wo.heap.size<w5.heap.size:=Qv ga hV.size;go_wp2_with (at_builtin;refine zgX rfl (.tmp 26) (.tmp 30) rfl l.heap.size (.slice Ai g3.length ci) g3 rfl (by exact gB) (by exact k6) (by exact h5) Q w5.heap.size rfl 1 rfl (by exact gQ) ?_;intro v6 w6 V gr g1);exact⟨⟨j+1,by omega,rfl,by rw[gC.out];exact hZ.push V gr g1,λq y=>(g1 q y).elim (hs.out q) (λh=>by omega),(gr.block _ k5 (λe=>hs.out _ e.symm rfl)).trans gS⟩,by dsimp only[intOf];omega⟩
    ·obtain rfl:j=qs.length:=by omega
     have dj:decide ((qs.length:Int)<(z.length:Int))=false:=by rw[gY];simp
     rw[QZ]at F;have g0:=hIx F;rw[QZ];clear F r Z;go_wp2;exact⟨⟨k+1,by omega,rfl,by rw[h4.out];exact g0.out⟩,by dsimp only[intOf];omega⟩
  ·obtain rfl:k=cs.length:=by omega
   have gD:decide ((cs.length:Int)<(cs.length:Int))=false:=by simp
   rw[QZ]at hD ⊢;rw[<-g9.out]at hD ⊢;have ka:(zbK a).length<=4194304:=gl.out.drop;obtain⟨_,he⟩:=hD.own.sl2;have gP:Hid (∀W,wr W->Sl W W.heap.size 1 Ao (zbK a).length ((zbK a).map Value.string)):=λW h=>(he.below h).more h.size
   have ⟨hh,_,_,_,_⟩:=h9.out wr J;have ⟨b0,b1,b2⟩:=hh.cells;have hB:l.heap.size<=wr.heap.size:=J.size;have kb:w.heap.size<wr.heap.size:=Qv gG hB;have k9:w.heap.size+1<wr.heap.size:=Qv k0 hB;have gf:=hIx J;have gJ:=λk h=>hIx (zqj a k h)
   have g7:Hid (∀f∈a,∀W,Calls prog 64 #[.string f.1] W (zbJ (lowN f) W)):=λf hf W=>zbd f.1 W (by have:=(gl.out.sz f hf).1;unfold maxLen;omega)
   generalize ke:zbK a=D at *;clear hD he hh J gj gq hu gi g9 gA hG gF hP;obtain⟨u,rfl⟩:∃u:World,u=wr:=⟨_,rfl⟩
   go_wp2
   go_loopw [42] (λi wr=>zy9 a m t u.heap.size u i wr) (λi _=>a.length-(intOf i).toNat)
   case atStart=>exact⟨0,jD 0 0,Qm _,rfl,Qt _ _,OwnV.nil _ _,WaL⟩
   case round=>
    obtain⟨k,v,hk,rfl,hH,hO,hb⟩:=hrel;have hT:=gf.out.trans (hb.mono hB);have ⟨_,o,hN,hE,_⟩:=h9.out wr hT;have hK:=gP.out wr hb
    have hv:u.heap.size<wr.heap.size:=by
     have:=hH;unfold HdAt at this;rw[QV]at this;exact this.1
    have gh:=zuW a k
    by_cases C:k<a.length
    ·have k1:decide ((k:Int)<(a.length:Int))=true:=by simp;omega
     have i7:IntKind.i64.wrap ((k:Int)+1)=(k:Int)+1:=Qx _ (by omega);obtain⟨b',k7,rfl,_,x0,x1⟩:=zjR hE k C;have HT:=gJ k C;have hI:=hIx (g7.out a[k] (Qz C));have B:wr (wr.alloc (.cells #[.string a[k].1,.string a[k].2] 133)):=WaL;have gp:=hO.below B;have g8:=(B.block _ hv).trans hH;have P:=hb.trans (B.mono hb.size);have ht:=(hK.below B).more B.size;have gT:Hid (∀W,Below (wr.alloc (.cells #[.string a[k].1,.string a[k].2] 133)).heap.size (wr.alloc (.cells #[.string a[k].1,.string a[k].2] 133)) W->W.cell? ⟨wr.heap.size,0,none⟩=some (.string a[k].1)/\W.cell? ⟨wr.heap.size,1,none⟩=some (.string a[k].2)):=λW h=>⟨zao h 0,zao h 1⟩
     generalize a[k]=X at *;generalize hQ:lowN X=Q at *;obtain⟨n1,n2⟩:=X;dsimp only at *;have gv:u.heap.size<(wr.alloc (.cells #[.string n1,.string n2] 133)).heap.size:=Qv hv B.size;have k2:=hIx gp;have gK:=hIx g8;have gn:=hIx P;have gu:=hIx ht;clear gp g8 P ht B hO hH hb hT o hN hE hK b0 b1 b2;go_wp2_with fail;refine(hI.out _).mono ?_;rintro e w4 ⟨rfl,s⟩;have U:HdAt u.heap.size m t v w4:=(s.block _ gv).trans gK.out;have G:=k2.out.below s;have h6:=gn.out.trans (s.mono gn.out.size);have ⟨t0,t1⟩:=gT.out w4 s;have I:=zkD co Q ((gu.out.below s).more s.size) (by omega);have gb:u.heap.size<w4.heap.size:=Qv gv s.size;cases y:Lib.containsS D Q with
     |true=>
      have hC:Hid ((a.take (k+1)).filter (zgn a)=(a.take k).filter (zgn a)):=by unfold Hid;rw[HT.out,Qg y,QE]
      rw[y]at I;have hY:=hIx I;have HN:=hIx (And.intro U (And.intro G h6));clear y I U G h6 s t0 t1;go_wp2_with (go_at_call 90;(with_reducible refine hY.out.mono ?_);rintro e w5 ⟨rfl,rfl⟩);exact⟨⟨k+1,v,by omega,rfl,HN.out.1,by rw[hC.out];exact HN.out.2.1,HN.out.2.2⟩,by dsimp only[intOf];omega⟩
     |false=>
      have hC:Hid ((a.take (k+1)).filter (zgn a)=(a.take k).filter (zgn a)++[(n1,n2)]):=by unfold Hid;rw[HT.out,Qe (by rw[y];decide)]
      rw[y]at I;have hY:=hIx I;obtain⟨S,N,rfl,_⟩:=G.form;have ⟨h0,h1,h2⟩:=U.cells;have k4:Hid ((Value.slice S ((a.take k).filter (zgn a)).length N).ownBlock≠some u.heap.size):=λe=>by have:=(QK G _ e).1;omega
      generalize (a.take k).filter (zgn a)=d at *;have gO:=hIx G;have gI:=hIx U;have gW:=hIx h6;have h5:u.heap.size+1<=w4.heap.size:=gb;clear y I U G h6 s
      go_wp2_with (first
       |(go_at_call 90;(with_reducible refine hY.out.mono ?_);rintro e w5 ⟨rfl,rfl⟩)
       |(at_builtin;refine ziS rfl (.tmp 53) (.tmp 55) rfl (u.heap.size+1) (.slice S d.length N) d rfl (by exact gO.out) (by exact h5) _ (n1,n2) rfl w5.heap.size rfl 1 rfl (by omega) ?_;intro v6 w6 V gU gL kd;have hX:HdAt u.heap.size m t (.slice S d.length N) w6:=(gL u.heap.size h5 k4.out).trans gI.out;obtain⟨A6,c6,rfl,_⟩:=V.form;have kh:=hX.free 2;have kf:=hX.cells.2.2))
      have gw:=hX.put (.slice A6 (d++[(n1,n2)]).length c6);have gy:=(gW.out.trans (gU.mono (Zc _))).setCell (p:=⟨u.heap.size,2,none⟩) (Qc _) (.slice A6 (d++[(n1,n2)]).length c6)
      have L:OwnV (w6.setCell ⟨u.heap.size,2,none⟩ (.slice A6 (d++[(n1,n2)]).length c6)) (u.heap.size+1) (.slice A6 (d++[(n1,n2)]).length c6) (d++[(n1,n2)]):=by
       refine V.keep λg hg=>?_
       have K:g≠u.heap.size:=λe=>by have:=(QK V g hg).1;omega
       rw[Qk _ _ _ _ K]
      have hW:(d++[(n1,n2)]).length=d.length+1:=by rw[Qa];rfl
      rw[hW]at gw gy L;exact⟨⟨k+1,_,by omega,rfl,gw,by rw[hC.out];exact L,gy⟩,by dsimp only[intOf];omega⟩
    ·obtain rfl:k=a.length:=by omega
     have k1:decide ((a.length:Int)<(a.length:Int))=false:=by simp
     rw[QZ]at hO gh;have e1:a.filter (zgn a)=zbj a:=rfl;rw[e1]at hO gh;obtain⟨S,N,rfl,_⟩:=hO.form;have ⟨h0,h1,h2⟩:=hH.cells;have ⟨r0,r1,r2⟩:=o.cells;have f0:=o.free 0;have f1:=o.free 1;have f2:=o.free 2
     have L:OwnV (((wr.setCell (w.heap.size+1:) (.string m)).setCell ⟨w.heap.size+1,1,none⟩ (.string t)).setCell ⟨w.heap.size+1,2,none⟩ (.slice S (zbj a).length N)) w.heap.size (.slice S (zbj a).length N) (zbj a):=by
      refine(hO.keep λg hg=>?_).low (by omega);have K:g≠w.heap.size+1:=λe=>by have:=(QK hO g hg).1;omega
      rw[Qk _ _ _ _ K,Qk _ _ _ _ K,Qk _ _ _ _ K]
     have HP:Hid (zhJ ⟨m,t,a⟩ w (jC (.agg #[.string m,.string t,.slice S (zbj a).length N])) (((wr.setCell (w.heap.size+1:) (.string m)).setCell ⟨w.heap.size+1,1,none⟩ (.string t)).setCell ⟨w.heap.size+1,2,none⟩ (.slice S (zbj a).length N))):=
      ⟨S,N,rfl,L,((hN.setCell (p:=⟨w.heap.size+1,0,none⟩) (Zc _) _).setCell (p:=⟨w.heap.size+1,1,none⟩) (Zc _) _).setCell (p:=⟨w.heap.size+1,2,none⟩) (Zc _) _⟩
     have tt:=zbA (.string m) (.string t) (.slice S (zbj a).length N) r0 r1 r2;have TT:=hIx tt;clear L hO hH hb hT o hN hE hK b0 b1 b2 tt;generalize zbj a=SF at *;go_wp2;exact Qi (v:=.agg #[.string m,.string t,.slice S SF.length N]) (by simp[results,results57,go_sem,TT.out.1,TT.out.2.1,TT.out.2.2]) rfl HP.out
def zar:jE->Int × Nat
 | []=>(7,0)
 |a::r=>if a=13 then (match r with | []=>(7,1)|b::_=>if b=10 then (0,2)else (4,1))else (4,0)
def digN:Nat->jE->Nat
 |0,_=>0
 |_+1,[]=>0
 |f+1,b::r=>if 0<=zaq b then digN f r+1 else 0
def hexV(l:jE):Int:=(numL 16 7 l).getD 0
structure zvB where
 n:Int
 e:Int
 c:Nat
 d:jE
def zaD(l:jE):zvB:=
 if digN 7 l=0 then ⟨0,if l.length=0 then 7 else 4,0,[]⟩
 else ⟨hexV (l.take (digN 7 l)),(zar (l.drop (digN 7 l))).1,digN 7 l+(zar (l.drop (digN 7 l))).2,[]⟩
def zaj(l:jE)(room:Int):zvB:=
 if (zaD l).e≠0 then ⟨0,(zaD l).e,(zaD l).c,[]⟩
 else if room<(zaD l).n then ⟨0,6,(zaD l).c,[]⟩
 else if (l.length:Int)-(zaD l).c<(zaD l).n then ⟨0,7,(zaD l).c,[]⟩
 else ⟨(zaD l).n,(zar (l.drop ((zaD l).c+(zaD l).n.toNat))).1,(zaD l).c+(zaD l).n.toNat+(zar (l.drop ((zaD l).c+(zaD l).n.toNat))).2,(l.drop (zaD l).c).take (zaD l).n.toNat⟩
abbrev Told:=Sum Int (jE × Nat)
def preT(d:jE)(c:Nat):Told->Told
 |.inl e=>.inl e
 |.inr (t,k)=>.inr (d++t,c+k)
def za7:Nat->jE->Int->Told
 |0,_,_=>.inl 7
 |f+1,l,room=>if (zaj l room).e≠0 then .inl (zaj l room).e else if (zaj l room).n=0 then .inr ([],(zaj l room).c)
  else preT (zaj l room).d (zaj l room).c (za7 f (l.drop (zaj l room).c) (room-(zaj l room).n))
theorem zrF{l:jE}(h:(zar l).1=0):∃r,l=13::10::r:=by
 unfold zar at h
 split at h
 ·exact absurd h (by decide)
 ·split at h
  ·split at h
   ·exact absurd h (by decide)
   ·split at h
    ·rename_i h1 _ _ _ h2;exact⟨_,by rw[h1,h2]⟩
    ·exact absurd h (by decide)
  ·exact absurd h (by decide)
theorem zlP(r:jE):zar (13::10::r)=(0,2):=rfl
def zdj(l:jE):Prop:=∀b∈l,0<=zaq b
theorem zto:∀(f:Nat) (l:jE),digN f l<=f/\digN f l<=l.length/\zdj (l.take (digN f l))
 |0,l=>⟨Qc _,Qm _,λb h=>by simp[digN]at h⟩
 |f+1,[]=>⟨Qm _,Qc _,λb h=>by simp at h⟩
 |f+1,b::r=>by
  obtain⟨h1,h2,c⟩:=zto f r;unfold digN
  split
  ·refine⟨by omega,by simp only[Qn];omega,λx a=>?_⟩
   rw[Xl,QI]at a
   rcases a with rfl|a
   ·assumption
   ·exact c x a
  ·exact⟨Qm _,Qm _,λx a=>by simp at a⟩
theorem zk2(r:jE)(c:r=[]\/∃q,r=13::q):∀(f:Nat) (a:jE),zdj a->a.length<=f->digN f (a++r)=a.length
 |0,a,_,hl=>by rw[QA (by omega:a.length=0)];rfl
 |f+1,[],_,_=>by
  rcases c with rfl|⟨q,rfl⟩
  ·rfl
  ·show digN (f+1) (13::q)=0
   unfold digN;rw[Qe (by decide)]
 |f+1,b::a,h,hl=>by
  rw[ZQ];unfold digN;rw[Qg (h b (Zg ..)),zk2 r c f a (λx d=>h x (Ze _ d)) (by simp only[Qn]at hl;omega)]
  rfl
structure zy8(l ds r:jE):Prop where
 e:l=ds++13::10::r
 dig:zdj ds
 lo:1<=ds.length
 hi:ds.length<=7
theorem zfp(a r:jE)(b:zdj a)(h1:1<=a.length)(c:a.length<=7):zaD (a++13::10::r)=⟨hexV a,0,a.length+2,[]⟩:=by
 unfold zaD;rw[zk2 _ (.inr ⟨_,rfl⟩) 7 a b c,Qe (by omega),XO,ZL,zlP]
theorem zsW{l:jE}(h:(zaD l).e=0):∃d r,zy8 l d r:=by
 unfold zaD at h;obtain⟨g,f,b⟩:=zto 7 l
 by_cases a:digN 7 l=0
 ·rw[Qg a]at h
  dsimp only at h
  split at h <;> exact absurd h (by decide)
 ·rw[Qe a]at h
  obtain⟨r,c⟩:=zrF h;refine⟨l.take (digN 7 l),r,?_,b,?_,?_⟩
  ·rw[<-c,Zp]
  ·rw[QJ];omega
  ·rw[QJ];omega
theorem ztb:(zaD []).e=7:=rfl
theorem zoC(a p:jE)(c:zdj a)(h1:1<=a.length)(d:a.length<=7)(b:p=[]\/p=[13]):(zaD (a++p)).e=7:=by
 unfold zaD;rw[zk2 p (by rcases b with rfl|rfl;exact .inl rfl;exact .inr ⟨[],rfl⟩) 7 a c d,Qe (by omega),ZL]
 rcases b with rfl|rfl <;> rfl
theorem znV(a r:jE)(d:zdj a)(h1:1<=a.length)(f:a.length<=7)(j:Nat)(h:j<a.length+2):(zaD ((a++13::10::r).take j)).e=7:=by
 by_cases g:j=0
 ·subst g;exact ztb
 by_cases c:j<=a.length
 ·rw[List.take_append_of_le_length c]
  have:=zoC (a.take j) [] (λb hb=>d b (Xd hb)) (by rw[QJ];omega) (by rw[QJ];omega) (.inl rfl)
  rwa[QE]at this
 ·rw[Z1,QF (by omega),show j-a.length=1 by omega]
  exact zoC a [13] d h1 f (.inr rfl)
theorem zwg(b:UInt8):-1<=zaq b/\zaq b<=15:=
 Zr (zcq (p:=λb=>decide (-1<=zaq b/\zaq b<=15)) (by decide+kernel) b)
theorem zin:∀(l:jE) (v w:Int),0<=v->zbr 16 l v=some w->0<=w/\w<(v+1)*16 ^ l.length
 | [],v,w,c,h=>by
  unfold zbr at h;have e:v=w:=QD h;subst e;rw[QS,Int.pow_zero];omega
 |b::l,v,w,c,h=>by
  unfold zbr at h
  split at h
  ·cases h
  ·have:=zin l _ w (by omega) h
   refine⟨this.1,?_⟩;rw[Qn,Int.pow_succ'];have a:(0:Int)<16 ^ l.length:=Int.pow_pos (by decide);have h2:(v*16+zaq b+1)*16 ^ l.length<=((v+1)*16)*16 ^ l.length:=Int.mul_le_mul_of_nonneg_right (by omega) (Int.le_of_lt a);rw[<-Int.mul_assoc];omega
theorem zjE:∀(l:jE) (v:Int),zdj l->∃w,zbr 16 l v=some w
 | [],v,_=>⟨v,rfl⟩
 |b::l,v,h=>by
  unfold zbr;have h1:=zwg b;have h2:=h b (Zg ..);rw[Qe (by omega)];exact zjE l _ (λx a=>h x (Ze _ a))
theorem zfP(l:jE):0<=hexV l/\hexV l<268435456:=by
 unfold hexV numL
 split
 ·exact⟨by decide,by decide⟩
 ·rename_i h
  cases b:zbr 16 l 0 with
  |none=>exact⟨by decide,by decide⟩
  |some w=>
   obtain⟨h1,h2⟩:=zin l 0 w (ZD _) b;refine⟨h1,?_⟩;have c:(16:Nat) ^ l.length<=16 ^ 7:=ZX (by decide) (by omega);have a:(16:Int) ^ l.length=((16 ^ l.length:Nat):Int):=by simp
   rw[a]at h2;show w<_
   omega
theorem ztQ(l:jE)(h:zdj l)(h1:1<=l.length)(b:l.length<=7):numL 16 7 l=some (hexV l):=by
 unfold hexV numL;rw[Qe (by omega)];obtain⟨w,a⟩:=zjE l 0 h;rw[a];rfl
structure zw3(l ds d r:jE)(room:Int):Prop where
 e:l=ds++13::10::(d++13::10::r)
 dig:zdj ds
 lo:1<=ds.length
 hi:ds.length<=7
 n:(d.length:Int)=hexV ds
 room:hexV ds<=room
theorem zch(a d r:jE)(room:Int)(e:zdj a)(h1:1<=a.length)(g:a.length<=7)(j:(d.length:Int)=hexV a)(i:hexV a<=room):
 zaj (a++13::10::(d++13::10::r)) room=⟨hexV a,0,a.length+2+d.length+2,d⟩:=by
 have h:=zfp a (d++13::10::r) e h1 g;unfold zaj;rw[h];dsimp only;have b:(hexV a).toNat=d.length:=by omega
 have c:(a++13::10::(d++13::10::r)).drop (a.length+2)=d++13::10::r:=by
  rw[<-Zz,ZL];rfl
 have f:(a++13::10::(d++13::10::r)).drop (a.length+2+d.length)=13::10::r:=by
  rw[<-Zz,c,ZL]
 rw[Qe (by simp),Qe (by omega),Qe (by simp;omega),b,c,f,zlP,XO]
theorem zeA{l:jE}{room:Int}(h:(zaj l room).e=0):∃a d r,zw3 l a d r room:=by
 unfold zaj at h
 by_cases h1:(zaD l).e≠0
 ·rw[Qg h1]at h;exact absurd h h1
 obtain⟨a,q,b⟩:=zsW (Z2.1 h1);rw[Qe h1,b.e,zfp a q b.dig b.lo b.hi]at h;dsimp only at h
 by_cases h2:room<hexV a
 ·rw[Qg h2]at h;simp at h
 rw[Qe h2]at h
 by_cases c:((a++13::10::q).length:Int)-((a.length+2:Nat):Int)<hexV a
 ·rw[Qg c]at h;simp at h
 rw[Qe c]at h;have i:=(zfP a).1
 have g:(hexV a).toNat<=q.length:=by
  rw[Qa,Qn,Qn]at c;omega
 have f:(a++13::10::q).drop (a.length+2)=q:=by
  rw[<-Zz,ZL];rfl
 rw[<-Zz,f]at h;obtain⟨r,hl⟩:=zrF h;exact⟨a,q.take (hexV a).toNat,r,by rw[<-hl,Zp];exact b.e,b.dig,b.lo,b.hi,by rw[QJ];omega,by omega⟩
theorem zl3(a d r:jE)(room:Int)(c:zdj a)(h1:1<=a.length)(f:a.length<=7)(m:(d.length:Int)=hexV a)(l:hexV a<=room)
 (j:Nat) (n:j<a.length+2+d.length+2):(zaj ((a++13::10::(d++13::10::r)).take j) room).e=7:=by
 by_cases g:j<a.length+2
 ·have:=znV a (d++13::10::r) c h1 f j g
  unfold zaj;rw[Qg (by rw[this];decide)];exact this
 ·have i:(a++13::10::(d++13::10::r)).take j=a++13::10::((d++13::10::r).take (j-a.length-2)):=by
   rw[Z1,QF (by omega)]
   congr 1
   rw[show j-a.length=j-a.length-2+1+1 by omega,Xl,Xl]
   rfl
  rw[i];have k:=zfp a ((d++13::10::r).take (j-a.length-2)) c h1 f;unfold zaj;rw[k];dsimp only;rw[Qe (by simp),Qe (by omega)]
  by_cases h2:j-a.length-2<d.length
  ·rw[Qg]
   rw[Qa,Qn,Qn,QJ];omega
  ·rw[Qe (by
    rw[Qa,Qn,Qn,QJ,Qa,Qn,Qn];omega)]
   dsimp only;have b:(hexV a).toNat=d.length:=by omega
   have h:(a++13::10::(d++13::10::r).take (j-a.length-2)).drop (a.length+2+d.length)=(13::10::r).take (j-a.length-2-d.length):=by
    rw[<-Zz,<-Zz,ZL];show ((d++13::10::r).take _).drop d.length=_
    rw[List.drop_take,ZL]
   rw[b,h];have h3:j-a.length-2-d.length=0\/j-a.length-2-d.length=1:=by omega
   rcases h3 with h3|h3 <;> rw[h3] <;> rfl
def zaP(a d:jE):jE:=a++13::10::(d++[13,10])
theorem zev(a d:jE):(zaP a d).length=a.length+2+d.length+2:=by
 unfold zaP;rw[Qa,Qn,Qn,Qa,Qn,Qn,QS];omega
theorem zdl(a d r:jE):a++13::10::(d++13::10::r)=zaP a d++r:=by unfold zaP;simp
theorem zeo(room:Int):(zaj [] room).e=7:=rfl
theorem zdy{f:Nat}{l:jE}{room:Int}(h:(zaj l room).e≠0):za7 (f+1) l room=.inl (zaj l room).e:=by
 rw[za7,Qg h]
theorem zbX(f:Nat)(a d x:jE)(room:Int)(b:zdj a)(h1:1<=a.length)(g:a.length<=7)(h:(d.length:Int)=hexV a)(c:hexV a<=room):
 za7 (f+1) (zaP a d++x) room=if hexV a=0 then .inr ([],(zaP a d).length)else preT d (zaP a d).length (za7 f x (room-hexV a)):=by
 have e:=zch a d x room b h1 g h c;rw[zdl,<-zev]at e;rw[za7,e];dsimp only;rw[Qe (by simp),ZL]
theorem zfQ:∀(f:Nat) (l:jE) (room:Int) (t:jE) (k:Nat),za7 f l room=.inr (t,k)->
 k<=l.length/\1<=k/\(t.length:Int)<=room/\(∀(x:jE) (b:Nat) (a:Int),k<=b->(t.length:Int)<=a->za7 b (l.take k++x) a=.inr (t,k))/\
 (∀(j b:Nat) (a:Int),j<k->j<=b->(t.length:Int)<=a->za7 b (l.take j) a=.inl 7):=by
 intro f
 induction f with
 |zero=>intro l room t k h;unfold za7 at h;cases h
 |succ f ih=>
  intro l room t k h
  by_cases D:(zaj l room).e≠0
  ·rw[zdy D]at h;cases h
  obtain⟨c,d,r,o⟩:=zeA (Z2.1 D);have G:=(zfP c).1;have E:=zev c d;have J:=o.lo;have y:=o.room;have I:=o.n;have C:l=zaP c d++r:=by rw[o.e,zdl]
  have u:∀(j b:Nat) (a:Int) (x:jE),j<(zaP c d).length->j<=b->hexV c<=a->za7 b ((zaP c d++x).take j) a=.inl 7:=by
   intro j b a x B q m;have e:=zl3 c d x a o.dig o.lo o.hi o.n m j (by omega);rw[zdl]at e;cases b with
   |zero=>rfl
   |succ g=>rw[zdy (by rw[e];decide),e]
  rw[C,zbX f c d r room o.dig o.lo o.hi o.n o.room]at h;rw[C]
  by_cases s:hexV c=0
  ·rw[Qg s]at h
   cases h;refine⟨by rw[Qa];omega,by omega,by rw[QS];omega,?_,?_⟩
   ·intro x b a q m
    rw[QS]at m;rw[XO,show b=b-1+1 by omega,zbX (b-1) c d x a o.dig o.lo o.hi o.n (by omega),Qg s]
   ·intro j b a B q m
    rw[QS]at m;exact u j b a r B q (by omega)
  ·rw[Qe s]at h
   cases i:za7 f r (room-hexV c)with
   |inl e=>rw[i]at h;cases h
   |inr p=>
    obtain⟨w,z⟩:=p;rw[i]at h;cases h;obtain⟨N,K,L,H,F⟩:=ih r _ w z i;have v:(d++w).length=d.length+w.length:=Qa;rw[Qa,v];refine⟨by omega,by omega,by omega,?_,?_⟩
    ·intro x b a q m
     rw[Z1,QF (by omega),show (zaP c d).length+z-(zaP c d).length=z by omega,QG,show b=b-1+1 by omega,
      zbX (b-1) c d _ a o.dig o.lo o.hi o.n (by omega),Qe s,H x (b-1) _ (by omega) (by omega)]
     rfl
    ·intro j b a B q m
     by_cases A:j<(zaP c d).length
     ·exact u j b a r A q (by omega)
     ·rw[Z1,QF (by omega),show b=b-1+1 by omega,
       zbX (b-1) c d _ a o.dig o.lo o.hi o.n (by omega),Qe s,F _ (b-1) _ (by omega) (by omega) (by omega)]
      rfl
theorem zoe:∀(f g:Nat) (l:jE) (room:Int),l.length<=f->l.length<=g->za7 f l room=za7 g l room:=by
 intro f
 induction f with
 |zero=>
  intro g l room c i;cases g with
  |zero=>rfl
  |succ g=>rw[QA (by omega:l.length=0),zdy (by rw[zeo];decide)];rfl
 |succ f ih=>
  intro g l room c i;cases g with
  |zero=>rw[QA (by omega:l.length=0),zdy (by rw[zeo];decide)];rfl
  |succ g=>
   by_cases b:(zaj l room).e≠0
   ·rw[zdy b,zdy b]
   obtain⟨a,d,r,o⟩:=zeA (Z2.1 b);have j:=zev a d;have h:l=zaP a d++r:=by rw[o.e,zdl]
   rw[h,zbX f a d r room o.dig o.lo o.hi o.n o.room,zbX g a d r room o.dig o.lo o.hi o.n o.room];rw[h,Qa]at c i;rw[ih g r _ (by omega) (by omega)]
def zbe(l:jE)(room:Int):Told:=za7 l.length l room
theorem ziG(l:jE)(room:Int)(h:(zaj l room).e≠0):zbe l room=.inl (zaj l room).e:=by
 unfold zbe;cases hl:l.length with
 |zero=>rw[QA hl];rfl
 |succ n=>exact zdy h
theorem ziL(l:jE)(room:Int)(h:(zaj l room).e=0)(a:(zaj l room).n=0):zbe l room=.inr ([],(zaj l room).c):=by
 unfold zbe;cases hl:l.length with
 |zero=>rw[QA hl,zeo]at h;exact absurd h (by decide)
 |succ n=>rw[za7,Qe (by rw[h];decide),Qg a]
theorem zd5(l:jE)(room:Int)(h:(zaj l room).e=0)(b:(zaj l room).n≠0):
 zbe l room=preT (zaj l room).d (zaj l room).c (zbe (l.drop (zaj l room).c) (room-(zaj l room).n)):=by
 unfold zbe;cases hl:l.length with
 |zero=>rw[QA hl,zeo]at h;exact absurd h (by decide)
 |succ n=>
  obtain⟨a,d,r,o⟩:=zeA h;have e:=zch a d r room o.dig o.lo o.hi o.n o.room;rw[<-o.e]at e;have f:1<=(zaj l room).c:=by rw[e];show 1<=a.length+2+d.length+2;omega
  rw[za7,Qe (by rw[h];decide),Qe b];rw[zoe n ((l.drop (zaj l room).c).length) _ _ (by rw[QM];omega) (Qc _)]
theorem zts(a b:jE)(c k:Nat)(x:Told):preT a c (preT b k x)=preT (a++b) (c+k) x:=by
 cases x with
 |inl e=>rfl
 |inr p=>obtain⟨t,n⟩:=p;simp[preT,Zk]
theorem zk6{l:jE}{room:Int}(h:(zaj l room).e=0):(zaj l room).c<=l.length/\1<=(zaj l room).c/\((zaj l room).d.length:Int)=(zaj l room).n/\(zaj l room).n<=room:=by
 obtain⟨a,d,r,o⟩:=zeA h;have e:=zch a d r room o.dig o.lo o.hi o.n o.room;rw[<-o.e]at e;rw[e];refine⟨?_,by show 1<=a.length+2+d.length+2;omega,o.n,o.room⟩;rw[o.e,zdl,Qa,zev];show a.length+2+d.length+2<=_
 omega
theorem zk1(l:jE)(room:Int)(t:jE)(k:Nat)(h:zbe l room=.inr (t,k)):k<=l.length/\1<=k/\(t.length:Int)<=room:=
 ⟨(zfQ _ l room t k h).1,(zfQ _ l room t k h).2.1,(zfQ _ l room t k h).2.2.1⟩
