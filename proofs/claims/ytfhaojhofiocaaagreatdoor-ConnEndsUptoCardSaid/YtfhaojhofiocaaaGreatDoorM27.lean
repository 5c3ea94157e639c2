/- Lemmas for the last texts. -/
import Derived.Test.YtfhaojhofiocaaaGreatDoorM26
set_option maxHeartbeats 3200000
set_option maxRecDepth 100000
namespace Go.Proofs.YtfhaojhofiocaaaGreatDoor
open Go.RowKit Go.Proofs.Tryz
def StIn(s:Int):Prop:=s=0\/(400<=s/\s<=599)
def zlo(l:List zaz):Prop:=∀x∈l,∀a∈x.acts,actC a=0
theorem zzn(d:Int)(s:RunS)(a:zcL)(h:actC a=0)(b:StIn s.st):StIn (actS d s a).st:=by
 unfold actS
 split
 ·exact b
 split
 ·exact b
 split
 ·exact b
 split
 ·rename_i c
  unfold actC loA hiA at h;rw[Qj c,Qj c]at h
  split at h
  ·cases h
  ·exact .inr (by dsimp only;omega)
 split <;> exact b
theorem zyO(b:Int):∀(l:List zcL) (s:RunS),(∀a∈l,actC a=0)->StIn s.st->StIn (l.foldl (actS b) s).st:=by
 intro l
 induction l with
 |nil=>intro s _ h;exact h
 |cons a l ih=>intro s h c;exact ih _ (λx d=>h x (by simp[d])) (zzn b s a (h a (by simp)) c)
theorem zvO:∀(c:List zaz) (s:RunS),zlo c->StIn s.st->StIn (c.foldl zeR s).st:=by
 intro c
 induction c with
 |nil=>intro s _ h;exact h
 |cons r c ih=>intro s h a;exact ih _ (λx b=>h x (by simp[b])) (zyO r.id r.acts s (h r (by simp)) a)
theorem zyw(hit:Int->zaz->Bool)(s:RunS)(c:List zaz)(h:zlo c)(a:StIn s.st):StIn (zfD hit s c).st:=by
 unfold zfD
 split
 ·exact a
 split
 ·exact a
 split
 ·exact zvO c _ h a
 ·exact a
theorem zs5(hit:Int->zaz->Bool)(e:Int):∀(l:List zaz) (x:RunS × List zaz),zlo l->zlo x.2->StIn x.1.st->StIn (l.foldl (phS hit e) x).1.st:=by
 intro l
 induction l with
 |nil=>intro x _ _ h;exact h
 |cons r l ih=>
  intro x h d b;have hl:zlo l:=λy a=>h y (by simp[a])
  have c:zlo (x.2++[r]):=λy a=>by
   rcases QY.1 a with a|a
   ·exact d y a
   ·rw[QF.1 a];exact h r (by simp)
  rw[XK];unfold phS
  split
  ·exact ih x hl d b
  split
  ·exact ih _ hl c b
  ·exact ih _ hl (λy a=>by cases a) (zyw hit _ _ c b)
theorem zzo(hit:Int->zaz->Bool)(r:zfy)(h:zlo r.list)(h2:StIn r.status):StIn (runS hit r).st:=by
 unfold runS endS;have a:zlo []:=λy b=>by cases b
 have c:StIn (zfv hit 2 r.list (zfv hit 1 r.list run0)).st:=zs5 hit 2 r.list _ h a (zs5 hit 1 r.list _ h a (.inl rfl))
 split
 ·exact h2
 ·exact c
theorem zkW(r:zfy)(a most:Nat)(q:ReqV):StIn (outJ r a most q).st/\StIn (outJ r a most q).err:=by
 unfold outJ
 split
 ·exact⟨.inl rfl,.inr (by decide)⟩
 ·rename_i h
  refine⟨?_,.inl rfl⟩;show StIn (runG r q.h.m q.h.t (bs q.b) q.h.fs a most).2.st
  unfold runG at h ⊢
  split
  ·exact .inl rfl
  split
  ·exact .inl rfl
  ·rename_i d _
   obtain⟨h1,h2⟩:=zly (show za1 argC r=0 by omega);exact zzo _ r (λx c=>(h2 x c).acts) (.inr ⟨h1.2.2.1,h1.2.2.2⟩)
attribute [go_sem] results57
theorem zqA(x:Int)(w:World):Calls prog 27 #[jA x] w λe w'=>e=jC (jA (zbs x))/\w'=w:=by
 by_cases b:x=5
 ·subst b
  go_in
  go_wp2;go_ret;exact⟨rfl,rfl⟩
 ·have f:(x==5)=false:=Qc.2 b
  by_cases a:x=6
  ·subst a
   go_in
   go_wp2;go_ret;exact⟨rfl,rfl⟩
  ·have d:(x==6)=false:=Qc.2 a
   have c:Hid (zbs x=400):=by unfold Hid zbs;rw[Qf b,Qf a]
   clear b a
   go_in
   go_wp2;go_ret;exact⟨by rw[c.out];rfl,rfl⟩
noncomputable def zcd(r:zfy)(H B A:Int):Int:=if za1 argC r≠0 then za1 argC r else bndE H B A
theorem zpH(a:RuArg)(H B A:Int)(w:World)(h:RuLies w w.heap.size a)(y:zb9 a)(j:LibOk w):
 Calls prog 56 #[a.value,.agg #[jA H,jA B,jA A]] w λe w'=>e=jC (jA (zcd a.set H B A))/\w w':=by
 obtain⟨f,b⟩:∃f,((w.alloc (.cells #[jA a.most,jA a.status,.slice a.A a.l.length a.c] 24)).alloc (.cells #[jA H,jA B,jA A] 26))=f:=⟨_,rfl⟩
 have o:f.heap.size=w.heap.size+2:=by rw[<-b];simp
 have d:w f:=by rw[<-b];exact WaL.alloc (by simp) _
 have z:R3' f w.heap.size a.most a.status (.slice a.A a.l.length a.c):=by
  rw[<-b];exact(Qs _ _ _ (by simp only[Qp];omega)).trans (Qv w _)
 have x:f.heap[w.heap.size+1]? = some (.cells #[jA H,jA B,jA A] 26 (0,0)):=by
  rw[<-b];exact zbb _ _ _ (by simp only[Qp])
 have k:w.heap.size+1<f.heap.size:=by omega
 have s:Hid (Calls prog 16 #[.agg #[jA a.most,jA a.status,.slice a.A a.l.length a.c]] f (zbc (za1 argC a.set) f)):=ziL a f (h.keep d d.size) y (j.below d);have E:=zak z
 have D:Hid (∀W,f W->W.cell? (w.heap.size+1:)=some (jA H)/\W.cell? ⟨w.heap.size+1,1,none⟩=some (jA B)/\W.cell? ⟨w.heap.size+1,2,none⟩=some (jA A)/\w W):=hIx λW hb=>by
  have r:=(hb.block _ k).trans x;exact⟨Qo _ _ 0 _ _ _ r,Qo _ _ 1 _ _ _ r,Qo _ _ 2 _ _ _ r,d.trans (hb.mono d.size)⟩
 have m:Hid (zcd a.set H B A=if za1 argC a.set≠0 then za1 argC a.set else bndE H B A):=rfl;generalize zcd a.set H B A=J at *;generalize za1 argC a.set=C at *;have q:=hIx b;unfold RuArg.value;clear b z x h y o d k
 go_in
 go_upto_region 1 with fail
 rw[q.out];go_wp2_with (go_at_call 16;apply Hid.out);refine WhM s ?_;rintro e v ⟨rfl,u⟩;have ⟨G,I,L,g⟩:=D.out v u;clear E
 by_cases n:C=0
 ·subst n
  have F:=hIx (zgx H B A v);have i:Hid (J=bndE H B A):=hIx (by rw[m.out,Qf (by decide)]);clear m;go_wp2_with (go_at_call 17;apply Hid.out);refine WhM F ?_;rintro e w2 ⟨rfl,t⟩;go_wp2;go_ret;exact⟨by rw[i.out];rfl,g.trans (t.mono g.size)⟩
 ·have K:(C != 0)=true:=Q6.2 n
  have i:Hid (J=C):=hIx (by rw[m.out,Qj n]);clear n m;go_wp2;go_ret;exact⟨by rw[i.out];rfl,g⟩
def O9(w:World)(g:Nat)(c d e h a i j f b:Value):Prop:=w.heap[g]? = some (.cells #[c,d,e,h,a,i,j,f,b] 58 (0,0))
def putO(w:World)(g:Nat)(c d e h a i j f b:Value):World:=
 ((((((((w.setCell g c).setCell ⟨g,1,none⟩ d).setCell ⟨g,2,none⟩ e).setCell ⟨g,3,none⟩ h).setCell ⟨g,4,none⟩ a).setCell ⟨g,5,none⟩ i).setCell ⟨g,6,none⟩ j).setCell ⟨g,7,none⟩ f).setCell ⟨g,8,none⟩ b
theorem zkx(w:World)(g:Nat)(c d e h a i j f b:Value):((((((((w.setCell g c).setCell ⟨g,1,none⟩ d).setCell ⟨g,2,none⟩ e).setCell ⟨g,3,none⟩ h).setCell ⟨g,4,none⟩ a).setCell ⟨g,5,none⟩ i).setCell ⟨g,6,none⟩ j).setCell ⟨g,7,none⟩ f).setCell ⟨g,8,none⟩ b=putO w g c d e h a i j f b:=rfl
section
variable {w:World} {g:Nat} {a0 a1 a2 a3 a4 a5 a6 a7 a8:Value}
theorem O9.set(h:O9 w g a0 a1 a2 a3 a4 a5 a6 a7 a8)(a b c d e f i j k:Value):O9 (putO w g a b c d e f i j k) g a b c d e f i j k:=by
 unfold putO;obtain⟨q,s⟩:∃x,w.setCell g a=x:=⟨_,rfl⟩
 have D:O9 q g a a1 a2 a3 a4 a5 a6 a7 a8:=by rw[<-s];exact QW w g 0 _ _ _ h
 rw[s];obtain⟨m,A⟩:∃x,q.setCell ⟨g,1,none⟩ b=x:=⟨_,rfl⟩
 have h1:O9 m g a b a2 a3 a4 a5 a6 a7 a8:=by rw[<-A];exact QW q g 1 _ _ _ D
 rw[A];obtain⟨w2,y⟩:∃x,m.setCell ⟨g,2,none⟩ c=x:=⟨_,rfl⟩
 have h2:O9 w2 g a b c a3 a4 a5 a6 a7 a8:=by rw[<-y];exact QW m g 2 _ _ _ h1
 rw[y];obtain⟨w3,B⟩:∃x,w2.setCell ⟨g,3,none⟩ d=x:=⟨_,rfl⟩
 have I:O9 w3 g a b c d a4 a5 a6 a7 a8:=by rw[<-B];exact QW w2 g 3 _ _ _ h2
 rw[B];obtain⟨l,C⟩:∃x,w3.setCell ⟨g,4,none⟩ e=x:=⟨_,rfl⟩
 have E:O9 l g a b c d e a5 a6 a7 a8:=by rw[<-C];exact QW w3 g 4 _ _ _ I
 rw[C];obtain⟨r,t⟩:∃x,l.setCell ⟨g,5,none⟩ f=x:=⟨_,rfl⟩
 have G:O9 r g a b c d e f a6 a7 a8:=by rw[<-t];exact QW l g 5 _ _ _ E
 rw[t];obtain⟨n,v⟩:∃x,r.setCell ⟨g,6,none⟩ i=x:=⟨_,rfl⟩
 have K:O9 n g a b c d e f i a7 a8:=by rw[<-v];exact QW r g 6 _ _ _ G
 rw[v];obtain⟨o,u⟩:∃x,n.setCell ⟨g,7,none⟩ j=x:=⟨_,rfl⟩
 have F:O9 o g a b c d e f i j a8:=by rw[<-u];exact QW n g 7 _ _ _ K
 rw[u];obtain⟨J,z⟩:∃x,o.setCell ⟨g,8,none⟩ k=x:=⟨_,rfl⟩
 have H:O9 J g a b c d e f i j k:=by rw[<-z];exact QW o g 8 _ _ _ F
 rw[z];exact H
theorem O9.cell(h:O9 w g a0 a1 a2 a3 a4 a5 a6 a7 a8)(j:Nat):w.cell? ⟨g,j,none⟩=(#[a0,a1,a2,a3,a4,a5,a6,a7,a8]:Array Value)[j]? := Qo w g j _ _ (0,0) h
theorem O9.free(h:O9 w g a0 a1 a2 a3 a4 a5 a6 a7 a8)(j:Nat):w.frozen? ⟨g,j,none⟩=false:=Zc _ _ j _ _ h
theorem O9.nine(h:O9 w g a0 a1 a2 a3 a4 a5 a6 a7 a8):(w.cell? g=some a0/\w.cell? ⟨g,1,none⟩=some a1/\w.cell? ⟨g,2,none⟩=some a2/\w.cell? ⟨g,3,none⟩=some a3)/\w.cell? ⟨g,4,none⟩=some a4/\w.cell? ⟨g,5,none⟩=some a5/\w.cell? ⟨g,6,none⟩=some a6/\w.cell? ⟨g,7,none⟩=some a7/\w.cell? ⟨g,8,none⟩=some a8:=
 ⟨⟨h.cell 0,h.cell 1,h.cell 2,h.cell 3⟩,h.cell 4,h.cell 5,h.cell 6,h.cell 7,h.cell 8⟩
end
theorem zsL(w:World)(g:Nat)(c d e i a j l f b:Value)(k:Nat)(h:k≠g):(putO w g c d e i a j l f b).heap[k]? = w.heap[k]? := by
 unfold putO;rw[Qm _ _ _ _ h,Qm _ _ _ _ h,Qm _ _ _ _ h,Qm _ _ _ _ h,Qm _ _ _ _ h,Qm _ _ _ _ h,Qm _ _ _ _ h,Qm _ _ _ _ h,Qm _ _ _ _ h]
theorem zql{B:Nat}{b w:World}(h:Below B b w){g:Nat}(a:B<=g)(e f i k c l m j d:Value):Below B b (putO w g e f i k c l m j d):=
 ((((((((h.setCell (p:=⟨g,0,none⟩) a _).setCell (p:=⟨g,1,none⟩) a _).setCell (p:=⟨g,2,none⟩) a _).setCell (p:=⟨g,3,none⟩) a _).setCell (p:=⟨g,4,none⟩) a _).setCell (p:=⟨g,5,none⟩) a _).setCell (p:=⟨g,6,none⟩) a _).setCell (p:=⟨g,7,none⟩) a _).setCell (p:=⟨g,8,none⟩) a _
theorem RunIn.keep{a:RuArg}{m t b:ByteArray}{d:List zas}{A:Option Addr}{c most:Nat}{w W:World}(h:RunIn a m t b d A c most w)(hb:w W):RunIn a m t b d A c most W:=
 ⟨h.lies.keep hb hb.size,h.bulk,(h.f.below hb).more hb.size,h.fz,h.fl,h.tz,h.bz,h.mz,h.cz,h.lib.below hb,h.tab.below hb⟩
theorem zuu{w a w3:World}{g:Nat}{v:Value}{l:List Int}(r:g<a.heap.size)(q:w.heap.size<=g)(hb:w w3)(e:OwnG rowZ w3 a.heap.size v l)(j m n d h f i c b:Value):
 OwnG rowZ (putO w3 g j m n d h f i c b) w.heap.size v l/\w (putO w3 g j m n d h f i c b):=
 ⟨(e.keep λk o=>zsL _ _ _ _ _ _ _ _ _ _ _ _ (by have:=(e.lt k o).1;omega)).low (by omega),zql hb q _ _ _ _ _ _ _ _ _⟩
theorem zyl(q:ReqV)(S:RunS)(h:fwdE q.h q.b=0)(a:S.st=0):upO (reqO q S)=fwdT q:=zws (by unfold zsi reqO;simp[a]) h
theorem zxy(q:ReqV)(S:RunS)(a:S.st≠0):upO (reqO q S)=[]:=zwr (by unfold zsi reqO;simp[a])
def ztm(a:RuArg)(d most:Nat)(q:ReqV)(A:Option Addr)(c:Nat)(w:World)(e:Ending)(w':World):Prop:=
 ∃(x:OutM) (s:ByteArray),e=jC (.tuple #[.agg #[.string x.p.q.h.m,.string x.p.q.h.t,.slice x.A x.p.q.h.fs.length x.c,.string (bs x.p.q.b),jA x.p.st,jA x.p.who,jA x.p.sc,.slice x.Am x.p.mt.length x.cm,jA x.p.err],.string s])/\
  x.p=outJ a.set d most q/\s=bs (upO x.p)/\(x=badM 400\/x.A=A/\x.c=c/\x.p.q=q/\x.p.err=0)/\OwnG rowZ w' w.heap.size (.slice x.Am x.p.mt.length x.cm) x.p.mt/\w w'
theorem zn1(a:RuArg)(H B:Int)(z most:Nat)(q:ReqV)(A:Option Addr)(c:Nat)(w:World)(h:RunIn a q.h.m q.h.t (bs q.b) q.h.fs A z most w)(hm:q.h.m.size<=maxLen)(g:zgF q.h.fs):
 Calls prog 57 #[a.value,.agg #[jA H,jA B,jA (most:Int)],.int .u32 (z:Int),.agg #[.string q.h.m,.string q.h.t,.slice A q.h.fs.length c,.string (bs q.b)]] w (ztm a z most q A c w):=by
 obtain⟨⟨m,t,d⟩,b⟩:=q;dsimp only at *;obtain⟨i,n⟩:∃i,((((w.alloc (.cells #[jA a.most,jA a.status,.slice a.A a.l.length a.c] 24)).alloc (.cells #[jA H,jA B,jA (most:Int)] 26)).alloc (.cells #[.string m,.string t,.slice A d.length c,.string (bs b)] 53)).alloc (.cells #[.string (.mk #[]),.string (.mk #[]),jD 0 0,.string (.mk #[]),jA 0,jA 0,jA 0,jD 0 0,jA 0] 58))=i:=⟨_,rfl⟩
 have hg:i.heap.size=w.heap.size+4:=by rw[<-n];simp
 have u:w i:=by rw[<-n];exact((WaL.alloc (by simp) _).alloc (by simp;omega) _).alloc (by simp;omega) _
 have hR:R3' i w.heap.size a.most a.status (.slice a.A a.l.length a.c):=by
  rw[<-n];exact(Qs _ _ _ (by simp only[Qp];omega)).trans ((Qs _ _ _ (by simp only[Qp];omega)).trans ((Qs _ _ _ (by simp only[Qp];omega)).trans (Qv w _)))
 have hB:i.heap[w.heap.size+1]? = some (.cells #[jA H,jA B,jA (most:Int)] 26 (0,0)):=by
  rw[<-n];exact(Qs _ _ _ (by simp only[Qp];omega)).trans ((Qs _ _ _ (by simp only[Qp];omega)).trans (zbb _ _ _ (by simp only[Qp])))
 have hQ:i.heap[w.heap.size+1+1]? = some (.cells #[.string m,.string t,.slice A d.length c,.string (bs b)] 53 (0,0)):=by
  rw[<-n];exact(Qs _ _ _ (by simp only[Qp];omega)).trans (zbb _ _ _ (by simp only[Qp]))
 have hO:O9 i (w.heap.size+1+1+1) (.string (.mk #[])) (.string (.mk #[])) (jD 0 0) (.string (.mk #[])) (jA 0) (jA 0) (jA 0) (jD 0 0) (jA 0):=by
  rw[<-n];exact zbb _ _ _ (by simp only[Qp])
 have C:Hid (∀W,i W->W.heap[w.heap.size+1+1]? = some (.cells #[.string m,.string t,.slice A d.length c,.string (bs b)] 53 (0,0))/\O9 W (w.heap.size+1+1+1) (.string (.mk #[])) (.string (.mk #[])) (jD 0 0) (.string (.mk #[])) (jA 0) (jA 0) (jA 0) (jD 0 0) (jA 0)/\w W):=hIx λW hb=>
  ⟨(hb.block _ (by omega)).trans hQ,(hb.block _ (by omega)).trans hO,u.trans (hb.mono u.size)⟩
 have O:Hid (Calls prog 82 #[.agg #[jA a.most,jA a.status,.slice a.A a.l.length a.c],.agg #[.string m,.string t,.slice A d.length c,.string (bs b)],.int .u32 (z:Int),jA (most:Int)] i (zhc (runG a.set m t (bs b) d z most) i)):=hIx (zyy a m t (bs b) d A c z most i (h.keep u));have h5:(bs b).size<=maxLen:=by have:=h.bz;unfold maxLen;omega
 have h0:t.size<=maxLen:=by have:=h.tz;unfold maxLen;omega
 have F:Hid (∀W,i W->Calls prog 83 #[.agg #[.string m,.string t,.slice A d.length c,.string (bs b)]] W (zho ⟨m,t,d⟩ b W)):=hIx λW hb=>by
  have hk:=h.keep (u.trans (hb.mono u.size));have:=znS ⟨m,t,d⟩ (bs b) A c W hk.f hm h0 h5 g hk.lib hk.tab;rw[zam]at this;exact this
 have o:Hid (outJ a.set z most ⟨⟨m,t,d⟩,b⟩=if (runG a.set m t (bs b) d z most).1≠0\/fwdE ⟨m,t,d⟩ b≠0 then errO 400 else reqO ⟨⟨m,t,d⟩,b⟩ (runG a.set m t (bs b) d z most).2):=rfl;unfold ztm;generalize outJ a.set z most ⟨⟨m,t,d⟩,b⟩=OJ at *;generalize runG a.set m t (bs b) d z most=G at *;obtain⟨Y,P⟩:∃Y,fwdE ⟨m,t,d⟩ b=Y:=⟨_,rfl⟩
 unfold zho at F;rw[P]at F o;have hh:=hIx P;have r0:=zak hR;have b2:i.cell? ⟨w.heap.size+1,2,none⟩=some (jA (most:Int)):=Qo _ _ 2 _ _ _ hB;have q0:=zak hQ;have HZ:Hid (w.heap.size+1+1+1<i.heap.size):=hIx (by omega);have hi:w.heap.size+1+1<i.heap.size:=by omega
 have hd:=hIx n;unfold RuArg.value;clear n hR hB hQ hO P h hg u hm g h5 h0
 go_in
 go_upto_region 1 with fail
 rw[hd.out];go_wp2_with (go_at_call 82;apply Hid.out);refine WhM O ?_;rintro e K ⟨mv,rfl,T,Z⟩;obtain⟨E,D,rfl,_⟩:=T.form;obtain⟨k,S⟩:=G;dsimp only at *;unfold verV;have r:K (K.alloc (.cells #[jA S.st,jA S.who,jA S.sc,.slice E S.mt.length D] 56)):=WaL;have J:V4 (K.alloc (.cells #[jA S.st,jA S.who,jA S.sc,.slice E S.mt.length D] 56)) K.heap.size S.st S.who S.sc (.slice E S.mt.length D):=Qv K _;obtain⟨W2,Q⟩:∃W2,K.alloc (.cells #[jA S.st,jA S.who,jA S.sc,.slice E S.mt.length D] 56)=W2:=⟨_,rfl⟩
 rw[Q]at r J;have x:=Z.trans (r.mono Z.size);have ⟨h6,_,_⟩:=C.out W2 x;have HF:=hIx (F.out W2 x);have he:K.heap.size<W2.heap.size:=zaG J;have h9:=T.below r;have p0:=zak h6;have h8:=hIx Q;clear Q h6 r0 b2 q0 O F T r;go_upto_region 2 with fail
 rw[h8.out];go_wp2_with (go_at_call 83;apply Hid.out);refine WhM HF ?_;rintro e w3 ⟨h3,I⟩
 obtain⟨X,rfl,hX⟩:∃X:ByteArray,e=jC (.tuple #[.string X,jA Y])/\(Y=0->X=bs (fwdT ⟨⟨m,t,d⟩,b⟩)):=by
  rcases h3 with ⟨e1,e2⟩|⟨e1,e2⟩
  ·exact⟨bs (zdn (fwdH ⟨m,t,d⟩ b.length)++b),by rw[e2,e1],λ_=>rfl⟩
  ·exact⟨_,e2,λh=>absurd h e1⟩
 have HX:=hIx hX;have L:=x.trans (I.mono x.size);have ⟨V,j,h4⟩:=C.out w3 L;have ha:=h9.below I;have U:V4 w3 K.heap.size S.st S.who S.sc (.slice E S.mt.length D):=(I.block _ he).trans J;have s:=hIx (λa0 a1 a2 a3 a4 a5 a6 a7 a8=>zuu HZ.out (by omega:w.heap.size<=w.heap.size+1+1+1) h4 ha a0 a1 a2 a3 a4 a5 a6 a7 a8);have N:Hid (∀a0 a1 a2 a3 a4 a5 a6 a7 a8,w (putO w3 (w.heap.size+1+1+1) a0 a1 a2 a3 a4 a5 a6 a7 a8)):=hIx λa0 a1 a2 a3 a4 a5 a6 a7 a8=>(s.out a0 a1 a2 a3 a4 a5 a6 a7 a8).2
 have f0:=j.free;have o0:=j.nine;clear h3 I HF h9 J Z x L hd h8 p0 ha C hX;have h7:=hIx j
 by_cases y:k≠0\/Y≠0
 ·have ht:=h7.out.set (.string (.mk #[])) (.string (.mk #[])) (jD 0 0) (.string (.mk #[])) (jA 0) (jA 0) (jA 0) (jD 0 0) (jA 400)
  have HT:=hIx ht.nine;have HJ:Hid (OJ=errO 400):=hIx (by rw[o.out,Qj y])
  have n0:(k != 0)=true\/((k != 0)=false/\(Y != 0)=true):=by
   by_cases h:k=0
   ·exact .inr ⟨by rw[h];rfl,Q6.2 (by omega)⟩
   ·exact .inl (Q6.2 h)
  clear y o ht j U V s
  rcases n0 with n0|⟨n0,n1⟩
  all_goals
   go_wp2_with fail;rw[zkx];have ⟨⟨t0,t1,t2,t3⟩,t4,t5,t6,t7,t8⟩:=HT.out;exact QD (v:=.tuple #[.agg #[.string (.mk #[]),.string (.mk #[]),jD 0 0,.string (.mk #[]),jA 0,jA 0,jA 0,jD 0 0,jA 400],.string (.mk #[])]) (by simp[results,results57,go_sem,t0,t1,t2,t3,t4,t5,t6,t7,t8]) rfl ⟨badM 400,ByteArray.mk #[],rfl,HJ.out.symm,rfl,.inl rfl,OwnG.nil _ _ _,N.out _ _ _ _ _ _ _ _ _⟩
 ·have hc:k=0:=by omega
  have hf:Y=0:=by omega
  subst hc;subst hf
  have ht:=h7.out.set (.string m) (.string t) (.slice A d.length c) (.string (bs b)) (jA S.st) (jA S.who) (jA S.sc) (.slice E S.mt.length D) (jA 0);have HT:=hIx ht.nine;have HJ:Hid (OJ=reqO ⟨⟨m,t,d⟩,b⟩ S):=hIx (by rw[o.out,Qf (by decide)]);have v0:=U.four;have q0:=zak V;clear y o ht j U V N
  by_cases g:S.st=0
  ·have n0:(S.st != 0)=false:=by rw[g];rfl
   have HS:Hid (X=bs (upO (reqO ⟨⟨m,t,d⟩,b⟩ S))):=hIx (by rw[zyl _ _ hh.out g];exact HX.out rfl);clear g;go_wp2_with fail;rw[zkx];have ⟨⟨t0,t1,t2,t3⟩,t4,t5,t6,t7,t8⟩:=HT.out;exact QD (v:=.tuple #[.agg #[.string m,.string t,.slice A d.length c,.string (bs b),jA S.st,jA S.who,jA S.sc,.slice E S.mt.length D,jA 0],.string X]) (by simp[results,results57,go_sem,t0,t1,t2,t3,t4,t5,t6,t7,t8]) rfl ⟨⟨reqO ⟨⟨m,t,d⟩,b⟩ S,A,c,E,D⟩,X,rfl,HJ.out.symm,HS.out,.inr ⟨rfl,rfl,rfl,rfl⟩,s.out _ _ _ _ _ _ _ _ _⟩
  ·have n0:(S.st != 0)=true:=Q6.2 g
   have HS:Hid (ByteArray.mk #[]=bs (upO (reqO ⟨⟨m,t,d⟩,b⟩ S))):=hIx (by rw[zxy _ _ g];rfl);clear g;go_wp2_with fail;rw[zkx];have ⟨⟨t0,t1,t2,t3⟩,t4,t5,t6,t7,t8⟩:=HT.out;exact QD (v:=.tuple #[.agg #[.string m,.string t,.slice A d.length c,.string (bs b),jA S.st,jA S.who,jA S.sc,.slice E S.mt.length D,jA 0],.string (.mk #[])]) (by simp[results,results57,go_sem,t0,t1,t2,t3,t4,t5,t6,t7,t8]) rfl ⟨⟨reqO ⟨⟨m,t,d⟩,b⟩ S,A,c,E,D⟩,ByteArray.mk #[],rfl,HJ.out.symm,HS.out,.inr ⟨rfl,rfl,rfl,rfl⟩,s.out _ _ _ _ _ _ _ _ _⟩
theorem zuH{q:ReqV}(h:fwdE q.h q.b=0):(fwdT q).length<=35250:=by
 have a:=zyT h;have h1:=zjZ _ (zhV a.out);have h2:=a.len;unfold fwdT;rw[Qb];omega
theorem ztj(o:OutP):(upO o).length<=35250:=by
 unfold upO
 split
 ·split
  ·rename_i h;exact zuH h
  ·exact Qn _
 ·exact Qn _
structure Big(C:ConS)(m:Nat):Prop where
 up:C.up.length<=40000*m
 down:C.down.length<=40000*m
 log:C.log.length<=m
 jd0:0<=C.jd
 jd:C.jd<=m
theorem Big.more{C:ConS}{m k:Nat}(h:Big C m)(f:m<=k):Big C k:=by
 obtain⟨a,b,c,d,e⟩:=h;exact⟨by omega,by omega,by omega,d,by omega⟩
theorem zeG{s:Int}(h:StIn s):0<=s/\s<1000:=by unfold StIn at h;omega
theorem zuX(s:Int)(c:s<1000)(b:jE)(hb:b.length<100000):(zpl s b).length<=100+b.length:=by
 have h1:=(ze8 2 s.toNat (by omega)).2;have h2:=(ze8 4 b.length hb).2;have a:(znO s).length=2:=by unfold znO;split <;> rfl
 unfold zpl;simp only[Qb,Qq,QP];omega
theorem zdS{C:ConS}{m:Nat}(h:Big C m)(s:Int)(c:s<1000)(b:jE)(hb:b.length<=4096):Big (zc3 C s b) (m+1):=by
 obtain⟨d,e,f,a,g⟩:=h;have:=zuX s c b (by omega);refine⟨by show C.up.length<=_;omega,?_,by show C.log.length<=_;omega,a,by show C.jd<=_;omega⟩;unfold zc3;dsimp only;rw[Qb];omega
theorem zsY{p:ConP}{C:ConS}{m:Nat}(h:Big C m)(o:OutP)(h1:StIn o.st)(h2:StIn o.err):Big (judC p C o) (m+1):=by
 have a:=zdS h o.err (zeG h2).2 [] (by decide);have b:=zdS h o.st (zeG h1).2 [] (by decide);obtain⟨e,f,c,d,g⟩:=h;unfold judC
 split
 ·exact⟨a.up,a.down,a.log,a.jd0,a.jd⟩
 split
 ·refine⟨b.up,b.down,?_,?_,?_⟩
  ·show (C.log++[_]).length<=_
   rw[Qb];exact Nat.add_le_add_right c 1
  ·show 0<=C.jd+1
   omega
  ·show C.jd+1<=_
   omega
 ·have:=ztj o
  refine⟨?_,by show C.down.length<=_;omega,by show C.log.length<=_;omega,by show 0<=C.jd+1;omega,by show C.jd+1<=_;omega⟩;show (C.up++upO o).length<=_
  rw[Qb];omega
theorem zej(e:Int):zbs e<1000:=by
 unfold zbs
 split
 ·decide
 ·split <;> decide
theorem zwB{p:ConP}(c:0<=p.H)(d:0<=p.B)(f:∀q,StIn (p.F q).st/\StIn (p.F q).err):∀(n:Nat) (C:ConS) (m:Nat),C.inp.length<=n->Big C m->Big (onC p C) (m+n+1):=by
 intro n
 induction n with
 |zero=>
  intro C m i h
  by_cases a:C.st=0
  ·cases b:oneR C.inp p.H p.B with
   |error e=>
    rw[zko a b]
    split
    ·exact h.more (by omega)
    ·have g:=zdS h (zbs e) (zej e) [] (by decide)
     exact⟨g.up,g.down,g.log,g.jd0,g.jd⟩
   |ok x=>obtain⟨q,k⟩:=x;obtain⟨_,h1,h2⟩:=zgi c d b;omega
  ·rw[zkv a];exact h.more (by omega)
 |succ n ih=>
  intro C m i h
  by_cases a:C.st=0
  ·cases b:oneR C.inp p.H p.B with
   |error e=>
    rw[zko a b]
    split
    ·exact h.more (by omega)
    ·have g:=(zdS h (zbs e) (zej e) [] (by decide)).more (show m+1<=m+(n+1)+1 by omega)
     exact⟨g.up,g.down,g.log,g.jd0,g.jd⟩
   |ok x=>
    obtain⟨q,k⟩:=x;obtain⟨_,h1,h2⟩:=zgi c d b;rw[zwC c d a b];have j:=zsY (p:=p) (C:={C with inp:=C.inp.drop k}) ⟨h.up,h.down,h.log,h.jd0,h.jd⟩ (p.F q) (f q).1 (f q).2;refine(ih _ (m+1) ?_ j).more (by omega)
    rcases zkO p {C with inp:=C.inp.drop k} (p.F q)with e|⟨e,_⟩
    ·rw[e];dsimp only;rw[QJ];omega
    ·rw[e];exact Qn _
  ·rw[zkv a];exact h.more (by omega)
theorem zxQ:Big newC 0:=⟨Qd _,Qd _,Qd _,ZB _,ZB _⟩
theorem zxS{p:ConP}(a:0<=p.H)(d:0<=p.B)(f:∀q,StIn (p.F q).st/\StIn (p.F q).err){C:ConS}{m n:Nat}(e:C.inp.length<=n)(h:Big C m)(s:Int)(c:s<1000)(b:jE)(hb:b.length<=4096)(x:Int):Big (ansC p C s b x) (m+n+3):=by
 have g:=zdS h s c b hb;refine(zwB a d f n (zns (zhv p.num (zc3 C s b) C.wt x)) (m+2) e ⟨?_,?_,?_,g.jd0,?_⟩).more (by omega)
 ·exact Ql g.up (by omega)
 ·exact Ql g.down (by omega)
 ·show (C.log++[_]).length<=_
  rw[Qb];have:=h.log;simp only[Qq,QP];omega
 ·exact Int.le_trans g.jd (by omega)
structure RC where
 re:Rec
 A:Option Addr
 c:Nat
def zkz(x:RC):List Value:=[jA x.re.conn,jA x.re.out,jA x.re.by_,jA x.re.score,.slice x.A x.re.matched.length x.c,.string (bs x.re.target)]
def zqS:RowT RC where
 e:=89
 t:=40
 size:=6
 bytes:=72
 z:=.agg #[jA 0,jA 0,jA 0,jA 0,jD 0 0,.string ByteArray.empty]
 cells:=zkz
 hsz _:=rfl
 hpos:=by decide
 under:=underlying40
 info:=by kernel_rfl
 hz:=rfl
 one x u hu:=by simp only[zkz,QN,Zz,XA]at hu;rcases hu with rfl|rfl|rfl|rfl|rfl|rfl <;> rfl
 hbytes:=by decide
theorem zq1:∀l:List zas,(∀f∈l,f.1.size+f.2.size<=1000)->znd l<=l.length*1002:=by
 intro l
 induction l with
 |nil=>intro _;exact Qn _
 |cons x l ih=>
  intro h;have h1:=ih λf a=>h f (by simp[a])
  have h2:=h x (by simp);rw[zgs,Qq,Xl];omega
theorem zqq{h:zbR}(a:zh3 h):zgF h.fs:=
 zpV (by have:=a.few;omega) (by have:=zq1 h.fs a.lens;have:=a.few;omega)
theorem zy8{a:RuArg}{j most:Nat}{w W:World}{A:Option Addr}{c base:Nat}{q:ReqV}(hl:RuLies w w.heap.size a)(n:zb9 a)(o:j<4294967296)(d:most<=1048576)(g:LibOk w)(e:TabOk w)(hb:w W)
 (i:zh3 q.h) (r:q.b.length<=4096) (k:OwnV W base (.slice A q.h.fs.length c) q.h.fs):RunIn a q.h.m q.h.t (bs q.b) q.h.fs A j most W:=
 ⟨hl.keep hb hb.size,n,OwnV.sl k,λf l=>by have:=i.lens f l;unfold maxLen;omega,by have:=i.few;omega,by have:=i.line;omega,by rw[zah];omega,d,o,g.below hb,e.below hb⟩
theorem zd8{r:zfy}{H B A:Int}(h:zcd r H B A=0):zbG H B A=true:=by
 unfold zcd at h
 by_cases c:za1 argC r=0
 ·rw[Qf (by omega)]at h
  unfold bndE at h;cases hb:zbG H B A with
  |true=>rfl
  |false=>rw[hb]at h;cases h
 ·rw[Qj c]at h;exact absurd h c
theorem znC{H B A:Int}(h:zbG H B A=true):1<=A/\A<=40:=by
 unfold zbG at h;simp only[Q3,QX]at h;exact h.2
section
variable {P:Program} {ops:Array Oper} {Q:Exit->Act->World->Prop} {md:Region.Mode} {S:World->Prop} {U:Nat}
def OneU(P:Program)(g:Region.Mode)(d:Array Oper)(Q:Exit->Act->World->Prop)(S:World->Prop)(U c:Nat)(b:Array Bool)(a:Act)(w:World)(i:Nat)(o:Oper):Prop:=
 ∀f:Act->World->Prop,Shut (∀e w',((b.setIfInBounds i true).getD U true=false->S w')->zcc P g d Q S U c (b.setIfInBounds i true) e w'->f e w')->Oper.wp P o a w f Q
theorem zez{i j:Nat}{o m:Oper}{c:Nat}{b:Array Bool}{a:Act}{w:World}(q:Region.ready md ops b=[i,j])(u:ops[i]? = some o)(l:ops[j]? = some m)(t:Region.wanted o (yielded ops a.tmps)=true)(e:Region.wanted m (yielded ops a.tmps)=true)
 (h:OneU P md ops Q S U c b a w i o) (s:OneU P md ops Q S U c b a w j m):zcc P md ops Q S U (c+1) b a w:=by
 refine⟨λr=>absurd (q ▸ r) (by simp),λk d=>?_⟩;rw[q]at d
 rcases QN.1 d with rfl|d
 ·refine wpOp_step u λn g=>?_
  rw[Qj t];exact h n λf w' h1 h2=>g f w' ⟨h1,h2⟩
 ·obtain rfl:=QF.1 d
  refine wpOp_step l λn g=>?_
  rw[Qj e];exact s n λf w' h1 h2=>g f w' ⟨h1,h2⟩
end
attribute [go_sem] results40
def z9:Array Value:=#[.string (.mk #[]),.string (.mk #[]),jD 0 0,.string (.mk #[]),jA 0,jA 0,jA 0,jD 0 0,jA 0]
def zcI(w:World)(g:Nat):List (Nat × Value)->World
 | []=>w
 |(j,v)::l=>zcI (w.setCell ⟨g,j,none⟩ v) g l
def zqC(cs:Array Value):List (Nat × Value)->Array Value
 | []=>cs
 |(j,v)::l=>zqC (cs.setIfInBounds j v) l
theorem zg6{g:Nat}{t:TypeId}:∀(l:List (Nat × Value)) (w:World) (cs:Array Value),w.heap[g]? = some (.cells cs t (0,0))->(zcI w g l).heap[g]? = some (.cells (zqC cs l) t (0,0))
 | [],_,_,h=>h
 |(j,v)::l,w,cs,h=>zg6 l _ _ (QW w g j cs t v h)
theorem zcR{g i:Nat}(a:i≠g):∀(l:List (Nat × Value)) (w:World),(zcI w g l).heap[i]? = w.heap[i]?
 | [],_=>rfl
 |(j,v)::l,w=>(zcR a l _).trans (Qm w ⟨g,j,none⟩ v i a)
theorem zdo{B g:Nat}(b:B<=g):∀(l:List (Nat × Value)) (a w:World),Below B a w->Below B a (zcI w g l)
 | [],_,_,h=>h
 |(j,v)::l,a,_,h=>zdo b l a _ (h.setCell (p:=⟨g,j,none⟩) b v)
def l9(a g h:ByteArray)(j i:Option Addr)(n2 c2 b d:Nat)(c k f e:Int):List (Nat × Value):=[(0,.string a),(1,.string g),(2,.slice j n2 c2),(3,.string h),(4,jA c),(5,jA k),(6,jA f),(7,.slice i b d),(8,jA e)]
theorem box9{w:World}{g:Nat}{t:TypeId}(h:w.heap[g]? = some (.cells z9 t (0,0)))(a n c:ByteArray)(j d:Option Addr)(n2 c2 i f:Nat)(b k m l:Int):(zcI w g (l9 a n c j d n2 c2 i f b k m l)).heap[g]? = some (.cells #[.string a,.string n,.slice j n2 c2,.string c,jA b,jA k,jA m,.slice d i f,jA l] t (0,0)):=by
 have h1:=zg6 (l9 a n c j d n2 c2 i f b k m l) w z9 h;have e:zqC z9 (l9 a n c j d n2 c2 i f b k m l)=#[.string a,.string n,.slice j n2 c2,.string c,jA b,jA k,jA m,.slice d i f,jA l]:=by kernel_rfl
 rw[e]at h1;exact h1
theorem zcV(w:World)(o:Obj):∃g,w.heap.size=g/\(w.alloc o).heap[g]? = some o/\g<(w.alloc o).heap.size/\w (w.alloc o):=⟨_,rfl,Qv w o,by rw[Qp];exact Zu _,(Qi _ _).alloc (Qd _) o⟩
def JMid(o:World->Array Value->ByteArray->Prop)(d:World)(b a:Value)(wx:World):Prop:=
 ∃(gb:Nat) (c n f:ByteArray) (j g:Option Addr) (n2 c2 i h:Nat) (e k m l:Int) (s:ByteArray),b=.pointer gb/\a=.string s/\wx.heap[gb]? = some (.cells #[.string c,.string n,.slice j n2 c2,.string f,jA e,jA k,jA m,.slice g i h,jA l] 58 (0,0))/\o wx #[.string c,.string n,.slice j n2 c2,.string f,jA e,jA k,jA m,.slice g i h,jA l] s/\d wx
theorem zs0(w b:World)(e0 e1 b0 b1 b2 cl:Int)(m t Z:ByteArray)(A rA:Option Addr)(n c rn rc:Nat)(Q:World->Option Addr->Nat->Prop)(U:World->Array Value->ByteArray->Prop)(P:Ending->World->Prop)
 (h6:Hid ((((w.alloc (.cells #[jA e0,jA e1,.slice rA rn rc] 24)).alloc (.cells #[jA b0,jA b1,jA b2] 26)).alloc (.cells #[.string m,.string t,.slice A n c,.string Z] 53)).alloc (.cells z9 58)=b))
 (h9:Hid (Calls prog 56 #[.agg #[jA e0,jA e1,.slice rA rn rc],.agg #[jA b0,jA b1,jA b2]] b λe w'=>e=jC (jA 0)/\b w'))
 (h5:Hid (∀W,b W->Calls prog 58 #[.agg #[.string m,.string t,.slice A n c,.string Z]] W λe w'=>∃I H,e=jC (.agg #[.string m,.string t,.slice I n H,.string Z])/\Q w' I H/\W w'))
 (h3:Hid (∀W W' I H,Q W I H->W W'->Q W' I H))
 (T:Hid (∀W I H,b W->Q W I H->Calls prog 57 #[.agg #[jA e0,jA e1,.slice rA rn rc],.agg #[jA b0,jA b1,jA b2],.int .u32 cl,.agg #[.string m,.string t,.slice I n H,.string Z]] W λe w'=>∃(l q D:ByteArray) (f B:Option Addr) (n2 c2 x E:Nat) (z C F y:Int) (s:ByteArray),e=jC (.tuple #[.agg #[.string l,.string q,.slice f n2 c2,.string D,jA z,jA C,jA F,.slice B x E,jA y],.string s])/\U w' #[.string l,.string q,.slice f n2 c2,.string D,jA z,jA C,jA F,.slice B x E,jA y] s/\W w'))
 (hh:Hid (∀W W' ov s,U W ov s->W W'->U W' ov s))
 (h0:Hid (∀(W W':World) (ov:Array Value) (s:ByteArray) (g:Nat) (cs:Array Value),U W ov s->W.heap[g]? = some (.cells cs 58 (0,0))->(∀j,j≠g->W'.heap[j]? = W.heap[j]?)->U W' ov s))
 (h7:Hid (∀(W:World) (l q D:ByteArray) (f B:Option Addr) (n2 c2 x E:Nat) (z C F y:Int) (s:ByteArray),U W #[.string l,.string q,.slice f n2 c2,.string D,jA z,jA C,jA F,.slice B x E,jA y] s->w W->P (jC (.tuple #[.agg #[.string l,.string q,.slice f n2 c2,.string D,jA z,jA C,jA F,.slice B x E,jA y],.string s,jA 0])) W)):
 Calls prog 40 #[.agg #[jA e0,jA e1,.slice rA rn rc],.agg #[jA b0,jA b1,jA b2],.int .u32 cl,.agg #[.string m,.string t,.slice A n c,.string Z]] w P:=by
 have G:=h6.out;have hd:b.heap.size=w.heap.size+4:=by rw[<-G];simp
 have V:w b:=by rw[<-G];exact((WaL.alloc (by simp) _).alloc (by simp;omega) _).alloc (by simp;omega) _
 have hR:b.heap[w.heap.size]? = some (.cells #[jA e0,jA e1,.slice rA rn rc] 24 (0,0)):=by
  rw[<-G];exact(Qs _ _ _ (by simp only[Qp];omega)).trans ((Qs _ _ _ (by simp only[Qp];omega)).trans ((Qs _ _ _ (by simp only[Qp];omega)).trans (Qv w _)))
 have hB:b.heap[w.heap.size+1]? = some (.cells #[jA b0,jA b1,jA b2] 26 (0,0)):=by
  rw[<-G];exact(Qs _ _ _ (by simp only[Qp];omega)).trans ((Qs _ _ _ (by simp only[Qp];omega)).trans (zbb _ _ _ (by simp only[Qp])))
 have hQ:b.heap[w.heap.size+1+1]? = some (.cells #[.string m,.string t,.slice A n c,.string Z] 53 (0,0)):=by
  rw[<-G];exact(Qs _ _ _ (by simp only[Qp];omega)).trans (zbb _ _ _ (by simp only[Qp]))
 have N:b.heap[w.heap.size+1+1+1]? = some (.cells z9 58 (0,0)):=by
  rw[<-G];exact zbb _ _ _ (by simp only[Qp])
 have u:Hid (∀W,b W->(∀j,W.cell? ⟨w.heap.size,j,none⟩=(#[jA e0,jA e1,.slice rA rn rc]:Array Value)[j]?)/\(∀j,W.cell? ⟨w.heap.size+1,j,none⟩=(#[jA b0,jA b1,jA b2]:Array Value)[j]?)/\(∀j,W.cell? ⟨w.heap.size+1+1,j,none⟩=(#[.string m,.string t,.slice A n c,.string Z]:Array Value)[j]?)):=hIx λW hb=>
  ⟨zak ((hb.block _ (by omega)).trans hR),zak ((hb.block _ (by omega)).trans hB),zak ((hb.block _ (by omega)).trans hQ)⟩
 have ha:Hid (∀W,b W->W.heap[w.heap.size+1+1+1]? = some (.cells z9 58 (0,0))/\w W):=hIx λW hb=>⟨(hb.block _ (by omega)).trans N,V.trans (hb.mono V.size)⟩
 clear G hR hB hQ N hd V;have ⟨r0,r1,r2⟩:=u.out b (Qi _ _)
 go_in
 go_upto_region 1 with fail
 have X:=h6.out;unfold z9 at X;rw[X];clear X;go_wp2_with (go_at_call 56;apply Hid.out);refine WhM h9 ?_;rintro e w1 ⟨rfl,h8⟩;have ⟨s0,s1,s2⟩:=u.out w1 h8;clear r0 r1 r2;go_upto_region 4 with fail
 clear s0 s1 s2
 go_cut [12,13]from 21 to 29 (λhf hc wx=>JMid U b hf hc wx)
 case first=>
  refine zcm 5 (λW=>b W) (by kernel_rfl) h8.drew ?_;intro a;generalize w1.drew=wd at a ⊢;refine zaq (i:=0) (v:=?v0_1) [5] (some 22) rfl rfl (by kernel_rfl) (by kernel_rfl) (by kernel_rfl) (by decide) (by kernel_rfl) (by decide) (by kernel_rfl) (λ_ _ _ h=>h) (by rfl) ?hy0_1 a ?rest0_1
  case hy0_1=>(intro w J;obtain⟨l,q,f⟩:=u.out w J;go_simp;try rfl)
  intro a
  (try simp only[Act.put,Qa,Qg,Qh])
  refine zaq (i:=1) (v:=?v1_2) [5] (some 23) rfl rfl (by kernel_rfl) (by kernel_rfl) (by kernel_rfl) (by decide) (by kernel_rfl) (by decide) (by kernel_rfl) (λ_ _ _ h=>h) (by rfl) ?hy1_2 a ?rest1_2
  case hy1_2=>(intro w J;obtain⟨l,q,f⟩:=u.out w J;go_simp;try rfl)
  intro a
  (try simp only[Act.put,Qa,Qg,Qh])
  refine zab (i:=2) (v:=?v2_3) (some 24) rfl rfl (by kernel_rfl) (by kernel_rfl) (by kernel_rfl) (by decide) (λ_ _ _ h=>h) (by rfl) ?hy2_3 a ?rest2_3
  case hy2_3=>(intro w;go_simp;try rfl)
  intro a
  (try simp only[Act.put,Qa,Qg,Qh])
  refine zaq (i:=3) (v:=?v3_4) [4,5] (some 25) rfl rfl (by kernel_rfl) (by kernel_rfl) (by kernel_rfl) (by decide) (by kernel_rfl) (by decide) (by kernel_rfl) (λ_ _ _ h=>h) (by rfl) ?hy3_4 a ?rest3_4
  case hy3_4=>(intro w J;obtain⟨l,q,f⟩:=u.out w J;go_simp;try rfl)
  intro a
  (try simp only[Act.put,Qa,Qg,Qh])
  refine zez (i:=4) (j:=9) (by kernel_rfl) rfl rfl (by rfl) (by rfl) ?_ ?_
  focus
   intro K r
   go_simp
   refine(h5.out _ a).mono ?_;rintro e w2 ⟨I,H,rfl,N,L⟩;have a:=a.trans (L.mono a.size);refine r.out _ _ (λ_=>a) ?_
   (try simp only[Act.put,Qa,Qg,Qh])
   refine zez (i:=5) (j:=9) (by kernel_rfl) rfl rfl (by rfl) (by rfl) ?_ ?_
   focus
    intro K r
    go_simp
    refine(T.out _ I H a N).mono ?_;rintro e w3 ⟨l,q,D,f,B,n2,c2,x,E,z,C,F,y,s,rfl,O,o⟩;have a:=a.trans (o.mono a.size);refine r.out _ _ (λ_=>a) ?_
    (try simp only[Act.put,Qa,Qg,Qh])
    refine zab (i:=6) (v:=?v6_5) (some 21) rfl rfl (by kernel_rfl) (by kernel_rfl) (by kernel_rfl) (by decide) (λ_ _ _ h=>h) (by rfl) ?hy6_5 a ?rest6_5
    case hy6_5=>(intro w;go_simp;try rfl)
    intro _
    (try simp only[Act.put,Qa,Qg,Qh])
    refine zab (i:=7) (v:=?v7_6) (some 28) rfl rfl (by kernel_rfl) (by kernel_rfl) (by kernel_rfl) (by decide) (λ_ _ _ h=>h) (by rfl) ?hy7_6 a ?rest7_6
    case hy7_6=>(intro w;go_simp;try rfl)
    intro _
    (try simp only[Act.put,Qa,Qg,Qh])
    refine zab (i:=8) (v:=?v8_7) (some 29) rfl rfl (by kernel_rfl) (by kernel_rfl) (by kernel_rfl) (by decide) (λ_ _ _ h=>h) (by rfl) ?hy8_7 a ?rest8_7
    case hy8_7=>(intro w;go_simp;try rfl)
    intro _
    (try simp only[Act.put,Qa,Qg,Qh])
    refine zaj (i:=9) (some 12) _ (by kernel_rfl) rfl rfl rfl (by rfl) (by kernel_rfl) ?_;intro K r
    go_simp
    obtain⟨gb,S,k,hl,d⟩:=zcV w3 (Obj.cells z9 58);have Y:b.heap.size<=gb:=S ▸ a.size;have a:=a.trans (d.mono a.size);have O:=hh.out _ _ _ _ O d;unfold z9 at k hl d a O;rw[S];generalize World.alloc w3 (Obj.cells #[Value.string (.mk #[]),Value.string (.mk #[]),jD 0 0,Value.string (.mk #[]),jA 0,jA 0,jA 0,jD 0 0,jA 0] 58)=wz at k hl a O ⊢;refine r.out _ _ ?_
    (try simp only[Act.put,Qa,Qg,Qh])
   rotate_left
   focus
    intro K r
    go_simp
    obtain⟨gb,S,k,hl,d⟩:=zcV w2 (Obj.cells z9 58);have Y:b.heap.size<=gb:=S ▸ a.size;have a:=a.trans (d.mono a.size);have N:=h3.out _ _ _ _ N d;unfold z9 at k hl d a N;rw[S];refine r.out _ _ (λ_=>a) ?_
    (try simp only[Act.put,Qa,Qg,Qh])
    refine zaj (i:=5) (some 27) _ (by kernel_rfl) rfl rfl rfl (by rfl) (by kernel_rfl) ?_;intro K r
    go_simp
    refine(T.out _ I H a N).mono ?_;rintro e wz ⟨l,q,D,f,B,n2,c2,x,E,z,C,F,y,s,rfl,O,o⟩;have a:=a.trans (o.mono a.size);have k:=(o.block gb hl).trans k;have hl:=Qw hl o.size;refine r.out _ _ ?_
    (try simp only[Act.put,Qa,Qg,Qh])
    refine zab (i:=6) (v:=?v6_8) (some 21) rfl rfl (by kernel_rfl) (by kernel_rfl) (by kernel_rfl) (by decide) (λ_ _ _ h=>h) (by rfl) ?hy6_8 a ?rest6_8
    case hy6_8=>(intro w;go_simp;try rfl)
    intro _
    (try simp only[Act.put,Qa,Qg,Qh])
    refine zab (i:=7) (v:=?v7_9) (some 28) rfl rfl (by kernel_rfl) (by kernel_rfl) (by kernel_rfl) (by decide) (λ_ _ _ h=>h) (by rfl) ?hy7_9 a ?rest7_9
    case hy7_9=>(intro w;go_simp;try rfl)
    intro _
    (try simp only[Act.put,Qa,Qg,Qh])
    refine zab (i:=8) (v:=?v8_10) (some 29) rfl rfl (by kernel_rfl) (by kernel_rfl) (by kernel_rfl) (by decide) (λ_ _ _ h=>h) (by rfl) ?hy8_10 a ?rest8_10
    case hy8_10=>(intro w;go_simp;try rfl)
    intro _
    (try simp only[Act.put,Qa,Qg,Qh])
  rotate_left
  rotate_left
  focus
   intro K r
   go_simp
   obtain⟨gb,S,k,hl,d⟩:=zcV wd (Obj.cells z9 58);have Y:b.heap.size<=gb:=S ▸ a.size;have a:=a.trans (d.mono a.size);unfold z9 at k hl d a;rw[S];refine r.out _ _ (λ_=>a) ?_
   (try simp only[Act.put,Qa,Qg,Qh])
   refine zdq (i:=4) (some 26) _ (by kernel_rfl) rfl rfl rfl (by rfl) ?_;intro K r
   go_simp
   refine(h5.out _ a).mono ?_;rintro e w2 ⟨I,H,rfl,N,L⟩;have a:=a.trans (L.mono a.size);have k:=(L.block gb hl).trans k;have hl:=Qw hl L.size;refine r.out _ _ a λ_=>?_
   (try simp only[Act.put,Qa,Qg,Qh])
   refine zaj (i:=5) (some 27) _ (by kernel_rfl) rfl rfl rfl (by rfl) (by kernel_rfl) ?_;intro K r
   go_simp
   refine(T.out _ I H a N).mono ?_;rintro e wz ⟨l,q,D,f,B,n2,c2,x,E,z,C,F,y,s,rfl,O,o⟩;have a:=a.trans (o.mono a.size);have k:=(o.block gb hl).trans k;have hl:=Qw hl o.size;refine r.out _ _ ?_
   (try simp only[Act.put,Qa,Qg,Qh])
   refine zab (i:=6) (v:=?v6_11) (some 21) rfl rfl (by kernel_rfl) (by kernel_rfl) (by kernel_rfl) (by decide) (λ_ _ _ h=>h) (by rfl) ?hy6_11 a ?rest6_11
   case hy6_11=>(intro w;go_simp;try rfl)
   intro _
   (try simp only[Act.put,Qa,Qg,Qh])
   refine zab (i:=7) (v:=?v7_12) (some 28) rfl rfl (by kernel_rfl) (by kernel_rfl) (by kernel_rfl) (by decide) (λ_ _ _ h=>h) (by rfl) ?hy7_12 a ?rest7_12
   case hy7_12=>(intro w;go_simp;try rfl)
   intro _
   (try simp only[Act.put,Qa,Qg,Qh])
   refine zab (i:=8) (v:=?v8_13) (some 29) rfl rfl (by kernel_rfl) (by kernel_rfl) (by kernel_rfl) (by decide) (λ_ _ _ h=>h) (by rfl) ?hy8_13 a ?rest8_13
   case hy8_13=>(intro w;go_simp;try rfl)
   intro _
   (try simp only[Act.put,Qa,Qg,Qh])
  all_goals
   refine zaj (i:=10) none _ (by kernel_rfl) rfl rfl rfl (by rfl) (by kernel_rfl) ?_;intro K r;have c9:=zak k;have f9:=λj=>Zc _ _ j _ _ k
   go_simp
   refine r.out _ _ ?_
   (try simp only[Act.put,Qa,Qg,Qh])
   refine zaj (i:=11) (some 13) _ (by kernel_rfl) rfl rfl rfl (by rfl) (by kernel_rfl) ?_;intro K r
   go_simp
   refine r.out _ _ ?_
   (try simp only[Act.put,Qa,Qg,Qh])
   refine zcl (by kernel_rfl) ?_ _;have g1:=box9 k l q D f B n2 c2 x E z C F y;have g2:=h0.out _ (zcI wz gb (l9 l q D f B n2 c2 x E z C F y)) _ _ gb _ O k (λj hj=>zcR hj (l9 l q D f B n2 c2 x E z C F y) _);have g3:=zdo Y (l9 l q D f B n2 c2 x E z C F y) _ _ a;simp only[zcI,l9]at g1 g2 g3;go_wp2;go_meet;exact⟨gb,l,q,D,f,B,n2,c2,x,E,z,C,F,y,s,rfl,rfl,g1,g2,g3⟩
 case rest=>
  obtain⟨gb,l,q,D,f,B,n2,c2,x,E,z,C,F,y,s,rfl,rfl,k,O,hb⟩:=hcut;have ⟨hr,h4⟩:=ha.out wc hb;have he:=h7.out (zcI wc (w.heap.size+1+1+1) (l9 l q D f B n2 c2 x E z C F y)) l q D f B n2 c2 x E z C F y s (h0.out _ _ _ _ _ _ O hr λj hj=>zcR hj _ _) (zdo (by omega) _ _ _ h4);simp only[zcI,l9]at he;have HE:=hIx he;unfold z9 at hr;have c9:=zak k;have d9:=zak hr;have f9:=λj=>Zc _ _ j _ _ hr
  clear he O hb h4 k hr;go_wp2;exact zad HE.out
structure ConK where
 a:RuArg
 H:Int
 B:Int
 A0:Int
 num:Int
 cl:Nat
 tk:Int
noncomputable def ConK.p(k:ConK):ConP:=⟨outJ k.a.set k.cl k.A0.toNat,k.H,k.B,k.num,k.tk⟩
structure ConM where
 s:ConS
 w:OutM
 lv:Value
 ld:List RC
def zaO(k:ConK)(m:ConM):Array Value:=#[jA k.a.most,jA k.a.status,.slice k.a.A k.a.l.length k.a.c,jA k.H,jA k.B,jA k.A0,jA k.num,.int .u32 k.cl,jA k.tk,jA m.s.gone,jA m.s.st,.string (bs m.s.inp),
 .string m.w.p.q.h.m,.string m.w.p.q.h.t,.slice m.w.A m.w.p.q.h.fs.length m.w.c,.string (bs m.w.p.q.b),jA m.w.p.st,jA m.w.p.who,jA m.w.p.sc,.slice m.w.Am m.w.p.mt.length m.w.cm,jA m.w.p.err,.string (bs m.s.up),.string (bs m.s.down),m.lv,jA m.s.jd]
def CAt(w:World)(g:Nat)(k:ConK)(m:ConM):Prop:=w.heap[g]? = some (.cells (zaO k m) 60 (0,0))
structure Fr(g L:Nat)(w w':World):Prop where
 low:Below g w w'
 mid:∀k,k<L->k≠g->w'.heap[k]? = w.heap[k]?
def Env(B:Nat)(w:World):Prop:=∀W,Below B w W->LibOk W/\TabOk W
theorem Env.below{B:Nat}{w W:World}(h:Env B w)(hb:Below B w W):Env B W:=λ_ a=>h _ (hb.trans a)
structure ConE(w:World)(g L:Nat)(k:ConK):Prop where
 gL:g<L
 le:L<=w.heap.size
 env:Env g w
 lies:RuLies w g k.a
 bulk:zb9 k.a
 ok:zcd k.a.set k.H k.B k.A0=0
 cl:k.cl<4294967296
structure ConT(w:World)(L:Nat)(m:ConM):Prop where
 wt:m.w.p=m.s.wt
 wo:OutOwn w L m.w
 log:OwnG zqS w L m.lv m.ld
 ld:m.ld.map RC.re=m.s.log
 own:∀x∈m.ld,OwnG rowZ w L (.slice x.A x.re.matched.length x.c) x.re.matched
 few:m.s.inp.length<=65536
structure Con(w:World)(g L:Nat)(k:ConK)(m:ConM):Prop where
 e:ConE w g L k
 box:CAt w g k m
 t:ConT w L m
section
variable {g L:Nat} {w W V:World} {k:ConK} {m:ConM}
theorem Fr.refl:Fr g L w w:=⟨Qi _ _,λ_ _ _=>rfl⟩
theorem Fr.trans(h:Fr g L w W)(h2:Fr g L W V):Fr g L w V:=⟨h.low.trans h2.low,λj a b=>(h2.mid j a b).trans (h.mid j a b)⟩
theorem Fr.of(b:g<L)(c:L<=w.heap.size)(hb:w W):Fr g L w W:=⟨hb.mono (by omega),λj a _=>hb.block j (by omega)⟩
theorem Fr.set(j:Nat)(v:Value):Fr g L w (w.setCell ⟨g,j,none⟩ v):=⟨(Qi _ _).setCell (p:=⟨g,j,none⟩) (Qd g) v,λi _ a=>Qm w ⟨g,j,none⟩ v i a⟩
theorem Fr.size(h:Fr g L w W):w.heap.size<=W.heap.size:=h.low.size
theorem ConE.fr(h:ConE w g L k)(a:Fr g L w W):ConE W g L k:=⟨h.gL,Ql h.le a.size,h.env.below a.low,h.lies.keep a.low (Qd _),h.bulk,h.ok,h.cl⟩
theorem ConT.keep(h:ConT w L m)(b:∀j,L<=j->j<w.heap.size->W.heap[j]? = w.heap[j]?):ConT W L m:=
 ⟨h.wt,⟨h.wo.f.keep λj a=>b j (QE h.wo.f j a).1 (QE h.wo.f j a).2,h.wo.mt.keep λj a=>b j (h.wo.mt.lt j a).1 (h.wo.mt.lt j a).2⟩,h.log.keep λj a=>b j (h.log.lt j a).1 (h.log.lt j a).2,h.ld,
  λx c=>(h.own x c).keep λj a=>b j ((h.own x c).lt j a).1 ((h.own x c).lt j a).2,h.few⟩
theorem ConT.below(h:ConT w L m)(hb:w W):ConT W L m:=h.keep λj _ a=>hb.block j a
theorem CAt.lt(h:CAt w g k m):g<w.heap.size:=by
 have:=(QI.1 h).1;exact this
theorem CAt.cells(h:CAt w g k m)(j:Nat):w.cell? ⟨g,j,none⟩=(zaO k m)[j]? := zak h j
theorem CAt.free(h:CAt w g k m)(j:Nat):w.frozen? ⟨g,j,none⟩=false:=Zc _ _ j _ _ h
theorem Con.below(h:Con w g L k m)(hb:w W):Con W g L k m/\Fr g L w W:=
 have a:=Fr.of h.e.gL h.e.le hb
 ⟨⟨h.e.fr a,(hb.block g h.box.lt).trans h.box,h.t.below hb⟩,a⟩
end
def MPost(g L:Nat)(k:ConK)(S:ConS)(r:Value)(w:World)(e:Ending)(w':World):Prop:=e=jC r/\∃m,m.s=S/\Con w' g L k m/\Fr g L w w'
theorem MPost.then{g L:Nat}{k:ConK}{S:ConS}{r:Value}{w W w':World}{e:Ending}(a:Fr g L w W)(h:MPost g L k S r W e w'):MPost g L k S r w e w':=by
 obtain⟨h1,m,h2,c,b⟩:=h;exact⟨h1,m,h2,c,a.trans b⟩
theorem zsF{g L:Nat}:∀(l:List (Nat × Value)) (w:World),Fr g L w (zcI w g l)
 | [],_=>.refl
 |(j,v)::l,_=>(Fr.set j v).trans (zsF l _)
theorem Con.store{g L:Nat}{w W:World}{k:ConK}{m:ConM}(h:ConE W g L k)(box:CAt W g k m)(c:Fr g L w W)(l:List (Nat × Value))(a:ConM)(d:ConT W L a)(e:zqC (zaO k m) l=zaO k a)(r:Value):
 MPost g L k a.s r w (jC r) (zcI W g l):=by
 have b:=zsF (g:=g) (L:=L) l W;refine⟨rfl,a,rfl,⟨h.fr b,?_,d.keep λj f _=>zcR (by have:=h.gL;omega) l W⟩,c.trans b⟩;unfold CAt;rw[<-e];exact zg6 l W _ box
def zlL(g L:Nat)(k:ConK)(S:ConS)(r:Value)(w:World)(e:Ending)(w':World):Prop:=MPost g L k S r w e w'/\∀j,j<w.heap.size->j≠g->w'.heap[j]? = w.heap[j]?
theorem Con.puts{g L:Nat}{w W:World}{k:ConK}{m:ConM}(h:Con w g L k m)(hb:w W)(l:List (Nat × Value))(a:ConM)(c:ConT W L a)(d:zqC (zaO k m) l=zaO k a)(r:Value):
 zlL g L k a.s r w (jC r) (zcI W g l):=
 have h2:=h.below hb
 ⟨Con.store h2.1.e h2.1.box h2.2 l a c d r,λj b f=>(zcR f l W).trans (hb.block j b)⟩
section
variable {ops:Array Oper} {rest:List Oper} {o:Oper} {a:Act} {Q:Exit->Act->World->Prop} {w:World}
theorem zfU{L:Type}(R:RowT L){K:Act->World->Prop}(s x:Operand)(U:o.op=.call {callee:=.builtin .append,args:=#[s,x],argTypes:=#[R.t,R.t]})
 (base:Nat) (v:Value) (r:List L) (V:a.eval s=v) (d:OwnG R w base v r) (f:base<=w.heap.size)
 (A:Option Addr) (m c:Nat) (l:List L) (hm:m=l.length) (W:a.eval x=.slice A m c) (B:Nat) (n:Sl w B R.size A m (l.flatMap R.cells)) (hn:r.length+m<=1000000000000)
 (h:∀v' w',OwnG R w' base v' (r++l)->Below base w w'->(∀g,g<w.heap.size->v.ownBlock≠some g->w'.heap[g]? = w.heap[g]?)->w.heap.size<=w'.heap.size->K (a.put o.dst v') w'):
 o.wp prog a w K Q:=by
 subst hm;obtain⟨Z,O,E,G,H⟩:=ZG R.info;have hb:=R.hbytes;cases A with
 |none=>
  have D:l=[]:=by
   rcases Z4 (l.flatMap R.cells).length with F|F
   ·have:=za3 R.cells R.size R.hsz l
    have hp:=R.hpos;refine QA ((Nat.mul_eq_zero.1 (this.symm.trans F)).resolve_right (by omega))
   ·obtain⟨b,I,e,_⟩:=n.src F;cases e
  subst D
  have hr:(Builtin.append_ #[R.t,R.t] o.type #[v,.slice none 0 c]).run prog w=.ok v w:=by
   rcases d.2 with ⟨rfl,_⟩|⟨g,cap,h3,rfl,_,_,J,_⟩
   ·simp[Builtin.append_,ZK R.under,sizeOf,typeInfo,O,Builtin.lenOf,Builtin.firstCells]
   ·simp[Builtin.append_,ZK R.under,sizeOf,typeInfo,O,Builtin.lenOf,Builtin.firstCells,J,storeCells]
  unfold Oper.wp execOp;simp only[U,resolve,invoke,builtin,Xj,Sem.run_pure,ZY,List.map_toArray,Q8,ZE,V,W,QP,hr];exact h v w (by rw[QO];exact d) (Qi _ _) (λ_ _ _=>rfl) (Qd _)
 |some T=>
  have i:∀j u,(l.flatMap R.cells)[j]? = some u->w.cell? (T.add j)=some u:=λj u z=>by
   have S:=(Qy.1 z).1;obtain⟨b,I,e,_,hc⟩:=n.src (Nat.lt_of_le_of_lt (Qn _) S);injection e with e
   subst e;rw[Xz,hc j S,<-z,Qe S]
  refine wp_append_own (P:=prog) w s x R.t U base R.e Z _ R.size R.bytes R.under O E G H R.hz R.hpos v r.length (r.flatMap R.cells) V d T l.length c (l.flatMap R.cells) W n.len i
   (λu z=>by obtain⟨y,_,hy⟩:=List.mem_flatMap.1 z;exact R.one y u hy) (by unfold maxLen;omega) (Ql (Nat.mul_le_mul hn hb) (by decide)) f ?_
  intro v' w' N q _;exact h v' w' (by unfold OwnG;rw[Qb,Q7];exact N) ((Qi _ _).grown q f (λk Y=>(QE d k Y).1)) (λg X C=>q.block g X (λe=>C e.symm)) q.size
theorem zbF{j:Type}(R:RowT j)(f:o.guard=none)(s x:Operand)(q:o.op=.call {callee:=.builtin .append,args:=#[s,x],argTypes:=#[R.t,R.t]})
 (base:Nat) (v:Value) (e:List j) (u:a.eval s=v) (d:OwnG R w base v e) (b:base<=w.heap.size)
 (A:Option Addr) (m c:Nat) (l:List j) (C:m=l.length) (y:a.eval x=.slice A m c) (B:Nat) (i:Sl w B R.size A m (l.flatMap R.cells)) (z:e.length+m<=1000000000000)
 (h:∀v' w',OwnG R w' base v' (e++l)->Below base w w'->(∀g,g<w.heap.size->v.ownBlock≠some g->w'.heap[g]? = w.heap[g]?)->w.heap.size<=w'.heap.size->wpList prog ops Q rest (a.put o.dst v') w'):
 wpList prog ops Q (o::rest) a w:=
 Z3 f λ_ n=>zfU R s x q base v e u d b A m c l C y B i z λv' w' h1 h2 r k=>n _ _ (h v' w' h1 h2 r k)
end
attribute [go_sem] results58 results40
def zpC(w:World):List (Nat × Nat × Value)->World
 | []=>w
 |(g,j,v)::l=>zpC (w.setCell ⟨g,j,none⟩ v) l
theorem zj6{i:Nat}:∀(l:List (Nat × Nat × Value)) (w:World),(∀p∈l,p.1≠i)->(zpC w l).heap[i]? = w.heap[i]?
 | [],_,_=>rfl
 |(g,j,v)::l,w,h=>(zj6 l _ λp a=>h p (by simp[a])).trans (Qm w ⟨g,j,none⟩ v i λe=>h (g,j,v) (by simp) e.symm)
theorem ziy{B:Nat}:∀(l:List (Nat × Nat × Value)) (w:World),(∀p∈l,B<=p.1)->Below B w (zpC w l)
 | [],_,_=>Qi _ _
 |(g,j,v)::l,w,h=>((Qi B w).setCell (p:=⟨g,j,none⟩) (h (g,j,v) (by simp)) v).trans (ziy l _ λp a=>h p (by simp[a]))
def rowF:RowT zas where
 e:=162
 t:=49
 size:=2
 bytes:=32
 z:=.agg #[.string ByteArray.empty,.string ByteArray.empty]
 cells:=zaJ
 hsz _:=rfl
 hpos:=by decide
 under:=underlying49
 info:=by kernel_rfl
 hz:=rfl
 one x u hu:=by simp only[zaJ,QN,Zz,XA]at hu;rcases hu with rfl|rfl <;> rfl
 hbytes:=by decide
theorem zr2(m t b:ByteArray)(d:List zas)(A:Option Addr)(c:Nat)(w:World)(h:Sl w w.heap.size 2 A d.length (d.flatMap zaJ))(F:d.length<=1048576):
 Calls prog 58 #[.agg #[.string m,.string t,.slice A d.length c,.string b]] w λe w'=>∃n l,e=jC (.agg #[.string m,.string t,.slice n d.length l,.string b])/\OwnV w' w.heap.size (.slice n d.length l) d/\w w':=by
 obtain⟨a,f⟩:∃a,(w.alloc (.cells #[.string m,.string t,.slice A d.length c,.string b] 53)).alloc (.cells #[.string (.mk #[]),.string (.mk #[]),jD 0 0,.string (.mk #[])] 53)=a:=⟨_,rfl⟩
 have i:w a:=by rw[<-f];exact WaL.alloc (by simp) _
 have z:a.heap.size=w.heap.size+2:=by rw[<-f];simp
 have h1:a.heap[w.heap.size]? = some (.cells #[.string m,.string t,.slice A d.length c,.string b] 53 (0,0)):=by rw[<-f];exact(Qs _ _ _ (by simp)).trans (Qv w _)
 have h2:a.heap[w.heap.size+1]? = some (.cells #[.string (.mk #[]),.string (.mk #[]),jD 0 0,.string (.mk #[])] 53 (0,0)):=by rw[<-f];exact zbb _ _ _ (by simp)
 have B:=hIx ((h.below i).more i.size);have I:=hIx F
 have k:Hid (∀(w':World) n l x q u o v,OwnG rowF w' a.heap.size (.slice n d.length l) d->a w'->
  OwnV (zpC w' [(w.heap.size,2,x),(w.heap.size+1,0,q),(w.heap.size+1,1,u),(w.heap.size+1,2,o),(w.heap.size+1,3,v)]) w.heap.size (.slice n d.length l) d/\w (zpC w' [(w.heap.size,2,x),(w.heap.size+1,0,q),(w.heap.size+1,1,u),(w.heap.size+1,2,o),(w.heap.size+1,3,v)])):=hIx λw' n l x q u o v r hb=>
  ⟨(OwnG.keep (R:=rowF) r λg y=>zj6 _ _ (by have:=(r.lt g y).1;simp;omega)).low (by omega),(i.trans (hb.mono i.size)).trans (ziy _ _ (by simp))⟩
 simp only[zpC]at k;have y:w.heap.size<a.heap.size:=by omega
 have s:w.heap.size+1<a.heap.size:=by omega
 have C:=hIx f;have H:=hIx (λw' (hb:a w')=>And.intro ((hb.block _ y).trans h1) ((hb.block _ s).trans h2));have c1:=zak h1;clear i z h1 h2 h F f y s
 go_in
 go_upto_region 1 with fail
 rw[C.out];go_wp2_with (at_builtin;refine zbF rowF rfl (.const (jD 0 0)) (.tmp 5) rfl a.heap.size (jD 0 0) [] rfl (OwnG.nil _ _ _) (Qd _) A d.length c d rfl rfl a.heap.size B.out (by have:=I.out;simp;omega) ?_;intro v' w' r hb K O;obtain⟨n,l,rfl,_⟩:=r.form;have ⟨D,E⟩:=H.out w' hb;have N:=zak D;have J:=zak E;have L:=λj=>Zc _ _ j _ _ D;have P:=λj=>Zc _ _ j _ _ E);have G:=hIx (λx q u o v=>k.out w' n l x q u o v r hb);clear D E k;exact zad ⟨n,l,rfl,(G.out _ _ _ _ _).1,(G.out _ _ _ _ _).2⟩
