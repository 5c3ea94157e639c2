/- Lemmas for the last texts. -/
import Derived.Test.YtnnokglddolglaaGreatDoorM27
set_option maxHeartbeats 6400000
set_option maxRecDepth 100000
namespace Go.Proofs.YtnnokglddolglaaGreatDoor
open Go.RowKit Go.Proofs.Tryz
structure RunS where
 sc:Int
 st:Int
 who:Int
 mt:List Int
 sk:Int
 dn:Bool
def actS(b:Int)(s:RunS)(a:zcZ):RunS:=
 if s.dn=true then s else if a.k=3 then {s with sc:=min (s.sc+a.n) 1000000}else if a.k=4 then {s with sk:=a.n}else if a.k=2 then {s with st:=a.n,who:=b,dn:=true}else if a.k=5 then {s with dn:=true}else s
def zeW(s:RunS)(r:zat):RunS:=r.acts.foldl (actS r.id) s
def doS(s:RunS)(c:List zat):RunS:=c.foldl zeW {s with mt:=s.mt++c.map (·.id)}
def zd8(hit:Int->zat->Bool)(s:RunS)(c:List zat):RunS:=
 if s.dn=true then s else if 0<s.sk then {s with sk:=s.sk-1}else if c.all (hit s.sc)=true then doS s c else s
def phS(hit:Int->zat->Bool)(a:Int)(x:RunS × List zat)(r:zat):RunS × List zat:=
 if r.phase≠a then x else if r.chain=true then (x.1,x.2++[r])else (zd8 hit x.1 (x.2++[r]),[])
def zaY(hit:Int->zat->Bool)(a:Int)(l:List zat)(s:RunS):RunS:=(l.foldl (phS hit a) ({s with sk:=0},[])).1
def run0:RunS:=⟨0,0,0,[],0,false⟩
def endS(most a:Int)(s:RunS):RunS:=if s.dn=false/\most<=s.sc then {s with st:=a}else s
def runS(hit:Int->zat->Bool)(r:zeG):RunS:=endS r.most r.status (zaY hit 2 r.list (zaY hit 1 r.list run0))
def zdh(a:zcZ):Int:=if a.k=3 then a.n else 0
def sumI(l:List Int):Int:=l.foldr (·+·) 0
def zhH(r:zat):Int:=sumI (r.acts.map zdh)
def zbg(l:List zat):Int:=sumI (l.map zhH)
theorem zuS:sumI []=0:=rfl
theorem zfg(a:Int)(l:List Int):sumI (a::l)=a+sumI l:=rfl
theorem ziv:∀a b:List Int,sumI (a++b)=sumI a+sumI b
 | [],b=>by rw[Xu,zuS];omega
 |x::a,b=>by rw[ZQ,zfg,zfg,ziv a b];omega
theorem zff(a b:List zat):zbg (a++b)=zbg a+zbg b:=by unfold zbg;rw[Q2,ziv]
theorem zkj:zbg []=0:=rfl
def Adds(l:List zat):Prop:=∀r∈l,∀a∈r.acts,0<=zdh a
def zfe(l:List zat):Prop:=∀r∈l,∀a∈r.acts,a.k≠2
theorem zlc:∀{l:List Int},(∀x∈l,0<=x)->0<=sumI l
 | [],_=>ZD 0
 |x::l,h=>by
  rw[zfg];have:=h x Zg;have:=zlc λy a=>h y (Ze _ a)
  omega
theorem zqq{l:List zat}(h:Adds l){r:zat}(c:r∈l):0<=zhH r:=zlc λx d=>by
 obtain⟨a,b,rfl⟩:=QR.1 d;exact h r c a b
theorem zjW{l:List zat}(h:Adds l):0<=zbg l:=zlc λx b=>by
 obtain⟨r,a,rfl⟩:=QR.1 b;exact zqq h a
theorem zpD(b:Int)(s:RunS)(a:zcZ)(h:0<=zdh a):
 (actS b s a).sc<=s.sc+zdh a/\(actS b s a).mt=s.mt/\((actS b s a).who=s.who\/(actS b s a).who=b)/\(a.k≠2->(actS b s a).who=s.who/\(actS b s a).st=s.st)/\(a.k≠4->(actS b s a).sk=s.sk)/\(0<=s.sc->0<=(actS b s a).sc)/\(s.sc<=1000000->(actS b s a).sc<=1000000):=by
 unfold actS;unfold zdh at *
 split
 ·refine⟨by omega,rfl,.inl rfl,λ_=>⟨rfl,rfl⟩,λ_=>rfl,λh=>h,λh=>h⟩
 split
 ·rename_i d
  rw[Qg d]at h;refine⟨?_,rfl,.inl rfl,λ_=>⟨rfl,rfl⟩,λ_=>rfl,λh=>?_,λh=>?_⟩ <;> dsimp only <;> omega
 rename_i d;rw[Qe d]at h
 split
 ·refine⟨by dsimp only;omega,rfl,.inl rfl,λ_=>⟨rfl,rfl⟩,λc=>absurd (by assumption) c,λh=>h,λh=>h⟩
 split
 ·refine⟨by dsimp only;omega,rfl,.inr rfl,λc=>absurd (by assumption) c,λ_=>rfl,λh=>h,λh=>h⟩
 split
 ·exact⟨by dsimp only;omega,rfl,.inl rfl,λ_=>⟨rfl,rfl⟩,λ_=>rfl,λh=>h,λh=>h⟩
 ·exact⟨by omega,rfl,.inl rfl,λ_=>⟨rfl,rfl⟩,λ_=>rfl,λh=>h,λh=>h⟩
theorem zfL(b:Int):∀(l:List zcZ) (s:RunS),(∀a∈l,0<=zdh a)->
 (l.foldl (actS b) s).sc<=s.sc+sumI (l.map zdh)/\(l.foldl (actS b) s).mt=s.mt/\((l.foldl (actS b) s).who=s.who\/(l.foldl (actS b) s).who=b)/\((∀a∈l,a.k≠2)->(l.foldl (actS b) s).who=s.who/\(l.foldl (actS b) s).st=s.st)/\((∀a∈l,a.k≠4)->(l.foldl (actS b) s).sk=s.sk)/\(0<=s.sc->0<=(l.foldl (actS b) s).sc)/\(s.sc<=1000000->(l.foldl (actS b) s).sc<=1000000)
 | [],s,_=>⟨by show s.sc<=s.sc+0;omega,rfl,.inl rfl,λ_=>⟨rfl,rfl⟩,λ_=>rfl,λh=>h,λh=>h⟩
 |a::l,s,h=>by
  obtain⟨v,t,e,n,m,r,i⟩:=zpD b s a (h a Zg);obtain⟨u,p,c,q,g,j,o⟩:=zfL b l (actS b s a) λx f=>h x (Ze _ f)
  rw[List.foldl_cons,QW,zfg];refine⟨by omega,p.trans t,?_,λd=>?_,λd=>?_,λh=>j (r h),λh=>o (i h)⟩
  ·rcases c with c|c
   ·rcases e with e|e
    ·exact .inl (c.trans e)
    ·exact .inr (c.trans e)
   ·exact .inr c
  ·have h1:=q λx f=>d x (Ze _ f)
   have h2:=n (d a Zg);exact⟨h1.1.trans h2.1,h1.2.trans h2.2⟩
  ·exact(g λx f=>d x (Ze _ f)).trans (m (d a Zg))
theorem zdL:∀(c:List zat) (s:RunS),Adds c->
 (c.foldl zeW s).sc<=s.sc+zbg c/\(c.foldl zeW s).mt=s.mt/\((c.foldl zeW s).who=s.who\/(c.foldl zeW s).who∈c.map (·.id))/\(zfe c->(c.foldl zeW s).who=s.who/\(c.foldl zeW s).st=s.st)/\((∀r∈c,∀a∈r.acts,a.k≠4)->(c.foldl zeW s).sk=s.sk)/\(0<=s.sc->0<=(c.foldl zeW s).sc)/\(s.sc<=1000000->(c.foldl zeW s).sc<=1000000)
 | [],s,_=>⟨by show s.sc<=s.sc+0;omega,rfl,.inl rfl,λ_=>⟨rfl,rfl⟩,λ_=>rfl,λh=>h,λh=>h⟩
 |r::c,s,h=>by
  obtain⟨z,w,f,t,q,u,p⟩:=zfL r.id r.acts s (h r Zg);obtain⟨o,m,b,n,i,j,l⟩:=zdL c (zeW s r) λx g=>h x (Ze _ g)
  have e:zbg (r::c)=zhH r+zbg c:=rfl;have y:zhH r=sumI (r.acts.map zdh):=rfl;have v:zeW s r=r.acts.foldl (actS r.id) s:=rfl;rw[List.foldl_cons];rw[v]at o m b n i j l ⊢;refine⟨by omega,m.trans w,?_,λd=>?_,λd=>?_,λh=>j (u h),λh=>l (p h)⟩
  ·rcases b with b|b
   ·rcases f with f|f
    ·exact .inl (b.trans f)
    ·exact .inr (by rw[b,f];exact Zg)
   ·exact .inr (Ze _ b)
  ·have h1:=n λx g=>d x (Ze _ g)
   have h2:=t (d r Zg);exact⟨h1.1.trans h2.1,h1.2.trans h2.2⟩
  ·exact(i λx g=>d x (Ze _ g)).trans (q (d r Zg))
structure zwS(s t:RunS)(c:List zat):Prop where
 sc:t.sc<=s.sc+zbg c
 mt:t.mt=s.mt\/t.mt=s.mt++c.map (·.id)
 who:t.who=s.who\/t.who∈t.mt
 keep:∀x∈s.mt,x∈t.mt
 deny:zfe c->t.who=s.who/\t.st=s.st
 lo:0<=s.sc->0<=t.sc
 hi:s.sc<=1000000->t.sc<=1000000
theorem zv2(hit:Int->zat->Bool)(s:RunS)(c:List zat)(h:Adds c):zwS s (zd8 hit s c) c:=by
 have j:=zjW h;have same:∀k:Int,zwS s {s with sk:=k} c:=λk=>⟨by dsimp only;omega,.inl rfl,.inl rfl,λ_ h=>h,λ_=>⟨rfl,rfl⟩,λh=>h,λh=>h⟩
 unfold zd8
 split
 ·exact same s.sk
 split
 ·exact same _
 split
 ·obtain⟨e,b,a,d,_,g,f⟩:=zdL c {s with mt:=s.mt++c.map (·.id)} h
  unfold doS;dsimp only at e b a d g f;refine⟨e,.inr b,?_,λx i=>by rw[b];exact ZN _ i,d,g,f⟩
  rcases a with a|a
  ·exact .inl a
  ·exact .inr (by rw[b];exact XE _ a)
 ·exact same s.sk
structure ziN(s0:RunS)(done:List zat)(x:RunS × List zat):Prop where
 sc:x.1.sc+zbg x.2<=s0.sc+zbg done
 mt:(x.1.mt++x.2.map (·.id)).Sublist (s0.mt++done.map (·.id))
 who:x.1.who=s0.who\/x.1.who∈x.1.mt
 keep:∀y∈s0.mt,y∈x.1.mt
 sub:∀r∈x.2,r∈done
 deny:zfe done->x.1.who=s0.who/\x.1.st=s0.st
 lo:0<=s0.sc->0<=x.1.sc
 hi:s0.sc<=1000000->x.1.sc<=1000000
theorem zyM(hit:Int->zat->Bool)(k:Int){i:RunS}{done:List zat}{x:RunS × List zat}(h:ziN i done x)(l:Adds done)(r:zat)(p:Adds [r])(o:r.phase=k):ziN i (done++[r]) (phS hit k x r):=by
 have v:=zff done [r];have u:=zff x.2 [r]
 have f:(x.1.mt++(x.2++[r]).map (·.id)).Sublist (i.mt++(done++[r]).map (·.id)):=by
  rw[Q2,Q2,<-QG,<-QG];exact List.Sublist.append h.mt (List.Sublist.refl _)
 have b:∀y∈x.2++[r],y∈done++[r]:=λy a=>by
  rcases QO.1 a with a|a
  ·exact ZN _ (h.sub y a)
  ·exact XE _ a
 have c:zfe (done++[r])->zfe done/\zfe (x.2++[r]):=λe=>⟨λy a=>e y (ZN _ a),λy a=>e y (b y a)⟩
 have t:=h.sc;unfold phS;rw[Qe (by simp[o])]
 split
 ·exact⟨by dsimp only;omega,f,h.who,h.keep,b,λe=>h.deny (c e).1,h.lo,h.hi⟩
 ·have d:Adds (x.2++[r]):=λy a=>by
   rcases QO.1 a with a|a
   ·exact l y (h.sub y a)
   ·exact p y a
  obtain⟨w,a2,g,j,n,s,m⟩:=zv2 hit x.1 (x.2++[r]) d;refine⟨?_,?_,?_,λy a=>j y (h.keep y a),λy a=>(by cases a),λe=>?_,λq=>s (h.lo q),λq=>m (h.hi q)⟩
  ·show (zd8 hit x.1 (x.2++[r])).sc+zbg []<=_
   rw[zkj];omega
  ·show ((zd8 hit x.1 (x.2++[r])).mt++[]).Sublist _
   rw[QE]
   rcases a2 with a2|a2 <;> rw[a2]
   ·exact(List.sublist_append_left _ _).trans f
   ·exact f
  ·rcases g with g|g
   ·rcases h.who with h1|h1
    ·exact .inl (g.trans h1)
    ·exact .inr (by rw[g];exact j _ h1)
   ·exact .inr g
  ·have h1:=h.deny (c e).1
   have h2:=n (c e).2;exact⟨h2.1.trans h1.1,h2.2.trans h1.2⟩
theorem zhb{a b:List zat}(h:Adds (a++b)):Adds a:=λr c=>h r (ZN _ c)
theorem zof(hit:Int->zat->Bool)(a:Int)(f:RunS):∀(l done:List zat) (x:RunS × List zat),ziN f (done.filter (λr=>r.phase==a)) x->Adds (done++l)->
 ziN f ((done++l).filter (λr=>r.phase==a)) (l.foldl (phS hit a) x)
 | [],done,x,h,_=>by rw[QE];exact h
 |r::l,done,x,h,c=>by
  rw[List.foldl_cons];have e:done++r::l=(done++[r])++l:=by simp
  rw[e]at c ⊢;refine zof hit a f l (done++[r]) _ ?_ c;rw[ZW]
  by_cases b:r.phase=a
  ·have g:[r].filter (λr=>r.phase==a)=[r]:=by simp[b]
   rw[g];exact zyM hit a h (λy d=>zhb (zhb c) y (ZE.1 d).1) r (λy d=>zhb c y (XE _ d)) b
  ·have g:[r].filter (λr=>r.phase==a)=[]:=by simp[b]
   rw[g,QE];unfold phS;rw[Qg b];exact h
theorem zpu(hit:Int->zat->Bool)(a:Int)(l:List zat)(s:RunS)(c:Adds l):ziN s (l.filter (λr=>r.phase==a)) (zaY hit a l s,[]):=by
 have h:=zof hit a {s with sk:=0} l [] ({s with sk:=0},[]) ⟨ZD _,List.Sublist.refl _,.inl rfl,λ_ h=>h,λr b=>(by cases b),λ_=>⟨rfl,rfl⟩,λh=>h,λh=>h⟩ c;rw[Xu]at h;have d:=zjW (l:=(l.foldl (phS hit a) ({s with sk:=0},[])).2) λr b=>c r (ZE.1 (h.sub r b)).1
 refine⟨?_,?_,h.who,h.keep,λr b=>(by cases b),h.deny,h.lo,h.hi⟩
 ·have:=h.sc
  show (l.foldl (phS hit a) ({s with sk:=0},[])).1.sc+0<=_
  dsimp only at this ⊢;omega
 ·show ((l.foldl (phS hit a) ({s with sk:=0},[])).1.mt++[]).Sublist _
  rw[QE];exact(List.sublist_append_left _ _).trans h.mt
theorem zhE:∀l:List zat,Adds l->(∀r∈l,r.phase=1\/r.phase=2)->zbg (l.filter (λr=>r.phase==1))+zbg (l.filter (λr=>r.phase==2))=zbg l
 | [],_,_=>rfl
 |r::l,g,f=>by
  have ih:=zhE l (λx d=>g x (Ze _ d)) λx d=>f x (Ze _ d)
  have e:zbg (r::l)=zhH r+zbg l:=rfl
  rcases f r Zg with h|h
  ·have a:(r::l).filter (λr=>r.phase==1)=r::l.filter (λr=>r.phase==1):=by rw[List.filter_cons,Qg (by simp[h])]
   have c:(r::l).filter (λr=>r.phase==2)=l.filter (λr=>r.phase==2):=by rw[List.filter_cons,Qe (by simp[h])]
   have b:zbg (r::l.filter (λr=>r.phase==1))=zhH r+zbg (l.filter (λr=>r.phase==1)):=rfl;rw[a,c,e,b];omega
  ·have a:(r::l).filter (λr=>r.phase==1)=l.filter (λr=>r.phase==1):=by rw[List.filter_cons,Qe (by simp[h])]
   have c:(r::l).filter (λr=>r.phase==2)=r::l.filter (λr=>r.phase==2):=by rw[List.filter_cons,Qg (by simp[h])]
   have b:zbg (r::l.filter (λr=>r.phase==2))=zhH r+zbg (l.filter (λr=>r.phase==2)):=rfl;rw[a,c,e,b];omega
theorem zhX:∀l:List zat,(l.map (·.id)).Nodup->(((l.filter (λr=>r.phase==1)).map (·.id))++((l.filter (λr=>r.phase==2)).map (·.id))).Nodup
 | [],_=>List.nodup_nil
 |r::l,h=>by
  rw[QW,Z6]at h;have ih:=zhX l h.2
  have b:∀f:Int,r.id ∉ (l.filter (λr=>r.phase==f)).map (·.id):=λf a=>by
   obtain⟨y,g,e⟩:=QR.1 a;exact h.1 (QR.2 ⟨y,(ZE.1 g).1,e⟩)
  by_cases h1:r.phase=1
  ·have d:(r::l).filter (λr=>r.phase==1)=r::l.filter (λr=>r.phase==1):=by rw[List.filter_cons,Qg (by simp[h1])]
   have c:(r::l).filter (λr=>r.phase==2)=l.filter (λr=>r.phase==2):=by rw[List.filter_cons,Qe (by simp[h1])]
   rw[d,c,QW,ZQ,Z6];exact⟨λa=>by rcases QO.1 a with a|a;exact b 1 a;exact b 2 a,ih⟩
  ·have d:(r::l).filter (λr=>r.phase==1)=l.filter (λr=>r.phase==1):=by rw[List.filter_cons,Qe (by simp[h1])]
   rw[d]
   by_cases h2:r.phase=2
   ·have c:(r::l).filter (λr=>r.phase==2)=r::l.filter (λr=>r.phase==2):=by rw[List.filter_cons,Qg (by simp[h2])]
    rw[c,QW];refine(List.perm_middle.nodup_iff).2 ?_;rw[Z6];exact⟨λa=>by rcases QO.1 a with a|a;exact b 1 a;exact b 2 a,ih⟩
   ·have c:(r::l).filter (λr=>r.phase==2)=l.filter (λr=>r.phase==2):=by rw[List.filter_cons,Qe (by simp[h2])]
    rw[c];exact ih
structure zz7(r:zeG)(v:RunS):Prop where
 sc:v.sc<=zbg r.list
 lo:0<=v.sc
 hi:v.sc<=1000000
 who:v.who=0\/v.who∈v.mt
 deny:zfe r.list->v.who=0/\(zbg r.list<r.most->v.st=0)
 nodup:v.mt.Nodup
 ids:∀x∈v.mt,∃y∈r.list,y.id=x
theorem zy0(hit:Int->zat->Bool)(r:zeG)(m:Adds r.list)(u:∀x∈r.list,x.phase=1\/x.phase=2)(w:(r.list.map (·.id)).Nodup):zz7 r (runS hit r):=by
 have h1:=zpu hit 1 r.list run0 m;have h2:=zpu hit 2 r.list (zaY hit 1 r.list run0) m;have A:=zhE r.list m u;have s:=h1.sc;have p:=h2.sc;rw[zkj]at s p;have z:run0.sc=0:=rfl
 have v:((zaY hit 1 r.list run0).mt).Sublist ((r.list.filter (λr=>r.phase==1)).map (·.id)):=by
  have:=h1.mt;rw[Zu,QE]at this;exact this
 have o:((zaY hit 2 r.list (zaY hit 1 r.list run0)).mt).Sublist (((r.list.filter (λr=>r.phase==1)).map (·.id))++((r.list.filter (λr=>r.phase==2)).map (·.id))):=by
  have:=h2.mt;rw[Zu,QE]at this;exact this.trans (List.Sublist.append v (List.Sublist.refl _))
 have j:(zaY hit 2 r.list (zaY hit 1 r.list run0)).sc<=zbg r.list:=by dsimp only at s p;omega
 have i:=h2.lo (h1.lo (ZD 0));have f:=h2.hi (h1.hi (by decide))
 have c:(zaY hit 2 r.list (zaY hit 1 r.list run0)).who=0\/(zaY hit 2 r.list (zaY hit 1 r.list run0)).who∈(zaY hit 2 r.list (zaY hit 1 r.list run0)).mt:=by
  rcases h2.who with w2|w2
  ·rcases h1.who with l|l
   ·exact .inl (w2.trans l)
   ·exact .inr (h2.keep _ (by rw[show (zaY hit 2 r.list (zaY hit 1 r.list run0)).who=(zaY hit 1 r.list run0).who from w2];exact l))
  ·exact .inr w2
 have a:zfe r.list->(zaY hit 2 r.list (zaY hit 1 r.list run0)).who=0/\(zaY hit 2 r.list (zaY hit 1 r.list run0)).st=0:=λd=>by
  have q:=h1.deny λy g=>d y (ZE.1 g).1
  have n:=h2.deny λy g=>d y (ZE.1 g).1
  exact⟨n.1.trans q.1,n.2.trans q.2⟩
 have b:∀x∈(zaY hit 2 r.list (zaY hit 1 r.list run0)).mt,∃y∈r.list,y.id=x:=λx k=>by
  rcases QO.1 (o.subset k)with k|k
  all_goals
   obtain⟨y,g,e⟩:=QR.1 k;exact⟨y,(ZE.1 g).1,e⟩
 have h:=o.nodup (zhX r.list w);unfold runS endS
 split
 ·rename_i B
  exact⟨j,i,f,c,λd=>⟨(a d).1,λt=>by omega⟩,h,b⟩
 ·exact⟨j,i,f,c,λd=>⟨(a d).1,λ_=>(a d).2⟩,h,b⟩
theorem zsp{argC:Int->ByteArray->Int}:∀(l done:List zat),goC argC done l=0->(∀x∈l,oneC argC x=0)/\(∀x∈l,∀y∈done,y.id≠x.id)/\(l.map (·.id)).Nodup
 | [],_,_=>⟨λx a=>(by cases a),λx a=>(by cases a),List.nodup_nil⟩
 |y::r,done,h=>by
  unfold goC at h
  split at h
  ·cases h
  split at h
  ·cases h
  rename_i f
  split at h
  ·contradiction
  rename_i h2;obtain⟨i,d,g⟩:=zsp r _ h;have b:∀z∈done,z.id≠y.id:=λz c e=>f (Xy.2 ⟨z,c,by simp[e]⟩)
  refine⟨λx a=>?_,λx a z c=>?_,?_⟩
  ·rcases QI.1 a with rfl|a
   ·simpa using h2
   ·exact i x a
  ·rcases QI.1 a with rfl|a
   ·exact b z c
   ·exact d x a z (ZN _ c)
  ·rw[QW,Z6]
   refine⟨λj=>?_,g⟩;obtain⟨x,a,e⟩:=QR.1 j;exact d x a y (XE _ Zg) e.symm
theorem zuY{argC:Int->ByteArray->Int}{x:zat}(h:oneC argC x=0):1<=x.op/\x.op<=12/\argC x.op x.arg=0:=by
 unfold oneC at h
 split at h
 ·cases h
 split at h
 ·cases h
 split at h
 ·contradiction
 split at h
 ·contradiction
 split at h
 ·cases h
 rename_i b
 split at h
 ·contradiction
 rename_i a;exact⟨by omega,by omega,by simpa using a⟩
structure zxF(argC:Int->ByteArray->Int)(r:zeG):Prop where
 len:r.list.length<=40
 one:∀x∈r.list,oneC argC x=0
 nodup:(r.list.map (·.id)).Nodup
 chain:zbC r.list=0
theorem zhu{argC:Int->ByteArray->Int}{r:zeG}(h:zbf argC r=0):zxF argC r:=by
 unfold zbf at h
 split at h
 ·cases h
 split at h
 ·cases h
 rename_i hl
 split at h
 ·contradiction
 rename_i h2;obtain⟨a,_,b⟩:=zsp _ _ (show goC argC [] r.list=0 by simpa using h2);exact⟨by omega,a,b,h⟩
theorem zpO{argC:Int->ByteArray->Int}{r:zeG}(h:zbf argC r=0):Adds r.list:=λx d a c=>by
 have h1:=((zfc h).2 x d).acts a c;unfold actC at h1;unfold zdh
 split
 ·rename_i b
  split at h1
  ·cases h1
  ·rename_i e
   have:loA a.k=1:=by unfold loA;rw[b];rfl
   omega
 ·exact ZD 0
theorem zok{argC:Int->ByteArray->Int}{r:zeG}(h:zbf argC r=0):∀x∈r.list,x.phase=1\/x.phase=2:=λx a=>by
 have h1:=(zfc h).2 x a;have:=h1.ph1;have:=h1.ph2;omega
def varQ(v:zhn):VarV:=⟨v.k,v.m,v.n⟩
theorem zqi(l:List zhn):(l.map varQ).flatMap zdR=l.flatMap zcj:=by
 rw[List.flatMap_map];rfl
theorem zlE{a:Type}(f:VarV->List a)(n:Nat):∀s:List VarV,(∀v∈s,(f v).length<=n)->(s.flatMap f).length<=s.length*n
 | [],_=>by simp
 |v::s,h=>by
  have h1:=h v Zg;have h2:=zlE f n s λx b=>h x (Ze _ b)
  rw[QH,Qa,Qn,Xq];omega
theorem zty(l:List VarV)(v:VarV)(a:List Pair)(n:Nat)(h:a.length<=n)(h1:1<=n):(zfU l v a).length<=n:=by
 unfold zfU;have:(zdN l v a).length<=a.length:=Zn _ _
 split
 ·exact Qm _
 split
 ·exact h1
 ·omega
theorem zox{m t b:ByteArray}{f:List zal}{d:Nat}{e:Int}{c a:List Pair}(h:znw t f c a d e)(l s:List VarV)(g:s.length<=1048576):(allP (vfP m t b f d e c a) l s).length<=4398046511104:=by
 unfold allP;have:=zlE (λv=>zfU l v (vfP m t b f d e c a v)) 4194304 s λv _=>zty l v _ _ (zr7 h v) (by omega)
 exact Ql this (Ql (Xs _ g) (by decide))
structure zd4 where
 m:ByteArray
 t:ByteArray
 fv:Value
 b:ByteArray
 cl:Int
 lv:Value
 cv:Value
def UBox(u:Nat)(c:zd4)(s:RunS)(a:Value)(w:World):Prop:=
 w.heap[u]? = some (.cells #[.string c.m,.string c.t,c.fv,.string c.b,.int .u32 c.cl,c.lv,c.cv,jA s.st,jA s.who,jA s.sc,a,jA s.sk,.bool s.dn] 81 (0,0))
section
variable {u:Nat} {c:zd4} {s:RunS} {mv:Value} {w w':World}
theorem UBox.keep(h:UBox u c s mv w)(a:w'.heap[u]? = w.heap[u]?):UBox u c s mv w':=a.trans h
theorem UBox.lt(h:UBox u c s mv w):u<w.heap.size:=zaz h
theorem UBox.below(h:UBox u c s mv w)(hb:w w'):UBox u c s mv w':=h.keep (hb.block u h.lt)
theorem UBox.free(h:UBox u c s mv w)(j:Nat):w.frozen? ⟨u,j,none⟩=false:=Z4 w u j _ _ h
theorem UBox.req(h:UBox u c s mv w):w.cell? u=some (.string c.m)/\w.cell? ⟨u,1,none⟩=some (.string c.t)/\w.cell? ⟨u,2,none⟩=some c.fv/\w.cell? ⟨u,3,none⟩=some (.string c.b)/\w.cell? ⟨u,4,none⟩=some (.int .u32 c.cl)/\w.cell? ⟨u,5,none⟩=some c.lv/\w.cell? ⟨u,6,none⟩=some c.cv:=
 ⟨Qf w u 0 _ _ _ h,Qf w u 1 _ _ _ h,Qf w u 2 _ _ _ h,Qf w u 3 _ _ _ h,Qf w u 4 _ _ _ h,Qf w u 5 _ _ _ h,Qf w u 6 _ _ _ h⟩
theorem UBox.out(h:UBox u c s mv w):w.cell? ⟨u,7,none⟩=some (jA s.st)/\w.cell? ⟨u,8,none⟩=some (jA s.who)/\w.cell? ⟨u,9,none⟩=some (jA s.sc)/\w.cell? ⟨u,10,none⟩=some mv/\w.cell? ⟨u,11,none⟩=some (jA s.sk)/\w.cell? ⟨u,12,none⟩=some (.bool s.dn):=
 ⟨Qf w u 7 _ _ _ h,Qf w u 8 _ _ _ h,Qf w u 9 _ _ _ h,Qf w u 10 _ _ _ h,Qf w u 11 _ _ _ h,Qf w u 12 _ _ _ h⟩
theorem UBox.putSt(h:UBox u c s mv w)(k:Int):UBox u c {s with st:=k} mv (w.setCell ⟨u,7,none⟩ (jA k)):=Q3 w u 7 _ _ _ h
theorem UBox.putWho(h:UBox u c s mv w)(k:Int):UBox u c {s with who:=k} mv (w.setCell ⟨u,8,none⟩ (jA k)):=Q3 w u 8 _ _ _ h
theorem UBox.putSc(h:UBox u c s mv w)(k:Int):UBox u c {s with sc:=k} mv (w.setCell ⟨u,9,none⟩ (jA k)):=Q3 w u 9 _ _ _ h
theorem UBox.putMt(h:UBox u c s mv w)(l:List Int)(v:Value):UBox u c {s with mt:=l} v (w.setCell ⟨u,10,none⟩ v):=Q3 w u 10 _ _ _ h
theorem UBox.putSk(h:UBox u c s mv w)(k:Int):UBox u c {s with sk:=k} mv (w.setCell ⟨u,11,none⟩ (jA k)):=Q3 w u 11 _ _ _ h
theorem UBox.putDn(h:UBox u c s mv w)(k:Bool):UBox u c {s with dn:=k} mv (w.setCell ⟨u,12,none⟩ (.bool k)):=Q3 w u 12 _ _ _ h
end
structure Apart(G:Nat->Prop)(B:Nat)(w w':World):Prop where
 below:Below B w w'
 keep:∀k,k<w.heap.size->¬G k->w'.heap[k]? = w.heap[k]?
section
variable {G:Nat->Prop} {B:Nat} {w w' w'':World}
theorem Apart.refl(G:Nat->Prop)(B:Nat)(w:World):Apart G B w w:=⟨Qj _ _,λ_ _ _=>rfl⟩
theorem Apart.trans(h:Apart G B w w')(k:Apart G B w' w''):Apart G B w w'':=
 ⟨h.below.trans k.below,λj a b=>(k.keep j (Qv a h.below.size) b).trans (h.keep j a b)⟩
theorem Apart.of(hb:w w')(b:B<=w.heap.size):Apart G B w w':=⟨hb.mono b,λk a _=>hb.block k a⟩
theorem Apart.mono{a:Nat->Prop}(h:Apart G B w w')(d:∀k,G k->a k):Apart a B w w':=⟨h.below,λk b e=>h.keep k b λc=>e (d k c)⟩
theorem Oth.apart{g:Nat}(h:Oth B g w w')(b:G g):Apart G B w w':=⟨h.below,λk a c=>h.keep k a λe=>c (e ▸ b)⟩
theorem Apart.then{b:Nat->Prop}(h:Apart G B w w')(k:Apart b B w' w'')(e:∀j,b j->G j\/w.heap.size<=j):Apart G B w w'':=
 ⟨h.below.trans k.below,λj a c=>(k.keep j (Qv a h.below.size) λd=>(e j d).elim c λh2=>by omega).trans (h.keep j a c)⟩
end
def znM(B u:Nat)(c:zd4)(s:RunS)(a:Value)(w:World)(e:Ending)(w':World):Prop:=
 e=jC (.tuple #[])/\UBox u c s a w'/\Oth B u w w'
theorem zuZ(B u:Nat)(c:zd4)(s:RunS)(F:Value)(y:Int)(a:zcZ)(w:World)(h:UBox u c s F w)(z:B<=u)(C:s.dn=false)(v:0<=s.sc/\s.sc<=1000000)(I:0<=a.n/\a.n<=1000):
 Calls prog 85 #[.pointer u,jA y,.agg #[jA a.k,jA a.n]] w (znM B u c (actS y s a) F w):=by
 have hz:=h.lt;obtain⟨q,o⟩:∃q,w.alloc (.cells #[jA a.k,jA a.n] 44)=q:=⟨_,rfl⟩
 have t:w q:=by rw[<-o];exact WaL
 have d:=h.below t;have A:Oth B u w q:=Oth.of t (by omega);have i:q.heap[w.heap.size]? = some (.cells #[jA a.k,jA a.n] 44 (0,0)):=by rw[<-o];exact Qt w _
 have a0:q.cell? w.heap.size=some (jA a.k):=Qf _ _ 0 _ _ _ i;have a1:q.cell? ⟨w.heap.size,1,none⟩=some (jA a.n):=Qf _ _ 1 _ _ _ i
 have e:Hid (actS y s a=if a.k=3 then {s with sc:=min (s.sc+a.n) 1000000}else if a.k=4 then {s with sk:=a.n}else if a.k=2 then {s with st:=a.n,who:=y,dn:=true}else if a.k=5 then {s with dn:=true}else s):=by
  unfold Hid actS;rw[Qe (by rw[C];decide)]
 obtain⟨S,J⟩:∃S,actS y s a=S:=⟨_,rfl⟩
 rw[J]at e ⊢;obtain⟨u7,u8,T,L,K,Y⟩:=d.out;have f7:=d.free 7;have f8:=d.free 8;have f9:=d.free 9;have V:=d.free 11;have P:=d.free 12;have N:u<q.heap.size:=d.lt;have j:=hIx d;have g:=hIx A;have f:=hIx o;have b:Hid (∀W,UBox u c S F W->Oth B u w W->znM B u c S F w (jC (.tuple #[])) W):=λW h1 h2=>⟨rfl,h1,h2⟩
 obtain⟨k,n⟩:=a;dsimp only at *;obtain⟨D,x⟩:∃D,s.sc=D:=⟨_,rfl⟩
 have r:=hIx x;rw[x]at T v e;have ⟨Q,U⟩:=v;have ⟨O,X⟩:=I;clear o J i h t d A C v I x;unfold znM
 by_cases l:k=3
 ·subst l
  have m:Hid (S={s with sc:=min (D+n) 1000000}):=by unfold Hid;rw[e.out,Qg rfl]
  have i7:IntKind.i64.wrap (D+n)=D+n:=Qx _ (by omega);clear e
  go_in
  go_upto_region 1 with fail
  rw[f.out];go_wp2_with fail
  go_region
  go_wp2_with fail
  go_end0
  exact b.out _ (by rw[m.out];exact j.out.putSc _) ((g.out.trans (Oth.set z _ 9 _)).trans (Oth.drew (by rw[Z8];omega)))
 have G:(k==3)=false:=Qb.2 l
 by_cases p:k=4
 ·subst p
  have m:Hid (S={s with sk:=n}):=by unfold Hid;rw[e.out,Qe l,Qg rfl,<-r.out]
  clear e G l
  go_in
  go_upto_region 1 with fail
  rw[f.out];go_wp2_with fail
  go_end0
  exact b.out _ (by rw[m.out];exact j.out.putSk _) (g.out.trans (Oth.set z _ 11 _))
 have H:(k==4)=false:=Qb.2 p
 by_cases h2:k=2
 ·subst h2
  have m:Hid (S={s with st:=n,who:=y,dn:=true}):=by unfold Hid;rw[e.out,Qe l,Qe p,Qg rfl,<-r.out]
  clear e G l H p
  go_in
  go_upto_region 1 with fail
  rw[f.out];go_wp2_with fail
  go_end0
  exact b.out _ (by rw[m.out];exact((j.out.putSt _).putWho _).putDn _) (((g.out.trans (Oth.set z _ 7 _)).trans (Oth.set z _ 8 _)).trans (Oth.set z _ 12 _))
 have Z:(k==2)=false:=Qb.2 h2
 by_cases E:k=5
 ·subst E
  have m:Hid (S={s with dn:=true}):=by unfold Hid;rw[e.out,Qe l,Qe p,Qe h2,Qg rfl,<-r.out]
  clear e G l H p Z h2
  go_in
  go_upto_region 1 with fail
  rw[f.out];go_wp2_with fail
  go_end0
  exact b.out _ (by rw[m.out];exact j.out.putDn _) (g.out.trans (Oth.set z _ 12 _))
 ·have q5:(k==5)=false:=Qb.2 E
  have m:Hid (S=s):=by unfold Hid;rw[e.out,Qe l,Qe p,Qe h2,Qe E]
  clear e l p h2 E
  go_in
  go_upto_region 1 with fail
  rw[f.out];go_wp2_with fail
  go_end0
  exact b.out _ (by rw[m.out];exact j.out) g.out
section
open Go.ChangeShapes Go.WideShapes Go.Deep
theorem znc:prog.cellsOf 29=4:=by kernel_rfl
theorem zja:prog.cellsOf 25=1:=by kernel_rfl
structure RqV where
 m:ByteArray
 t:ByteArray
 A:Option Addr
 c:Nat
 fs:List (ByteArray × ByteArray)
 b:ByteArray
structure zm0(W:World)(v:Value)(a:RqV):Prop where
 val:v=.agg #[.string a.m,.string a.t,.slice a.A a.fs.length a.c,.string a.b]
 sl:Sl W W.heap.size 2 a.A a.fs.length (zdS a.fs)
 sizes:∀f∈a.fs,f.1.size<=maxLen/\f.2.size<=maxLen
 msize:a.m.size<=maxLen
 tsize:a.t.size<=maxLen
 bsize:a.b.size<=maxLen
def zwM{H:Type}(a:RqV)(d:DataW H):Prop:=
 ∃y:DataW H,d=.agg [.agg [.lit (.string a.m.data.toList),.lit (.string a.t.data.toList),y],.lit (.string a.b.data.toList)]/\((y=.nil/\a.fs=[])\/∃sp,y=.slice (a.fs.map zoX) sp)
theorem zgF{H:Type}{enc:TypeId × Value->H}{W:World}{base C:Nat}{r:Reach}{b:Nat->Bool}{e:Bool}{v:Value}{d:DataW H}{p:List MemPlace}
 (O:Value.okWide prog W r C 29 v) (h:DataW.Trod enc prog W base b e 29 v d p):
 ∃a,zm0 W v a/\zwM a d:=by
 obtain⟨cs,rfl,k⟩:=okWide_struct underlying29 O;obtain⟨c0,c1,c2,c3,rfl⟩:=Joins.array4 (k.trans znc);obtain⟨w,E⟩:=h;obtain⟨V,S,n,L,_,q,h1⟩:=trod_struct2 underlying29 E;rw[zmJ]at q;rw[zeL]at h1;obtain⟨U,T,B,Q,f,_,t,u,s⟩:=trod_struct3 underlying27 q;rw[zeL]at t u;rw[zja]at s;obtain⟨D,g,x,G⟩:=DataW.trod_string underlying9 t;obtain⟨I,l,P,y⟩:=DataW.trod_string underlying9 u;obtain⟨A,c,J,j,K,i,F⟩:=zog s;obtain⟨N,m,z,w3⟩:=DataW.trod_string underlying9 h1;injection g with g _
 injection l with l _
 injection j with j _
 injection m with m _
 subst g;subst l;subst j;subst m;subst x;subst P;subst z
 have o:=Zi Prod.fst L;dsimp only at o;subst f;exact⟨⟨D,I,A,c,J,N⟩,⟨rfl,i,K,G,y,w3⟩,B.1,o,F⟩
structure znS(a:RqV):Prop where
 m:a.m.size<=1048576
 t:a.t.size<=1048576
 b:a.b.size<=1048576
 n:a.fs.length<=1048576
theorem zgz{H:Type}{a:RqV}{d:DataW H}(h:zwM a d)(hb:Rows.uptoBulk d<=1048576):znS a:=by
 obtain⟨y,rfl,c⟩:=h;simp only[Rows.uptoBulk,Rows.uptoBulkAll,Zy]at hb;refine⟨?_,?_,?_,?_⟩
 ·have:a.m.data.size=a.m.size:=rfl
  omega
 ·have:a.t.data.size=a.t.size:=rfl
  omega
 ·have:a.b.data.size=a.b.size:=rfl
  omega
 ·rcases c with ⟨_,h⟩|⟨sp,rfl⟩
  ·rw[h];exact Qm _
  ·have:=zdg (l:=(a.fs.map zoX:List (DataW H))) (sp:=sp)
   rw[Qh]at this;omega
end
noncomputable def isR(r:zat)(m t b:ByteArray)(f:List zal)(d:Nat)(e:Int)(c a:List Pair):Bool:=
 (allP (vfP m t b f d e c a) (r.vars.map varQ) (r.vars.map varQ)).any (hitX r.pipe r.no (tstO r.op r.arg))
def zhQ:zat:=⟨1,1,[⟨3,0,ByteArray.mk #[]⟩],[],false,4,zeC,[⟨2,404⟩],false⟩
def zrv:zat:=⟨2,2,[⟨6,0,ByteArray.mk #[]⟩],[1],false,2,zeK,[⟨3,10⟩],false⟩
theorem R9.cells9{w:World}{g:Nat}{c d e i a j k f b:Value}(h:R9 w g c d e i a j k f b):
 w.cell? g=some c/\w.cell? ⟨g,1,none⟩=some d/\w.cell? ⟨g,2,none⟩=some e/\w.cell? ⟨g,3,none⟩=some i/\w.cell? ⟨g,4,none⟩=some a/\w.cell? ⟨g,5,none⟩=some j/\w.cell? ⟨g,6,none⟩=some k/\w.cell? ⟨g,7,none⟩=some f/\w.cell? ⟨g,8,none⟩=some b:=
 ⟨h.cell 0,h.cell 1,h.cell 2,h.cell 3,h.cell 4,h.cell 5,h.cell 6,h.cell 7,h.cell 8⟩
def ptrV(g:Nat):Value:=.pointer g
def rowP:RowT Nat where
 e:=83
 t:=82
 size:=1
 bytes:=8
 z:=.pointer none
 cells g:=[ptrV g]
 hsz _:=rfl
 hpos:=by decide
 under:=underlying82
 info:=by kernel_rfl
 hz:=rfl
 one x u hu:=by
  rw[Qy]at hu;rw[hu];rfl
 hbytes:=by decide
theorem zl2(l:List Nat):l.flatMap rowP.cells=l.map ptrV:=by
 induction l with
 |nil=>rfl
 |cons a r ih=>rw[QH,ih];rfl
def zhW(x:RuM):zco:=⟨x.r.id,x.r.phase,.slice x.vA x.r.vars.length x.vc,.slice x.pA x.r.pipe.length x.pc,x.r.no,x.r.op,x.r.arg,.slice x.aA x.r.acts.length x.ac,x.r.chain⟩
abbrev RuB:=Nat × RuM
def zeP(a:List RuB)(k:Nat):Prop:=∃p∈a,p.1=k
def GU(u:Nat)(a:List RuB)(k:Nat):Prop:=k=u\/zeP a k
def AllSt(F:Nat->Prop)(a:List RuB)(w:World):Prop:=∀p∈a,StR F p.1 (zhW p.2) (tstO p.2.r.op p.2.r.arg) w
theorem StR.box{F:Nat->Prop}{g:Nat}{r:zco}{f:ByteArray->Bool}{w:World}(h:StR F g r f w):∃d m t,RBox g r d m t w:=by
 rcases h with h|h
 ·exact⟨_,_,_,h⟩
 ·obtain⟨t,h⟩:=h.box
  exact⟨_,_,_,h⟩
theorem RBox.five{g:Nat}{r:zco}{d m:Int}{t:Value}{w:World}(h:RBox g r d m t w):w.cell? g=some (jA r.id)/\w.cell? ⟨g,1,none⟩=some (jA r.ph)/\w.cell? ⟨g,2,none⟩=some r.vs/\w.cell? ⟨g,7,none⟩=some r.av/\w.cell? ⟨g,8,none⟩=some (.bool r.ch):=
 ⟨Qf w g 0 _ _ _ h,Qf w g 1 _ _ _ h,Qf w g 2 _ _ _ h,Qf w g 7 _ _ _ h,Qf w g 8 _ _ _ h⟩
theorem AllSt.five{F:Nat->Prop}{a:List RuB}{w:World}(h:AllSt F a w)(p:RuB)(b:p∈a):w.cell? (p.1:)=some (jA p.2.r.id)/\w.cell? ⟨p.1,1,none⟩=some (jA p.2.r.phase)/\w.cell? ⟨p.1,2,none⟩=some (.slice p.2.vA p.2.r.vars.length p.2.vc)/\w.cell? ⟨p.1,7,none⟩=some (.slice p.2.aA p.2.r.acts.length p.2.ac)/\w.cell? ⟨p.1,8,none⟩=some (.bool p.2.r.chain):=by
 obtain⟨d,m,t,hb⟩:=(h p b).box;exact hb.five
theorem AllSt.next{F:Nat->Prop}{a:List RuB}{w W:World}(h:AllSt F a w)(hb:w W):AllSt F a W:=λp b=>(h p b).next hb
theorem AllSt.keep{F:Nat->Prop}{a:List RuB}{w W:World}(h:AllSt F a w)(e:w.heap.size<=W.heap.size)(d:∀p∈a,W.heap[p.1]? = w.heap[p.1]?)(c:∀k,k<w.heap.size->¬F k->W.heap[k]? = w.heap[k]?):AllSt F a W:=λp b=>(h p b).keep e (d p b) c
theorem AllSt.more{F b:Nat->Prop}{a:List RuB}{w:World}(h:AllSt F a w)(d:∀k,b k->F k\/w.heap.size<=k):AllSt b a w:=λp c=>(h p c).more d
theorem zlO:∀{l:List RuB},(l.map (·.1)).Nodup->∀{p q:RuB},p∈l->q∈l->p.1=q.1->p=q
 | [],_,_,_,d,_,_=>by cases d
 |x::l,c,p,q,d,f,e=>by
  rw[QW,Z6]at c
  rcases QI.1 d with b|b
  ·rcases QI.1 f with a|a
   ·exact b.trans a.symm
   ·exact absurd (show x.1∈l.map (·.1)from QR.2 ⟨q,a,by rw[<-e,b]⟩) c.1
  ·rcases QI.1 f with a|a
   ·exact absurd (show x.1∈l.map (·.1)from QR.2 ⟨p,b,by rw[e,a]⟩) c.1
   ·exact zlO c.2 b a e
theorem AllSt.asked{F:Nat->Prop}{a:List RuB}{B:Nat}{w W:World}(h:AllSt F a w)(l:∀p∈a,F p.1)(f:(a.map (·.1)).Nodup)(p:RuB)(g:p∈a)(b:Oth B p.1 w W)(j:StR F p.1 (zhW p.2) (tstO p.2.r.op p.2.r.arg) W):AllSt F a W:=λq c=>by
 by_cases e:q.1=p.1
 ·have d:q=p:=zlO f c g e
  rw[d];exact j
 ·exact(h q c).keep b.below.size (b.keep _ (h q c).lt e) λk i f=>b.keep k i λd=>f (d ▸ l p g)
structure RunQ where
 m:ByteArray
 t:ByteArray
 b:ByteArray
 fs:List zal
 A:Option Addr
 c:Nat
 cl:Nat
 list:List Pair
 Al:Option Addr
 c1:Nat
 cook:List Pair
 Ac:Option Addr
 c2:Nat
def RunQ.uc(q:RunQ):zd4:=⟨q.m,q.t,.slice q.A q.fs.length q.c,q.b,(q.cl:Int),.slice q.Al q.list.length q.c1,.slice q.Ac q.cook.length q.c2⟩
noncomputable def RunQ.hit(q:RunQ)(a:Int)(r:zat):Bool:=isR r q.m q.t q.b q.fs q.cl a q.list q.cook
structure zgN(B u:Nat)(all:List RuB)(q:RunQ)(wS:World):Prop where
 nodup:(all.map (·.1)).Nodup
 base:∀p∈all,B<=p.1/\p.1<wS.heap.size/\p.1≠u
 ub:B<=u/\u<wS.heap.size
 rin:∀p∈all,RuIn wS B p.2
 small:∀p∈all,zkL p.2.r
 ops:∀p∈all,1<=p.2.r.op/\p.2.r.op<=12/\argC p.2.r.op p.2.r.arg=0
 acts:∀p∈all,∀a∈p.2.r.acts,0<=a.n/\a.n<=1000
 val:∀W,Apart (GU u all) B wS W->ValIn q.m q.t q.b q.fs q.A q.list q.Al q.cook q.Ac W
 zs:∀sc:Int,0<=sc->sc<=1000000->znw q.t q.fs q.list q.cook q.cl sc
def zAc(F:Nat->Prop)(a b:List RuB)(B:Nat)(H:RuB->Bool)(w:World)(i:Value)(wr:World):Prop:=
 ∃k:Nat,k<=b.length/\i=jA k/\AllSt F a wr/\Apart (zeP a) B w wr/\Hid ((b.take k).all H=true)
theorem zwc{a:Type}(p:a->Bool)(l:List a)(k:Nat)(c:k<l.length)(h:(l.take k).all p=true)(b:p l[k]=true):(l.take (k+1)).all p=true:=by
 rw[Qs c,List.all_append,h,Bool.true_and,ZR,b];rfl
theorem zur{b:Type}(p:b->Bool)(l:List b)(k:Nat)(c:k<l.length)(a:p l[k]=false):l.all p=false:=by
 rw[Bool.eq_false_iff];intro h;rw[Zl.1 h _ (Qz c)]at a;cases a
theorem zpo{w:World}{n:Nat}{A:Option Addr}{l:List RuB}(h:Sl w w.heap.size 1 A n (l.map λp=>ptrV p.1))(k:Nat)(a:k<l.length):∃b off,A=some ⟨b,off,none⟩/\w.cell? ⟨b,off+k,none⟩=some (.pointer (l[k].1:)):=by
 obtain⟨b,off,e,_,c⟩:=h.src (by rw[Qh];omega);refine⟨b,off,e,?_⟩;rw[c k (by rw[Qh];exact a),Zm]
 rfl
def zl7(F:Nat->Prop)(a:List RuB)(B:Nat)(b:Bool)(w:World)(e:Ending)(w':World):Prop:=
 e=jC (.bool b)/\AllSt F a w'/\Apart (zeP a) B w w'
theorem ztw{B u:Nat}{a:List RuB}{q:RunQ}{wS:World}(f:zgN B u a q wS)(F:Nat->Prop)(he:∀p∈a,F p.1)(s:RunS)(mv:Value)(d:List RuB)(hc:∀p∈d,p∈a)(hD:d.length<=4194304)(Ap:Option Addr)(cp:Nat)(w:World)
 (hq:Apart (GU u a) B wS w) (hu:UBox u q.uc s mv w) (z:0<=s.sc/\s.sc<=1000000) (T:AllSt F a w) (hF:∀k,F k->k<w.heap.size)
 (Q:∀W,Apart (zeP a) B w W->Sl W W.heap.size 1 Ap d.length (d.map λp=>ptrV p.1)):
 Calls prog 53 #[.pointer u,.slice Ap d.length cp] w (zl7 F a B (d.all λp=>q.hit s.sc p.2.r) w):=by
 have h8:∀W,Apart (zeP a) B w W->UBox u q.uc s mv W:=λW h=>hu.keep (h.keep u hu.lt λ⟨p,n,e⟩=>(f.base p n).2.2 e)
 have j:∀W,Apart (zeP a) B w W->Apart (GU u a) B wS W:=λW h=>hq.trans (h.mono λk hk=>.inr hk)
 have HU:=hIx h8
 have P:Hid (∀(p:RuB) W,p∈a->Apart (zeP a) B w W->Calls prog 84 #[.slice p.2.vA p.2.r.vars.length p.2.vc,.agg #[.string q.m,.string q.t,.slice q.A q.fs.length q.c,.string q.b],.int .u32 (q.cl:Int),jA s.sc,.slice q.Al q.list.length q.c1,.slice q.Ac q.cook.length q.c2] W
  (RowA (allP (vfP q.m q.t q.b q.fs q.cl s.sc q.list q.cook) (p.2.r.vars.map varQ) (p.2.r.vars.map varQ)) W)):=λp W n hW=>by
  have o:=j W hW;have hB:=f.rin p n
  have hx:Sl W W.heap.size 3 p.2.vA (p.2.r.vars.map varQ).length ((p.2.r.vars.map varQ).flatMap zdR):=by
   rw[zqi,Qh];exact(hB.vars.below o.below).more (Ql f.ub.1 (QX (Qv f.ub.2 o.below.size)))
  have Y:(p.2.r.vars.map varQ).length<=1048576:=by rw[Qh];exact(f.small p n).vars
  have hz:=f.zs s.sc z.1 z.2;have:=zxn (p.2.r.vars.map varQ) p.2.vA p.2.vc q.m q.t q.b q.fs q.A q.c q.cl s.sc q.list q.Al q.c1 q.cook q.Ac q.c2 W hx (f.val W o) hz (by omega) (zox hz _ _ Y);rw[Qh]at this;exact this
 have K:Hid (∀(p:RuB) (v:Value) W E,p∈a->Apart (zeP a) B w W->AllSt F a W->OwnA E W.heap.size v (allP (vfP q.m q.t q.b q.fs q.cl s.sc q.list q.cook) (p.2.r.vars.map varQ) (p.2.r.vars.map varQ))->W E->
  ∃A4 n4 c4,v=.slice A4 n4 c4/\Calls prog 83 #[.pointer (some ⟨p.1,0,none⟩),.slice A4 n4 c4] E λe w'=>e=jC (.bool (q.hit s.sc p.2.r))/\AllSt F a w'/\Apart (zeP a) B w w'):=λp v W E n hW hs hO hb=>by
  have o:=j W hW;have hz:=f.zs s.sc z.1 z.2;have Y:(p.2.r.vars.map varQ).length<=1048576:=by rw[Qh];exact(f.small p n).vars
  have h5:=zox (m:=q.m) (b:=q.b) hz (p.2.r.vars.map varQ) (p.2.r.vars.map varQ) Y;have hi:q.hit s.sc p.2.r=(allP (vfP q.m q.t q.b q.fs q.cl s.sc q.list q.cook) (p.2.r.vars.map varQ) (p.2.r.vars.map varQ)).any (hitX p.2.r.pipe p.2.r.no (tstO p.2.r.op p.2.r.arg)):=rfl;rw[hi];generalize allP (vfP q.m q.t q.b q.fs q.cl s.sc q.list q.cook) (p.2.r.vars.map varQ) (p.2.r.vars.map varQ)=L at *;obtain⟨A4,c4,rfl,_⟩:=hO.form;have hv:B<=W.heap.size:=Ql f.ub.1 (QX (Qv f.ub.2 o.below.size));have h4:Apart (zeP a) B w E:=hW.trans (Apart.of hb hv);have hf:=hs.next hb;have h6:=f.base p n;have hC:p.1<W.heap.size:=Qv h6.2.1 o.below.size;have G:∀X,Oth B p.1 E X->Apart (zeP a) B w X:=λX x=>h4.trans (x.apart ⟨p,n,rfl⟩)
  have hy:∀X,Oth B p.1 E X->B<=X.heap.size:=λX x=>Ql hv (Ql hb.size x.below.size)
  have hr:∀X,Oth B p.1 E X->Sl X X.heap.size 2 A4 L.length (L.flatMap za5):=λX x=>by
   have h2:=hO.keep (w':=X) λg hg=>by
    have:=QK hO g hg;exact x.keep g this.2 (by omega)
   obtain⟨A',c',e',hA⟩:=h2.form;injection e' with e1 _ _
   rw[e1];exact hA
  obtain⟨o1,o2,o3⟩:=f.ops p n
  refine⟨A4,L.length,c4,rfl,(znk B F p.1 (zhW p.2) p.2.r.pipe p.2.pA p.2.pc rfl (by have:=(f.small p n).pipe;omega) L h5 A4 c4 E h6.1 (λk hk=>Qv (hF k hk) h4.below.size) (hf p n)
   (λX x=>((f.rin p n).pipe.below (j X (G X x)).below).more (hy X x)) hr (λX x=>(f.val X (j X (G X x))).lib) (λX x=>(f.val X (j X (G X x))).tab) o1 o2 (f.small p n).arg o3).mono ?_⟩
  rintro e w' ⟨rfl,T,ho⟩;exact⟨rfl,hf.asked he f.nodup p n ho T,G w' ho⟩
 have ht:Hid (∀W,Apart (zeP a) B w W->B<=W.heap.size):=λW hW=>Ql f.ub.1 (QX (Qv f.ub.2 (j W hW).below.size))
 have O:=hIx Q;obtain⟨H,N⟩:∃H:RuB->Bool,(λp=>q.hit s.sc p.2.r)=H:=⟨_,rfl⟩
 have hj:Hid (∀p,q.hit s.sc p.2.r=H p):=λp=>by rw[<-N]
 rw[N];have hd:=hIx hc;unfold zl7;clear h8 j Q N f hq hu hF he z hc
 go_in
 go_wp2
 go_loopw [9] (λi wr=>zAc F a d B H w i wr) (λi _=>d.length-(intOf i).toNat)
 case atStart=>exact⟨0,Qm _,rfl,T,Apart.refl _ _ _,rfl⟩
 case round=>
  obtain⟨k,hk,rfl,hs,ha,l⟩:=hrel
  by_cases I:k<d.length
  ·have d1:decide ((k:Int)<(d.length:Int))=true:=by simp;omega
   have i7:IntKind.i64.wrap ((k:Int)+1)=(k:Int)+1:=Qx _ (by omega);obtain⟨b,off,rfl,x0⟩:=zpo (O.out wr ha) k I;have D:=hd.out d[k] (Qz I);have V:Hid (H d[k]=true->(d.take (k+1)).all H=true):=λh=>zwc H d k I l.out h
   have h0:Hid (H d[k]=false->d.all H=false):=zur H d k I;generalize d[k]=p at *;have HS:=hIx hs;have HA:=hIx ha;have hn:=hIx (P.out p wr.drew D (ha.trans (Apart.of (Qj _ _).drew (ht.out wr ha))));have hw:=hIx (K.out p);have hm:=hIx (hj.out p);obtain⟨p1,J⟩:=p;dsimp only at *;clear P K O hs ha l hd hj
   have HK:Hid (∀w',AllSt F a w'->Apart (zeP a) B w w'->w'.cell? ⟨p1,2,none⟩=some (.slice J.vA J.r.vars.length J.vc)/\w'.cell? u=some (.string q.m)/\w'.cell? ⟨u,1,none⟩=some (.string q.t)/\w'.cell? ⟨u,2,none⟩=some (.slice q.A q.fs.length q.c)/\w'.cell? ⟨u,3,none⟩=some (.string q.b)/\w'.cell? ⟨u,4,none⟩=some (.int .u32 (q.cl:Int))/\w'.cell? ⟨u,5,none⟩=some (.slice q.Al q.list.length q.c1)/\w'.cell? ⟨u,6,none⟩=some (.slice q.Ac q.cook.length q.c2)/\w'.cell? ⟨u,9,none⟩=some (jA s.sc)):=λW h1 h2=>by
    have h3:=(h1.five (p1,J) D).2.2.1;have h4:=HU.out W h2;obtain⟨e0,e1,e2,e3,e4,e5,e6⟩:=h4.req;exact⟨h3,e0,e1,e2,e3,e4,e5,e6,h4.out.2.2.1⟩
   have K0:=HK.out wr HS.out HA.out;have h7:=ht.out wr HA.out;go_upto_region 4 with fail
   go_region_held3 (λw'=>w'.cell? ⟨p1,2,none⟩=some (.slice J.vA J.r.vars.length J.vc)/\w'.cell? u=some (.string q.m)/\w'.cell? ⟨u,1,none⟩=some (.string q.t)/\w'.cell? ⟨u,2,none⟩=some (.slice q.A q.fs.length q.c)/\w'.cell? ⟨u,3,none⟩=some (.string q.b)/\w'.cell? ⟨u,4,none⟩=some (.int .u32 (q.cl:Int))/\w'.cell? ⟨u,5,none⟩=some (.slice q.Al q.list.length q.c1)/\w'.cell? ⟨u,6,none⟩=some (.slice q.Ac q.cook.length q.c2)/\w'.cell? ⟨u,9,none⟩=some (jA s.sc))
    (first|exact K0|exact K8|exact K9|go_keep|fail "keep")
    (first|(go_at_call 84;(with_reducible refine hn.out.mono ?_);rintro e w8 ⟨v8,rfl,hh,y⟩;have S:wr w8:=undrew y;have K8:=HK.out w8 (HS.out.next S) (HA.out.trans (Apart.of S h7));obtain⟨A4,n4,c4,rfl,h9⟩:=hw.out v8 wr.drew w8 D (HA.out.trans (Apart.of (Qj _ _).drew h7)) (HS.out.next (Qj _ _).drew) hh y)|(go_at_call 83;(with_reducible refine h9.mono ?_);rintro e w9 ⟨rfl,Z,U⟩;have K9:=HK.out w9 Z U)|fail "arm")
   rw[hm.out];clear K0 K8 K9 hn hw h9 hh S y HK HU hm;cases N:H (p1,J)with
   |true=>
    have C:=hIx (V.out N);clear N V h0;go_wp2;exact⟨⟨k+1,by omega,rfl,Z,U,C.out⟩,by dsimp only[intOf];omega⟩
   |false=>
    have C:=hIx (h0.out N);clear N V h0;go_wp2;go_ret;exact⟨by rw[C.out];rfl,Z,U⟩
  ·obtain rfl:k=d.length:=by omega
   have d1:decide ((d.length:Int)<(d.length:Int))=false:=by simp
   have C:Hid (d.all H=true):=by have:=l.out;rw[QZ]at this;exact this
   clear l;go_wp2;go_ret;exact⟨by rw[C.out];rfl,hs,ha⟩
