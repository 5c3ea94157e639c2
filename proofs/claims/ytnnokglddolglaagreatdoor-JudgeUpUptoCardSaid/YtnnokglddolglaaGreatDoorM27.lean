/- Lemmas for the last texts. -/
import Derived.Test.YtnnokglddolglaaGreatDoorM26
import Derived.Lib.Builder
set_option maxHeartbeats 6400000
set_option maxRecDepth 100000
namespace Go.Proofs.YtnnokglddolglaaGreatDoor
open Go.RowKit Go.Proofs.Tryz
def R9(w:World)(g:Nat)(c d e h a i j f b:Value):Prop:=w.heap[g]? = some (.cells #[c,d,e,h,a,i,j,f,b] 42 (0,0))
section
variable {w w':World} {g B:Nat} {a0 a1 a2 a3 a4 a5 a6 a7 a8:Value}
theorem R9.cell(h:R9 w g a0 a1 a2 a3 a4 a5 a6 a7 a8)(j:Nat):w.cell? ⟨g,j,none⟩=(#[a0,a1,a2,a3,a4,a5,a6,a7,a8]:Array Value)[j]? := Qf w g j _ _ (0,0) h
theorem R9.lt(h:R9 w g a0 a1 a2 a3 a4 a5 a6 a7 a8):g<w.heap.size:=by
 unfold R9 at h;rw[Q1]at h;exact h.1
end
theorem zbo(w:World)(o:Obj)(g:Nat)(h:w.heap.size=g):(w.alloc o).heap[g]? = some o:=by rw[<-h];exact Qp w o
theorem zcL{w:World}{g B n size:Nat}{a:List Value}{t:TypeId}(h:w.heap[g]? = some (.cells a.toArray t (0,0)))(c:g<B)(hl:a.length=n*size):Sl w B size (some ⟨g,0,none⟩) n a:=
 ⟨hl,λ_=>⟨g,0,rfl,c,λj b=>by rw[Zc,Qf w g j _ _ (0,0) h,Z7,Qc b]⟩⟩
structure RunS where
 sc:Int
 st:Int
 who:Int
 mt:List Int
 sk:Int
 dn:Bool
def actS(b:Int)(s:RunS)(a:zbV):RunS:=
 if s.dn=true then s else if a.k=3 then {s with sc:=min (s.sc+a.n) 1000000}else if a.k=4 then {s with sk:=a.n}else if a.k=2 then {s with st:=a.n,who:=b,dn:=true}else if a.k=5 then {s with dn:=true}else s
def zfc(s:RunS)(r:zai):RunS:=r.acts.foldl (actS r.id) s
def doS(s:RunS)(c:List zai):RunS:=c.foldl zfc {s with mt:=s.mt++c.map (·.id)}
def zc5(hit:Int->zai->Bool)(s:RunS)(c:List zai):RunS:=
 if s.dn=true then s else if 0<s.sk then {s with sk:=s.sk-1}else if c.all (hit s.sc)=true then doS s c else s
def phS(hit:Int->zai->Bool)(a:Int)(x:RunS × List zai)(r:zai):RunS × List zai:=
 if r.phase≠a then x else if r.chain=true then (x.1,x.2++[r])else (zc5 hit x.1 (x.2++[r]),[])
def zaV(hit:Int->zai->Bool)(a:Int)(l:List zai)(s:RunS):RunS:=(l.foldl (phS hit a) ({s with sk:=0},[])).1
def run0:RunS:=⟨0,0,0,[],0,false⟩
def endS(most a:Int)(s:RunS):RunS:=if s.dn=false/\most<=s.sc then {s with st:=a}else s
def runS(hit:Int->zai->Bool)(r:zd4):RunS:=endS r.most r.status (zaV hit 2 r.list (zaV hit 1 r.list run0))
def zbB(a:zbV):Int:=if a.k=3 then a.n else 0
def sumI(l:List Int):Int:=l.foldr (·+·) 0
def zeX(r:zai):Int:=sumI (r.acts.map zbB)
def zaK(l:List zai):Int:=sumI (l.map zeX)
theorem zvF:sumI []=0:=rfl
theorem zfs(a:Int)(l:List Int):sumI (a::l)=a+sumI l:=rfl
theorem zff:∀a b:List Int,sumI (a++b)=sumI a+sumI b
 | [],b=>by rw[Xa,zvF];omega
 |x::a,b=>by rw[ZS,zfs,zfs,zff a b];omega
theorem zdJ(a b:List zai):zaK (a++b)=zaK a+zaK b:=by unfold zaK;rw[QU,zff]
theorem zkK:zaK []=0:=rfl
def Adds(l:List zai):Prop:=∀r∈l,∀a∈r.acts,0<=zbB a
def zfq(l:List zai):Prop:=∀r∈l,∀a∈r.acts,a.k≠2
theorem zlE:∀{l:List Int},(∀x∈l,0<=x)->0<=sumI l
 | [],_=>Zw 0
 |x::l,h=>by
  rw[zfs];have:=h x Q7;have:=zlE λy a=>h y (Q3 _ a)
  omega
theorem zqY{l:List zai}(h:Adds l){r:zai}(c:r∈l):0<=zeX r:=zlE λx d=>by
 obtain⟨a,b,rfl⟩:=QO.1 d;exact h r c a b
theorem zkg{l:List zai}(h:Adds l):0<=zaK l:=zlE λx b=>by
 obtain⟨r,a,rfl⟩:=QO.1 b;exact zqY h a
theorem zqb(b:Int)(s:RunS)(a:zbV)(h:0<=zbB a):
 (actS b s a).sc<=s.sc+zbB a/\(actS b s a).mt=s.mt/\((actS b s a).who=s.who\/(actS b s a).who=b)/\(a.k≠2->(actS b s a).who=s.who/\(actS b s a).st=s.st)/\(a.k≠4->(actS b s a).sk=s.sk)/\(0<=s.sc->0<=(actS b s a).sc)/\(s.sc<=1000000->(actS b s a).sc<=1000000):=by
 unfold actS;unfold zbB at *
 split
 ·refine⟨by omega,rfl,.inl rfl,λ_=>⟨rfl,rfl⟩,λ_=>rfl,λh=>h,λh=>h⟩
 split
 ·rename_i d
  rw[Qi d]at h;refine⟨?_,rfl,.inl rfl,λ_=>⟨rfl,rfl⟩,λ_=>rfl,λh=>?_,λh=>?_⟩ <;> dsimp only <;> omega
 rename_i d;rw[Qe d]at h
 split
 ·refine⟨by dsimp only;omega,rfl,.inl rfl,λ_=>⟨rfl,rfl⟩,λc=>absurd (by assumption) c,λh=>h,λh=>h⟩
 split
 ·refine⟨by dsimp only;omega,rfl,.inr rfl,λc=>absurd (by assumption) c,λ_=>rfl,λh=>h,λh=>h⟩
 split
 ·exact⟨by dsimp only;omega,rfl,.inl rfl,λ_=>⟨rfl,rfl⟩,λ_=>rfl,λh=>h,λh=>h⟩
 ·exact⟨by omega,rfl,.inl rfl,λ_=>⟨rfl,rfl⟩,λ_=>rfl,λh=>h,λh=>h⟩
theorem zfZ(b:Int):∀(l:List zbV) (s:RunS),(∀a∈l,0<=zbB a)->
 (l.foldl (actS b) s).sc<=s.sc+sumI (l.map zbB)/\(l.foldl (actS b) s).mt=s.mt/\((l.foldl (actS b) s).who=s.who\/(l.foldl (actS b) s).who=b)/\((∀a∈l,a.k≠2)->(l.foldl (actS b) s).who=s.who/\(l.foldl (actS b) s).st=s.st)/\((∀a∈l,a.k≠4)->(l.foldl (actS b) s).sk=s.sk)/\(0<=s.sc->0<=(l.foldl (actS b) s).sc)/\(s.sc<=1000000->(l.foldl (actS b) s).sc<=1000000)
 | [],s,_=>⟨by show s.sc<=s.sc+0;omega,rfl,.inl rfl,λ_=>⟨rfl,rfl⟩,λ_=>rfl,λh=>h,λh=>h⟩
 |a::l,s,h=>by
  obtain⟨v,t,e,n,m,r,i⟩:=zqb b s a (h a Q7);obtain⟨u,p,c,q,g,j,o⟩:=zfZ b l (actS b s a) λx f=>h x (Q3 _ f)
  rw[XK,QX,zfs];refine⟨by omega,p.trans t,?_,λd=>?_,λd=>?_,λh=>j (r h),λh=>o (i h)⟩
  ·rcases c with c|c
   ·rcases e with e|e
    ·exact .inl (c.trans e)
    ·exact .inr (c.trans e)
   ·exact .inr c
  ·have h1:=q λx f=>d x (Q3 _ f)
   have h2:=n (d a Q7);exact⟨h1.1.trans h2.1,h1.2.trans h2.2⟩
  ·exact(g λx f=>d x (Q3 _ f)).trans (m (d a Q7))
theorem zcY:∀(c:List zai) (s:RunS),Adds c->
 (c.foldl zfc s).sc<=s.sc+zaK c/\(c.foldl zfc s).mt=s.mt/\((c.foldl zfc s).who=s.who\/(c.foldl zfc s).who∈c.map (·.id))/\(zfq c->(c.foldl zfc s).who=s.who/\(c.foldl zfc s).st=s.st)/\((∀r∈c,∀a∈r.acts,a.k≠4)->(c.foldl zfc s).sk=s.sk)/\(0<=s.sc->0<=(c.foldl zfc s).sc)/\(s.sc<=1000000->(c.foldl zfc s).sc<=1000000)
 | [],s,_=>⟨by show s.sc<=s.sc+0;omega,rfl,.inl rfl,λ_=>⟨rfl,rfl⟩,λ_=>rfl,λh=>h,λh=>h⟩
 |r::c,s,h=>by
  obtain⟨z,w,f,t,q,u,p⟩:=zfZ r.id r.acts s (h r Q7);obtain⟨o,m,b,n,i,j,l⟩:=zcY c (zfc s r) λx g=>h x (Q3 _ g)
  have e:zaK (r::c)=zeX r+zaK c:=rfl;have y:zeX r=sumI (r.acts.map zbB):=rfl;have v:zfc s r=r.acts.foldl (actS r.id) s:=rfl;rw[XK];rw[v]at o m b n i j l ⊢;refine⟨by omega,m.trans w,?_,λd=>?_,λd=>?_,λh=>j (u h),λh=>l (p h)⟩
  ·rcases b with b|b
   ·rcases f with f|f
    ·exact .inl (b.trans f)
    ·exact .inr (by rw[b,f];exact Q7)
   ·exact .inr (Q3 _ b)
  ·have h1:=n λx g=>d x (Q3 _ g)
   have h2:=t (d r Q7);exact⟨h1.1.trans h2.1,h1.2.trans h2.2⟩
  ·exact(i λx g=>d x (Q3 _ g)).trans (q (d r Q7))
structure zxE(s t:RunS)(c:List zai):Prop where
 sc:t.sc<=s.sc+zaK c
 mt:t.mt=s.mt\/t.mt=s.mt++c.map (·.id)
 who:t.who=s.who\/t.who∈t.mt
 keep:∀x∈s.mt,x∈t.mt
 deny:zfq c->t.who=s.who/\t.st=s.st
 lo:0<=s.sc->0<=t.sc
 hi:s.sc<=1000000->t.sc<=1000000
theorem zwO(hit:Int->zai->Bool)(s:RunS)(c:List zai)(h:Adds c):zxE s (zc5 hit s c) c:=by
 have j:=zkg h;have same:∀k:Int,zxE s {s with sk:=k} c:=λk=>⟨by dsimp only;omega,.inl rfl,.inl rfl,λ_ h=>h,λ_=>⟨rfl,rfl⟩,λh=>h,λh=>h⟩
 unfold zc5
 split
 ·exact same s.sk
 split
 ·exact same _
 split
 ·obtain⟨e,b,a,d,_,g,f⟩:=zcY c {s with mt:=s.mt++c.map (·.id)} h
  unfold doS;dsimp only at e b a d g f;refine⟨e,.inr b,?_,λx i=>by rw[b];exact Zr _ i,d,g,f⟩
  rcases a with a|a
  ·exact .inl a
  ·exact .inr (by rw[b];exact Z8 _ a)
 ·exact same s.sk
structure ziZ(s0:RunS)(done:List zai)(x:RunS × List zai):Prop where
 sc:x.1.sc+zaK x.2<=s0.sc+zaK done
 mt:(x.1.mt++x.2.map (·.id)).Sublist (s0.mt++done.map (·.id))
 who:x.1.who=s0.who\/x.1.who∈x.1.mt
 keep:∀y∈s0.mt,y∈x.1.mt
 sub:∀r∈x.2,r∈done
 deny:zfq done->x.1.who=s0.who/\x.1.st=s0.st
 lo:0<=s0.sc->0<=x.1.sc
 hi:s0.sc<=1000000->x.1.sc<=1000000
theorem zzm(hit:Int->zai->Bool)(l:Int){j:RunS}{done:List zai}{x:RunS × List zai}(h:ziZ j done x)(m:Adds done)(r:zai)(s:Adds [r])(p:r.phase=l):ziZ j (done++[r]) (phS hit l x r):=by
 have w:=zdJ done [r];have v:=zdJ x.2 [r]
 have f:(x.1.mt++(x.2++[r]).map (·.id)).Sublist (j.mt++(done++[r]).map (·.id)):=by
  rw[QU,QU,<-QH,<-QH];exact List.Sublist.append h.mt (List.Sublist.refl _)
 have b:∀y∈x.2++[r],y∈done++[r]:=λy a=>by
  rcases QN.1 a with a|a
  ·exact Zr _ (h.sub y a)
  ·exact Z8 _ a
 have c:zfq (done++[r])->zfq done/\zfq (x.2++[r]):=λe=>⟨λy a=>e y (Zr _ a),λy a=>e y (b y a)⟩
 have u:=h.sc;unfold phS;rw[Qe (by simp[p])]
 split
 ·exact⟨by dsimp only;omega,f,h.who,h.keep,b,λe=>h.deny (c e).1,h.lo,h.hi⟩
 ·have d:Adds (x.2++[r]):=λy a=>by
   rcases QN.1 a with a|a
   ·exact m y (h.sub y a)
   ·exact s y a
  obtain⟨z,i,g,k,o,t,n⟩:=zwO hit x.1 (x.2++[r]) d;refine⟨?_,?_,?_,λy a=>k y (h.keep y a),λy a=>(by cases a),λe=>?_,λq=>t (h.lo q),λq=>n (h.hi q)⟩
  ·show (zc5 hit x.1 (x.2++[r])).sc+zaK []<=_
   rw[zkK];omega
  ·show ((zc5 hit x.1 (x.2++[r])).mt++[]).Sublist _
   rw[QI]
   rcases i with i|i <;> rw[i]
   ·exact(List.sublist_append_left _ _).trans f
   ·exact f
  ·rcases g with g|g
   ·rcases h.who with h1|h1
    ·exact .inl (g.trans h1)
    ·exact .inr (by rw[g];exact k _ h1)
   ·exact .inr g
  ·have h1:=h.deny (c e).1
   have h2:=o (c e).2;exact⟨h2.1.trans h1.1,h2.2.trans h1.2⟩
theorem zd7{a b:List zai}(h:Adds (a++b)):Adds a:=λr c=>h r (Zr _ c)
theorem zoM(hit:Int->zai->Bool)(a:Int)(f:RunS):∀(l done:List zai) (x:RunS × List zai),ziZ f (done.filter (λr=>r.phase==a)) x->Adds (done++l)->
 ziZ f ((done++l).filter (λr=>r.phase==a)) (l.foldl (phS hit a) x)
 | [],done,x,h,_=>by rw[QI];exact h
 |r::l,done,x,h,c=>by
  rw[XK];have e:done++r::l=(done++[r])++l:=by simp
  rw[e]at c ⊢;refine zoM hit a f l (done++[r]) _ ?_ c;rw[ZM]
  by_cases b:r.phase=a
  ·have g:[r].filter (λr=>r.phase==a)=[r]:=by simp[b]
   rw[g];exact zzm hit a h (λy d=>zd7 (zd7 c) y (ZB.1 d).1) r (λy d=>zd7 c y (Z8 _ d)) b
  ·have g:[r].filter (λr=>r.phase==a)=[]:=by simp[b]
   rw[g,QI];unfold phS;rw[Qi b];exact h
theorem zs5{argC:Int->ByteArray->Int}:∀(l done:List zai),goC argC done l=0->(∀x∈l,oneC argC x=0)/\(∀x∈l,∀y∈done,y.id≠x.id)/\(l.map (·.id)).Nodup
 | [],_,_=>⟨λx a=>(by cases a),λx a=>(by cases a),List.nodup_nil⟩
 |y::r,done,h=>by
  unfold goC at h
  split at h
  ·cases h
  split at h
  ·cases h
  rename_i f
  split at h
  ·contradiction
  rename_i h2;obtain⟨i,d,g⟩:=zs5 r _ h;have b:∀z∈done,z.id≠y.id:=λz c e=>f (Xq.2 ⟨z,c,by simp[e]⟩)
  refine⟨λx a=>?_,λx a z c=>?_,?_⟩
  ·rcases QJ.1 a with rfl|a
   ·simpa using h2
   ·exact i x a
  ·rcases QJ.1 a with rfl|a
   ·exact b z c
   ·exact d x a z (Zr _ c)
  ·rw[QX,ZP]
   refine⟨λj=>?_,g⟩;obtain⟨x,a,e⟩:=QO.1 j;exact d x a y (Z8 _ Q7) e.symm
theorem zvL{argC:Int->ByteArray->Int}{x:zai}(h:oneC argC x=0):1<=x.op/\x.op<=12/\argC x.op x.arg=0:=by
 unfold oneC at h
 split at h
 ·cases h
 split at h
 ·cases h
 split at h
 ·contradiction
 split at h
 ·contradiction
 split at h
 ·cases h
 rename_i b
 split at h
 ·contradiction
 rename_i a;exact⟨by omega,by omega,by simpa using a⟩
structure zyn(argC:Int->ByteArray->Int)(r:zd4):Prop where
 len:r.list.length<=40
 one:∀x∈r.list,oneC argC x=0
 nodup:(r.list.map (·.id)).Nodup
 chain:zaE r.list=0
theorem zeg{argC:Int->ByteArray->Int}{r:zd4}(h:zaZ argC r=0):zyn argC r:=by
 unfold zaZ at h
 split at h
 ·cases h
 split at h
 ·cases h
 rename_i hl
 split at h
 ·contradiction
 rename_i h2;obtain⟨a,_,b⟩:=zs5 _ _ (show goC argC [] r.list=0 by simpa using h2);exact⟨by omega,a,b,h⟩
def varQ(v:zhF):VarV:=⟨v.k,v.m,v.n⟩
theorem zqO(l:List zhF):(l.map varQ).flatMap zd0=l.flatMap zcj:=by
 rw[List.flatMap_map];rfl
theorem zl9{a:Type}(f:VarV->List a)(n:Nat):∀s:List VarV,(∀v∈s,(f v).length<=n)->(s.flatMap f).length<=s.length*n
 | [],_=>by simp
 |v::s,h=>by
  have h1:=h v Q7;have h2:=zl9 f n s λx b=>h x (Q3 _ b)
  rw[QM,Qa,Qo,Xt];omega
theorem zuj(l:List VarV)(v:VarV)(a:List Pair)(n:Nat)(h:a.length<=n)(h1:1<=n):(zf9 l v a).length<=n:=by
 unfold zf9;have:(zdV l v a).length<=a.length:=Zl _ _
 split
 ·exact Qm _
 split
 ·exact h1
 ·omega
theorem zo3{m t b:ByteArray}{f:List zao}{d:Nat}{e:Int}{c a:List Pair}(h:zn6 t f c a d e)(l s:List VarV)(g:s.length<=1048576):(allP (vfP m t b f d e c a) l s).length<=4398046511104:=by
 unfold allP;have:=zl9 (λv=>zf9 l v (vfP m t b f d e c a v)) 4194304 s λv _=>zuj l v _ _ (zsP h v) (by omega)
 exact Qn this (Qn (XM _ g) (by decide))
noncomputable def isR(r:zai)(m t b:ByteArray)(f:List zao)(d:Nat)(e:Int)(c a:List Pair):Bool:=
 (allP (vfP m t b f d e c a) (r.vars.map varQ) (r.vars.map varQ)).any (hitX r.pipe r.no (tstO r.op r.arg))
theorem R9.cells9{w:World}{g:Nat}{c d e i a j k f b:Value}(h:R9 w g c d e i a j k f b):
 w.cell? ⟨g,0,none⟩=some c/\w.cell? ⟨g,1,none⟩=some d/\w.cell? ⟨g,2,none⟩=some e/\w.cell? ⟨g,3,none⟩=some i/\w.cell? ⟨g,4,none⟩=some a/\w.cell? ⟨g,5,none⟩=some j/\w.cell? ⟨g,6,none⟩=some k/\w.cell? ⟨g,7,none⟩=some f/\w.cell? ⟨g,8,none⟩=some b:=
 ⟨h.cell 0,h.cell 1,h.cell 2,h.cell 3,h.cell 4,h.cell 5,h.cell 6,h.cell 7,h.cell 8⟩
structure zef where
 m:ByteArray
 t:ByteArray
 fv:Value
 b:ByteArray
 cl:Int
 lv:Value
 cv:Value
def UBox(u:Nat)(c:zef)(s:RunS)(a:Value)(w:World):Prop:=
 w.heap[u]? = some (.cells #[.string c.m,.string c.t,c.fv,.string c.b,.int .u32 c.cl,c.lv,c.cv,.int .i64 s.st,.int .i64 s.who,.int .i64 s.sc,a,.int .i64 s.sk,.bool s.dn] 81 (0,0))
section
variable {u:Nat} {c:zef} {s:RunS} {mv:Value} {w w':World}
theorem UBox.keep(h:UBox u c s mv w)(a:w'.heap[u]? = w.heap[u]?):UBox u c s mv w':=a.trans h
theorem UBox.lt(h:UBox u c s mv w):u<w.heap.size:=zaq h
theorem UBox.below(h:UBox u c s mv w)(hb:Below w.heap.size w w'):UBox u c s mv w':=h.keep (hb.block u h.lt)
theorem UBox.free(h:UBox u c s mv w)(j:Nat):w.frozen? ⟨u,j,none⟩=false:=ZJ w u j _ _ h
theorem UBox.req(h:UBox u c s mv w):w.cell? ⟨u,0,none⟩=some (.string c.m)/\w.cell? ⟨u,1,none⟩=some (.string c.t)/\w.cell? ⟨u,2,none⟩=some c.fv/\w.cell? ⟨u,3,none⟩=some (.string c.b)/\w.cell? ⟨u,4,none⟩=some (.int .u32 c.cl)/\w.cell? ⟨u,5,none⟩=some c.lv/\w.cell? ⟨u,6,none⟩=some c.cv:=
 ⟨Qf w u 0 _ _ _ h,Qf w u 1 _ _ _ h,Qf w u 2 _ _ _ h,Qf w u 3 _ _ _ h,Qf w u 4 _ _ _ h,Qf w u 5 _ _ _ h,Qf w u 6 _ _ _ h⟩
theorem UBox.out(h:UBox u c s mv w):w.cell? ⟨u,7,none⟩=some (.int .i64 s.st)/\w.cell? ⟨u,8,none⟩=some (.int .i64 s.who)/\w.cell? ⟨u,9,none⟩=some (.int .i64 s.sc)/\w.cell? ⟨u,10,none⟩=some mv/\w.cell? ⟨u,11,none⟩=some (.int .i64 s.sk)/\w.cell? ⟨u,12,none⟩=some (.bool s.dn):=
 ⟨Qf w u 7 _ _ _ h,Qf w u 8 _ _ _ h,Qf w u 9 _ _ _ h,Qf w u 10 _ _ _ h,Qf w u 11 _ _ _ h,Qf w u 12 _ _ _ h⟩
theorem UBox.putSt(h:UBox u c s mv w)(k:Int):UBox u c {s with st:=k} mv (w.setCell ⟨u,7,none⟩ (.int .i64 k)):=Q2 w u 7 _ _ _ h
theorem UBox.putWho(h:UBox u c s mv w)(k:Int):UBox u c {s with who:=k} mv (w.setCell ⟨u,8,none⟩ (.int .i64 k)):=Q2 w u 8 _ _ _ h
theorem UBox.putSc(h:UBox u c s mv w)(k:Int):UBox u c {s with sc:=k} mv (w.setCell ⟨u,9,none⟩ (.int .i64 k)):=Q2 w u 9 _ _ _ h
theorem UBox.putMt(h:UBox u c s mv w)(l:List Int)(v:Value):UBox u c {s with mt:=l} v (w.setCell ⟨u,10,none⟩ v):=Q2 w u 10 _ _ _ h
theorem UBox.putSk(h:UBox u c s mv w)(k:Int):UBox u c {s with sk:=k} mv (w.setCell ⟨u,11,none⟩ (.int .i64 k)):=Q2 w u 11 _ _ _ h
theorem UBox.putDn(h:UBox u c s mv w)(k:Bool):UBox u c {s with dn:=k} mv (w.setCell ⟨u,12,none⟩ (.bool k)):=Q2 w u 12 _ _ _ h
end
structure Apart(G:Nat->Prop)(B:Nat)(w w':World):Prop where
 below:Below B w w'
 keep:∀k,k<w.heap.size->¬G k->w'.heap[k]? = w.heap[k]?
section
variable {G:Nat->Prop} {B:Nat} {w w' w'':World}
theorem Apart.refl(G:Nat->Prop)(B:Nat)(w:World):Apart G B w w:=⟨Qg _ _,λ_ _ _=>rfl⟩
theorem Apart.trans(h:Apart G B w w')(k:Apart G B w' w''):Apart G B w w'':=
 ⟨h.below.trans k.below,λj a b=>(k.keep j (Qv a h.below.size) b).trans (h.keep j a b)⟩
theorem Apart.of(hb:Below w.heap.size w w')(b:B<=w.heap.size):Apart G B w w':=⟨hb.mono b,λk a _=>hb.block k a⟩
theorem Apart.mono{a:Nat->Prop}(h:Apart G B w w')(d:∀k,G k->a k):Apart a B w w':=⟨h.below,λk b e=>h.keep k b λc=>e (d k c)⟩
theorem Oth.apart{g:Nat}(h:Oth B g w w')(b:G g):Apart G B w w':=⟨h.below,λk a c=>h.keep k a λe=>c (e ▸ b)⟩
theorem Apart.then{b:Nat->Prop}(h:Apart G B w w')(k:Apart b B w' w'')(e:∀j,b j->G j\/w.heap.size<=j):Apart G B w w'':=
 ⟨h.below.trans k.below,λj a c=>(k.keep j (Qv a h.below.size) λd=>(e j d).elim c λh2=>by omega).trans (h.keep j a c)⟩
end
def zoi(B u:Nat)(c:zef)(s:RunS)(a:Value)(w:World)(e:Ending)(w':World):Prop:=
 e=.returned (.tuple #[])/\UBox u c s a w'/\Oth B u w w'
theorem zvM(B u:Nat)(c:zef)(s:RunS)(F:Value)(y:Int)(a:zbV)(w:World)(h:UBox u c s F w)(z:B<=u)(C:s.dn=false)(v:0<=s.sc/\s.sc<=1000000)(I:0<=a.n/\a.n<=1000):
 Calls prog 85 #[.pointer (some ⟨u,0,none⟩),.int .i64 y,.agg #[.int .i64 a.k,.int .i64 a.n]] w (zoi B u c (actS y s a) F w):=by
 have hz:=h.lt;obtain⟨q,o⟩:∃q,w.alloc (.cells #[.int .i64 a.k,.int .i64 a.n] 44)=q:=⟨_,rfl⟩
 have t:Below w.heap.size w q:=by rw[<-o];exact WaL
 have d:=h.below t;have A:Oth B u w q:=Oth.of t (by omega);have i:q.heap[w.heap.size]? = some (.cells #[.int .i64 a.k,.int .i64 a.n] 44 (0,0)):=by rw[<-o];exact Qp w _
 have a0:q.cell? ⟨w.heap.size,0,none⟩=some (.int .i64 a.k):=Qf _ _ 0 _ _ _ i;have a1:q.cell? ⟨w.heap.size,1,none⟩=some (.int .i64 a.n):=Qf _ _ 1 _ _ _ i
 have e:Hid (actS y s a=if a.k=3 then {s with sc:=min (s.sc+a.n) 1000000}else if a.k=4 then {s with sk:=a.n}else if a.k=2 then {s with st:=a.n,who:=y,dn:=true}else if a.k=5 then {s with dn:=true}else s):=by
  unfold Hid actS;rw[Qe (by rw[C];decide)]
 obtain⟨S,J⟩:∃S,actS y s a=S:=⟨_,rfl⟩
 rw[J]at e ⊢;obtain⟨u7,u8,T,L,K,Y⟩:=d.out;have f7:=d.free 7;have f8:=d.free 8;have f9:=d.free 9;have V:=d.free 11;have P:=d.free 12;have N:u<q.heap.size:=d.lt;have j:=hIx d;have g:=hIx A;have f:=hIx o;have b:Hid (∀W,UBox u c S F W->Oth B u w W->zoi B u c S F w (.returned (.tuple #[])) W):=λW h1 h2=>⟨rfl,h1,h2⟩
 obtain⟨k,n⟩:=a;dsimp only at *;obtain⟨D,x⟩:∃D,s.sc=D:=⟨_,rfl⟩
 have r:=hIx x;rw[x]at T v e;have ⟨Q,U⟩:=v;have ⟨O,X⟩:=I;clear o J i h t d A C v I x;unfold zoi
 by_cases l:k=3
 ·subst l
  have m:Hid (S={s with sc:=min (D+n) 1000000}):=by unfold Hid;rw[e.out,Qi rfl]
  have i7:IntKind.i64.wrap (D+n)=D+n:=Qx _ (by omega);clear e
  go_in
  go_upto_region 1 with fail
  rw[f.out];go_wp2_with fail
  go_region
  go_wp2_with fail
  go_end0
  exact b.out _ (by rw[m.out];exact j.out.putSc _) ((g.out.trans (Oth.set z _ 9 _)).trans (Oth.drew (by rw[Z0];omega)))
 have G:(k==3)=false:=Qb.2 l
 by_cases p:k=4
 ·subst p
  have m:Hid (S={s with sk:=n}):=by unfold Hid;rw[e.out,Qe l,Qi rfl,<-r.out]
  clear e G l
  go_in
  go_upto_region 1 with fail
  rw[f.out];go_wp2_with fail
  go_end0
  exact b.out _ (by rw[m.out];exact j.out.putSk _) (g.out.trans (Oth.set z _ 11 _))
 have H:(k==4)=false:=Qb.2 p
 by_cases h2:k=2
 ·subst h2
  have m:Hid (S={s with st:=n,who:=y,dn:=true}):=by unfold Hid;rw[e.out,Qe l,Qe p,Qi rfl,<-r.out]
  clear e G l H p
  go_in
  go_upto_region 1 with fail
  rw[f.out];go_wp2_with fail
  go_end0
  exact b.out _ (by rw[m.out];exact((j.out.putSt _).putWho _).putDn _) (((g.out.trans (Oth.set z _ 7 _)).trans (Oth.set z _ 8 _)).trans (Oth.set z _ 12 _))
 have Z:(k==2)=false:=Qb.2 h2
 by_cases E:k=5
 ·subst E
  have m:Hid (S={s with dn:=true}):=by unfold Hid;rw[e.out,Qe l,Qe p,Qe h2,Qi rfl,<-r.out]
  clear e G l H p Z h2
  go_in
  go_upto_region 1 with fail
  rw[f.out];go_wp2_with fail
  go_end0
  exact b.out _ (by rw[m.out];exact j.out.putDn _) (g.out.trans (Oth.set z _ 12 _))
 ·have q5:(k==5)=false:=Qb.2 E
  have m:Hid (S=s):=by unfold Hid;rw[e.out,Qe l,Qe p,Qe h2,Qe E]
  clear e l p h2 E
  go_in
  go_upto_region 1 with fail
  rw[f.out];go_wp2_with fail
  go_end0
  exact b.out _ (by rw[m.out];exact j.out) g.out
def ptrV(g:Nat):Value:=.pointer (some ⟨g,0,none⟩)
def rowP:RowT Nat where
 e:=83
 t:=82
 size:=1
 bytes:=8
 z:=.pointer none
 cells g:=[ptrV g]
 hsz _:=rfl
 hpos:=by decide
 under:=underlying82
 info:=by kernel_rfl
 hz:=rfl
 one x u hu:=by
  rw[QE]at hu;rw[hu];rfl
 hbytes:=by decide
theorem zmC(l:List Nat):l.flatMap rowP.cells=l.map ptrV:=by
 induction l with
 |nil=>rfl
 |cons a r ih=>rw[QM,ih];rfl
def zh8(x:RuM):zcq:=⟨x.r.id,x.r.phase,.slice x.vA x.r.vars.length x.vc,.slice x.pA x.r.pipe.length x.pc,x.r.no,x.r.op,x.r.arg,.slice x.aA x.r.acts.length x.ac,x.r.chain⟩
abbrev RuB:=Nat × RuM
def ze6(a:List RuB)(k:Nat):Prop:=∃p∈a,p.1=k
def GU(u:Nat)(a:List RuB)(k:Nat):Prop:=k=u\/ze6 a k
def AllSt(F:Nat->Prop)(a:List RuB)(w:World):Prop:=∀p∈a,StR F p.1 (zh8 p.2) (tstO p.2.r.op p.2.r.arg) w
theorem StR.box{F:Nat->Prop}{g:Nat}{r:zcq}{f:ByteArray->Bool}{w:World}(h:StR F g r f w):∃d m t,RBox g r d m t w:=by
 rcases h with h|h
 ·exact⟨_,_,_,h⟩
 ·obtain⟨t,h⟩:=h.box
  exact⟨_,_,_,h⟩
theorem RBox.five{g:Nat}{r:zcq}{d m:Int}{t:Value}{w:World}(h:RBox g r d m t w):w.cell? ⟨g,0,none⟩=some (.int .i64 r.id)/\w.cell? ⟨g,1,none⟩=some (.int .i64 r.ph)/\w.cell? ⟨g,2,none⟩=some r.vs/\w.cell? ⟨g,7,none⟩=some r.av/\w.cell? ⟨g,8,none⟩=some (.bool r.ch):=
 ⟨Qf w g 0 _ _ _ h,Qf w g 1 _ _ _ h,Qf w g 2 _ _ _ h,Qf w g 7 _ _ _ h,Qf w g 8 _ _ _ h⟩
theorem AllSt.five{F:Nat->Prop}{a:List RuB}{w:World}(h:AllSt F a w)(p:RuB)(b:p∈a):w.cell? ⟨p.1,0,none⟩=some (.int .i64 p.2.r.id)/\w.cell? ⟨p.1,1,none⟩=some (.int .i64 p.2.r.phase)/\w.cell? ⟨p.1,2,none⟩=some (.slice p.2.vA p.2.r.vars.length p.2.vc)/\w.cell? ⟨p.1,7,none⟩=some (.slice p.2.aA p.2.r.acts.length p.2.ac)/\w.cell? ⟨p.1,8,none⟩=some (.bool p.2.r.chain):=by
 obtain⟨d,m,t,hb⟩:=(h p b).box;exact hb.five
theorem AllSt.next{F:Nat->Prop}{a:List RuB}{w W:World}(h:AllSt F a w)(hb:Below w.heap.size w W):AllSt F a W:=λp b=>(h p b).next hb
theorem AllSt.keep{F:Nat->Prop}{a:List RuB}{w W:World}(h:AllSt F a w)(e:w.heap.size<=W.heap.size)(d:∀p∈a,W.heap[p.1]? = w.heap[p.1]?)(c:∀k,k<w.heap.size->¬F k->W.heap[k]? = w.heap[k]?):AllSt F a W:=λp b=>(h p b).keep e (d p b) c
theorem AllSt.more{F b:Nat->Prop}{a:List RuB}{w:World}(h:AllSt F a w)(d:∀k,b k->F k\/w.heap.size<=k):AllSt b a w:=λp c=>(h p c).more d
theorem zmi:∀{l:List RuB},(l.map (·.1)).Nodup->∀{p q:RuB},p∈l->q∈l->p.1=q.1->p=q
 | [],_,_,_,d,_,_=>by cases d
 |x::l,c,p,q,d,f,e=>by
  rw[QX,ZP]at c
  rcases QJ.1 d with b|b
  ·rcases QJ.1 f with a|a
   ·exact b.trans a.symm
   ·exact absurd (show x.1∈l.map (·.1)from QO.2 ⟨q,a,by rw[<-e,b]⟩) c.1
  ·rcases QJ.1 f with a|a
   ·exact absurd (show x.1∈l.map (·.1)from QO.2 ⟨p,b,by rw[e,a]⟩) c.1
   ·exact zmi c.2 b a e
theorem AllSt.asked{F:Nat->Prop}{a:List RuB}{B:Nat}{w W:World}(h:AllSt F a w)(l:∀p∈a,F p.1)(f:(a.map (·.1)).Nodup)(p:RuB)(g:p∈a)(b:Oth B p.1 w W)(j:StR F p.1 (zh8 p.2) (tstO p.2.r.op p.2.r.arg) W):AllSt F a W:=λq c=>by
 by_cases e:q.1=p.1
 ·have d:q=p:=zmi f c g e
  rw[d];exact j
 ·exact(h q c).keep b.below.size (b.keep _ (h q c).lt e) λk i f=>b.keep k i λd=>f (d ▸ l p g)
structure RunQ where
 m:ByteArray
 t:ByteArray
 b:ByteArray
 fs:List zao
 A:Option Addr
 c:Nat
 cl:Nat
 list:List Pair
 Al:Option Addr
 c1:Nat
 cook:List Pair
 Ac:Option Addr
 c2:Nat
def RunQ.uc(q:RunQ):zef:=⟨q.m,q.t,.slice q.A q.fs.length q.c,q.b,(q.cl:Int),.slice q.Al q.list.length q.c1,.slice q.Ac q.cook.length q.c2⟩
noncomputable def RunQ.hit(q:RunQ)(a:Int)(r:zai):Bool:=isR r q.m q.t q.b q.fs q.cl a q.list q.cook
structure zg4(B u:Nat)(all:List RuB)(q:RunQ)(wS:World):Prop where
 nodup:(all.map (·.1)).Nodup
 base:∀p∈all,B<=p.1/\p.1<wS.heap.size/\p.1≠u
 ub:B<=u/\u<wS.heap.size
 rin:∀p∈all,RuIn wS B p.2
 small:∀p∈all,ze7 p.2.r
 ops:∀p∈all,1<=p.2.r.op/\p.2.r.op<=12/\argC p.2.r.op p.2.r.arg=0
 acts:∀p∈all,∀a∈p.2.r.acts,0<=a.n/\a.n<=1000
 val:∀W,Apart (GU u all) B wS W->ValIn q.m q.t q.b q.fs q.A q.list q.Al q.cook q.Ac W
 zs:∀sc:Int,0<=sc->sc<=1000000->zn6 q.t q.fs q.list q.cook q.cl sc
def zAF(F:Nat->Prop)(a b:List RuB)(B:Nat)(H:RuB->Bool)(w:World)(i:Value)(wr:World):Prop:=
 ∃k:Nat,k<=b.length/\i=.int .i64 k/\AllSt F a wr/\Apart (ze6 a) B w wr/\Hid ((b.take k).all H=true)
theorem zwX{a:Type}(p:a->Bool)(l:List a)(k:Nat)(c:k<l.length)(h:(l.take k).all p=true)(b:p l[k]=true):(l.take (k+1)).all p=true:=by
 rw[Qq c,List.all_append,h,Bool.true_and,ZT,b];rfl
theorem zvc{b:Type}(p:b->Bool)(l:List b)(k:Nat)(c:k<l.length)(a:p l[k]=false):l.all p=false:=by
 rw[Bool.eq_false_iff];intro h;rw[Zn.1 h _ (Qy c)]at a;cases a
theorem zpW{w:World}{n:Nat}{A:Option Addr}{l:List RuB}(h:Sl w w.heap.size 1 A n (l.map λp=>ptrV p.1))(k:Nat)(c:k<l.length):∃b a,A=some ⟨b,a,none⟩/\w.cell? ⟨b,a+k,none⟩=some (.pointer (some ⟨l[k].1,0,none⟩)):=by
 obtain⟨b,a,e,_,d⟩:=h.src (by rw[Qh];omega);refine⟨b,a,e,?_⟩;rw[d k (by rw[Qh];exact c),Zd]
 rfl
def zmH(F:Nat->Prop)(a:List RuB)(B:Nat)(b:Bool)(w:World)(e:Ending)(w':World):Prop:=
 e=.returned (.bool b)/\AllSt F a w'/\Apart (ze6 a) B w w'
theorem zuh{B u:Nat}{a:List RuB}{q:RunQ}{wS:World}(f:zg4 B u a q wS)(F:Nat->Prop)(he:∀p∈a,F p.1)(s:RunS)(mv:Value)(d:List RuB)(hc:∀p∈d,p∈a)(hE:d.length<=4194304)(Ap:Option Addr)(cp:Nat)(w:World)
 (hq:Apart (GU u a) B wS w) (hu:UBox u q.uc s mv w) (z:0<=s.sc/\s.sc<=1000000) (T:AllSt F a w) (hF:∀k,F k->k<w.heap.size)
 (Q:∀W,Apart (ze6 a) B w W->Sl W W.heap.size 1 Ap d.length (d.map λp=>ptrV p.1)):
 Calls prog 53 #[.pointer (some ⟨u,0,none⟩),.slice Ap d.length cp] w (zmH F a B (d.all λp=>q.hit s.sc p.2.r) w):=by
 have h8:∀W,Apart (ze6 a) B w W->UBox u q.uc s mv W:=λW h=>hu.keep (h.keep u hu.lt λ⟨p,n,e⟩=>(f.base p n).2.2 e)
 have j:∀W,Apart (ze6 a) B w W->Apart (GU u a) B wS W:=λW h=>hq.trans (h.mono λk hk=>.inr hk)
 have HU:=hIx h8
 have P:Hid (∀(p:RuB) W,p∈a->Apart (ze6 a) B w W->Calls prog 84 #[.slice p.2.vA p.2.r.vars.length p.2.vc,.agg #[.string q.m,.string q.t,.slice q.A q.fs.length q.c,.string q.b],.int .u32 (q.cl:Int),.int .i64 s.sc,.slice q.Al q.list.length q.c1,.slice q.Ac q.cook.length q.c2] W
  (RowA (allP (vfP q.m q.t q.b q.fs q.cl s.sc q.list q.cook) (p.2.r.vars.map varQ) (p.2.r.vars.map varQ)) W)):=λp W n hW=>by
  have o:=j W hW;have hB:=f.rin p n
  have hx:Sl W W.heap.size 3 p.2.vA (p.2.r.vars.map varQ).length ((p.2.r.vars.map varQ).flatMap zd0):=by
   rw[zqO,Qh];exact(hB.vars.below o.below).more (Qn f.ub.1 (Q5 (Qv f.ub.2 o.below.size)))
  have Y:(p.2.r.vars.map varQ).length<=1048576:=by rw[Qh];exact(f.small p n).vars
  have hz:=f.zs s.sc z.1 z.2;have:=zx6 (p.2.r.vars.map varQ) p.2.vA p.2.vc q.m q.t q.b q.fs q.A q.c q.cl s.sc q.list q.Al q.c1 q.cook q.Ac q.c2 W hx (f.val W o) hz (by omega) (zo3 hz _ _ Y);rw[Qh]at this;exact this
 have K:Hid (∀(p:RuB) (v:Value) W E,p∈a->Apart (ze6 a) B w W->AllSt F a W->OwnA E W.heap.size v (allP (vfP q.m q.t q.b q.fs q.cl s.sc q.list q.cook) (p.2.r.vars.map varQ) (p.2.r.vars.map varQ))->Below W.heap.size W E->
  ∃A4 n4 c4,v=.slice A4 n4 c4/\Calls prog 83 #[.pointer (some ⟨p.1,0,none⟩),.slice A4 n4 c4] E λe w'=>e=.returned (.bool (q.hit s.sc p.2.r))/\AllSt F a w'/\Apart (ze6 a) B w w'):=λp v W E n hW hs hO hb=>by
  have o:=j W hW;have hz:=f.zs s.sc z.1 z.2;have Y:(p.2.r.vars.map varQ).length<=1048576:=by rw[Qh];exact(f.small p n).vars
  have h5:=zo3 (m:=q.m) (b:=q.b) hz (p.2.r.vars.map varQ) (p.2.r.vars.map varQ) Y;have hi:q.hit s.sc p.2.r=(allP (vfP q.m q.t q.b q.fs q.cl s.sc q.list q.cook) (p.2.r.vars.map varQ) (p.2.r.vars.map varQ)).any (hitX p.2.r.pipe p.2.r.no (tstO p.2.r.op p.2.r.arg)):=rfl;rw[hi];generalize allP (vfP q.m q.t q.b q.fs q.cl s.sc q.list q.cook) (p.2.r.vars.map varQ) (p.2.r.vars.map varQ)=L at *;obtain⟨A4,c4,rfl,_⟩:=hO.form;have hv:B<=W.heap.size:=Qn f.ub.1 (Q5 (Qv f.ub.2 o.below.size));have h4:Apart (ze6 a) B w E:=hW.trans (Apart.of hb hv);have hf:=hs.next hb;have h6:=f.base p n;have hC:p.1<W.heap.size:=Qv h6.2.1 o.below.size;have G:∀X,Oth B p.1 E X->Apart (ze6 a) B w X:=λX x=>h4.trans (x.apart ⟨p,n,rfl⟩)
  have hy:∀X,Oth B p.1 E X->B<=X.heap.size:=λX x=>Qn hv (Qn hb.size x.below.size)
  have hr:∀X,Oth B p.1 E X->Sl X X.heap.size 2 A4 L.length (L.flatMap za9):=λX x=>by
   have h2:=hO.keep (w':=X) λg hg=>by
    have:=QK hO g hg;exact x.keep g this.2 (by omega)
   obtain⟨A',c',e',hA⟩:=h2.form;injection e' with e1 _ _
   rw[e1];exact hA
  obtain⟨o1,o2,o3⟩:=f.ops p n
  refine⟨A4,L.length,c4,rfl,(znV B F p.1 (zh8 p.2) p.2.r.pipe p.2.pA p.2.pc rfl (by have:=(f.small p n).pipe;omega) L h5 A4 c4 E h6.1 (λk hk=>Qv (hF k hk) h4.below.size) (hf p n)
   (λX x=>((f.rin p n).pipe.below (j X (G X x)).below).more (hy X x)) hr (λX x=>(f.val X (j X (G X x))).lib) (λX x=>(f.val X (j X (G X x))).tab) o1 o2 (f.small p n).arg o3).mono ?_⟩
  rintro e w' ⟨rfl,T,ho⟩;exact⟨rfl,hf.asked he f.nodup p n ho T,G w' ho⟩
 have ht:Hid (∀W,Apart (ze6 a) B w W->B<=W.heap.size):=λW hW=>Qn f.ub.1 (Q5 (Qv f.ub.2 (j W hW).below.size))
 have O:=hIx Q;obtain⟨H,N⟩:∃H:RuB->Bool,(λp=>q.hit s.sc p.2.r)=H:=⟨_,rfl⟩
 have hj:Hid (∀p,q.hit s.sc p.2.r=H p):=λp=>by rw[<-N]
 rw[N];have hd:=hIx hc;unfold zmH;clear h8 j Q N f hq hu hF he z hc
 go_in
 go_wp2
 go_loopw [9] (λi wr=>zAF F a d B H w i wr) (λi _=>d.length-(intOf i).toNat)
 case atStart=>exact⟨0,Qm _,rfl,T,Apart.refl _ _ _,rfl⟩
 case round=>
  obtain⟨k,hk,rfl,hs,ha,l⟩:=hrel
  by_cases I:k<d.length
  ·have d1:decide ((k:Int)<(d.length:Int))=true:=by simp;omega
   have i7:IntKind.i64.wrap ((k:Int)+1)=(k:Int)+1:=Qx _ (by omega);obtain⟨b,hD,rfl,x0⟩:=zpW (O.out wr ha) k I;have D:=hd.out d[k] (Qy I);have V:Hid (H d[k]=true->(d.take (k+1)).all H=true):=λh=>zwX H d k I l.out h
   have h0:Hid (H d[k]=false->d.all H=false):=zvc H d k I;generalize d[k]=p at *;have HS:=hIx hs;have HA:=hIx ha;have hn:=hIx (P.out p wr.drew D (ha.trans (Apart.of (Qg _ _).drew (ht.out wr ha))));have hw:=hIx (K.out p);have hm:=hIx (hj.out p);obtain⟨p1,J⟩:=p;dsimp only at *;clear P K O hs ha l hd hj
   have HK:Hid (∀w',AllSt F a w'->Apart (ze6 a) B w w'->w'.cell? ⟨p1,2,none⟩=some (.slice J.vA J.r.vars.length J.vc)/\w'.cell? ⟨u,0,none⟩=some (.string q.m)/\w'.cell? ⟨u,1,none⟩=some (.string q.t)/\w'.cell? ⟨u,2,none⟩=some (.slice q.A q.fs.length q.c)/\w'.cell? ⟨u,3,none⟩=some (.string q.b)/\w'.cell? ⟨u,4,none⟩=some (.int .u32 (q.cl:Int))/\w'.cell? ⟨u,5,none⟩=some (.slice q.Al q.list.length q.c1)/\w'.cell? ⟨u,6,none⟩=some (.slice q.Ac q.cook.length q.c2)/\w'.cell? ⟨u,9,none⟩=some (.int .i64 s.sc)):=λW h1 h2=>by
    have h3:=(h1.five (p1,J) D).2.2.1;have h4:=HU.out W h2;obtain⟨e0,e1,e2,e3,e4,e5,e6⟩:=h4.req;exact⟨h3,e0,e1,e2,e3,e4,e5,e6,h4.out.2.2.1⟩
   have K0:=HK.out wr HS.out HA.out;have h7:=ht.out wr HA.out;go_upto_region 4 with fail
   go_region_held3 (λw'=>w'.cell? ⟨p1,2,none⟩=some (.slice J.vA J.r.vars.length J.vc)/\w'.cell? ⟨u,0,none⟩=some (.string q.m)/\w'.cell? ⟨u,1,none⟩=some (.string q.t)/\w'.cell? ⟨u,2,none⟩=some (.slice q.A q.fs.length q.c)/\w'.cell? ⟨u,3,none⟩=some (.string q.b)/\w'.cell? ⟨u,4,none⟩=some (.int .u32 (q.cl:Int))/\w'.cell? ⟨u,5,none⟩=some (.slice q.Al q.list.length q.c1)/\w'.cell? ⟨u,6,none⟩=some (.slice q.Ac q.cook.length q.c2)/\w'.cell? ⟨u,9,none⟩=some (.int .i64 s.sc))
    (first|exact K0|exact K8|exact K9|go_keep|fail "keep")
    (first|(go_at_call 84;(with_reducible refine hn.out.mono ?_);rintro e w8 ⟨v8,rfl,hh,y⟩;have S:Below wr.heap.size wr w8:=undrew y;have K8:=HK.out w8 (HS.out.next S) (HA.out.trans (Apart.of S h7));obtain⟨A4,n4,c4,rfl,h9⟩:=hw.out v8 wr.drew w8 D (HA.out.trans (Apart.of (Qg _ _).drew h7)) (HS.out.next (Qg _ _).drew) hh y)|(go_at_call 83;(with_reducible refine h9.mono ?_);rintro e w9 ⟨rfl,Z,U⟩;have K9:=HK.out w9 Z U)|fail "arm")
   rw[hm.out];clear K0 K8 K9 hn hw h9 hh S y HK HU hm;cases N:H (p1,J)with
   |true=>
    have C:=hIx (V.out N);clear N V h0;go_wp2;exact⟨⟨k+1,by omega,rfl,Z,U,C.out⟩,by dsimp only[intOf];omega⟩
   |false=>
    have C:=hIx (h0.out N);clear N V h0;go_wp2;go_ret;exact⟨by rw[C.out];rfl,Z,U⟩
  ·obtain rfl:k=d.length:=by omega
   have d1:decide ((d.length:Int)<(d.length:Int))=false:=by simp
   have C:Hid (d.all H=true):=by have:=l.out;rw[QV]at this;exact this
   clear l;go_wp2;go_ret;exact⟨by rw[C.out];rfl,hs,ha⟩
