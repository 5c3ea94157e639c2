/- Lemmas for the last texts. -/
import Derived.Test.YtnnokglddolglaaGreatDoorM13
import Derived.Shelf.SlSortCmp.WholeK
set_option maxHeartbeats 800000
set_option maxRecDepth 100000
namespace Go.Proofs.YtnnokglddolglaaGreatDoor
open Go.RowKit Go.Proofs.Tryz
theorem zgu:∀(l:List (zaJ × Nat)) (p:zaJ × Nat) (k:zaJ),zbH (l++[p]) k=(zbH l k).or (if k=p.1 then some p.2 else none)
 | [],p,k=>by simp[zbH]
 |q::l,p,k=>by
  rw[ZQ,zbH,zbH]
  by_cases h:k=q.1
  ·rw[Qg h,Qg h];rfl
  ·rw[Qe h,Qe h];exact zgu l p k
theorem NextOk.start:NextOk [⟨0,0,0⟩] []:=λa b j=>by
 constructor
 ·intro h;cases h
 ·rintro⟨c,n,h1,_⟩
  have:j<1:=(Qw.1 h1).1;omega
theorem NextOk.add{d:List zaC}{l:List (zaJ × Nat)}(h:NextOk d l)(x:zaC)(m:0<d.length)(i:zbH l ((x.up:Int),x.b)=none):NextOk (d++[x]) (l++[(((x.up:Int),x.b),d.length)]):=λa b j=>by
 rw[zgu];have k:=h a b
 by_cases e:((a:Int),b)=((x.up:Int),x.b)
 ·obtain⟨o,rfl⟩:=Prod.mk.inj e
  obtain rfl:a=x.up:=by omega
  rw[i,Qg rfl]
  constructor
  ·intro f
   obtain rfl:d.length=j:=by simpa using f
   exact⟨m,x,by simp,rfl,rfl⟩
  ·rintro⟨f,n,h1,h2,g⟩
   by_cases c:j<d.length
   ·rw[Zj c]at h1
    have:=(k j).2 ⟨f,n,h1,h2,g⟩;rw[i]at this;cases this
   ·have:=(Qw.1 h1).1
    rw[Qa,QC]at this;obtain rfl:j=d.length:=by omega
    rfl
 ·rw[Qe e,Option.or_none,k j]
  constructor
  ·rintro⟨f,n,h1,h2⟩
   have c:=(Qw.1 h1).1;exact⟨f,n,by rw[Zj c];exact h1,h2⟩
  ·rintro⟨f,n,h1,h2,g⟩
   by_cases c:j<d.length
   ·rw[Zj c]at h1
    exact⟨f,n,h1,h2,g⟩
   ·have:=(Qw.1 h1).1
    rw[Qa,QC]at this;obtain rfl:j=d.length:=by omega
    simp at h1;subst h1;subst h2;subst g
    exact absurd rfl e
theorem zlb(W:World)(b j:Nat)(o:Obj)(h:b≠j):(ChangeMaps.setBlock W b o).heap[j]? = W.heap[j]? := by
 simp[ChangeMaps.setBlock,Xp h]
theorem zea{w w':World}{g:Nat}(h:w'.heap[g]? = w.heap[g]?)(i:Nat):w'.cell? ⟨g,i,none⟩=w.cell? ⟨g,i,none⟩:=by simp only[World.cell?, h]
theorem zmx{w w':World}{g:Nat}(h:w'.heap[g]? = w.heap[g]?)(i:Nat):w'.frozen? ⟨g,i,none⟩=w.frozen? ⟨g,i,none⟩:=by simp only[World.frozen?, h]
theorem MkF.drew{w:World}{c g a cap:Nat}{b:List zaC}{l:List (zaJ × Nat)}(h:MkF w c g a cap b l):MkF w.drew c g a cap b l:=⟨h.nodes,h.next,h.fail,h.map,h.lt⟩
def zw0(a:List jE)(p:jE)(b:UInt8)(r:Nat):Prop:=
 ∃f,a[r]? = some f/\f∈a/\f <:+p++[b]/\f≠p++[b]/\∀u,u∈a->u <:+p++[b]->u≠p++[b]->u <:+f
theorem zwW{d:List zaC}{c:List jE}(f:Inv d c){l:List (zaJ × Nat)}(hl:NextOk d l){up:Nat}{b:UInt8}{p:jE}(e:c[up]? = some p)(a:p++[b] ∉ c):zbH l ((up:Int),b)=none:=by
 cases h:zbH l ((up:Int),b)with
 |none=>rfl
 |some j=>exact absurd (Xb ((f.kid e).2 ((hl up b j).1 h))) a
theorem ztE{k:List zaC}{m:List jE}(i:Inv k m){l:List (zaJ × Nat)}(hl:NextOk k l)(hb:k.length<=400){up:Nat}{b:UInt8}{p:jE}(t:m[up]? = some p)(o:p++[b] ∉ m)(x:Nat)
 {s g z cap:Nat} {w:World} (M:MkF w s g z cap k (l++[(((up:Int),b),x)])):
 Calls prog 182 #[.pointer s,.agg #[jA (up:Int),.int .u8 b.toNat]] w λe w'=>(∃r:Nat,e=jC (jA (r:Int))/\zw0 m p b r)/\w w':=by
 by_cases y:up=0
 ·subst y
  refine(ziA s b w).mono ?_;rintro e w' ⟨rfl,h⟩;rw[i.trie.root]at t;obtain rfl:=QD t;exact⟨⟨0,rfl,[],i.trie.root,zua i.trie⟩,h⟩
 ·obtain⟨A,q⟩:∃n,k[up]? = some n:=⟨_,Qd (i.lt t)⟩
  obtain⟨h1,f,h2,B⟩:=i.fail_at (by omega) q t;refine(zqM k m i _ s g z cap up (λa c j D=>?_) b A f q y (zmB h2) h1 (by omega) w M).mono ?_
  ·rw[zgu,Qe (λe=>by injection e with e _;omega),Option.or_none]
   exact hl a c j
  ·rintro e w' ⟨⟨r,rfl,v,C,d⟩,u⟩
   exact⟨⟨r,rfl,v,C,zmG B d i.trie o⟩,u⟩
def EdgesAt(w:World)(base:Nat)(v:Value)(l:List (Nat × UInt8)):Prop:=
 ∃A c,v=.slice A l.length c/\(0<l.length->∃(g:Nat) (cs:Array Value) (a:Nat × Nat),A=some ⟨g,0,none⟩/\base<=g/\w.heap[g]? = some (.cells cs 275 a)/\∀j (h:j<l.length),cs[j*2]? = some (jA (l[j].1:Int))/\cs[j*2+1]? = some (.int .u8 l[j].2.toNat))
theorem EdgesAt.at{w:World}{base:Nat}{v:Value}{l:List (Nat × UInt8)}(h:EdgesAt w base v l)(k:Nat)(b:k<l.length):
 ∃g cs a c,v=.slice (some ⟨g,0,none⟩) l.length c/\base<=g/\w.heap[g]? = some (.cells cs 275 a)/\w.cell? ⟨g,k*2,none⟩=some (jA (l[k].1:Int))/\w.cell? ⟨g,k*2+1,none⟩=some (.int .u8 l[k].2.toNat):=by
 obtain⟨A,c,rfl,h⟩:=h;obtain⟨g,cs,a,rfl,h1,h2,d⟩:=h (by omega);exact⟨g,cs,a,c,rfl,h1,h2,(Qf w g (k*2) _ _ _ h2).trans (d k b).1,(Qf w g (k*2+1) _ _ _ h2).trans (d k b).2⟩
theorem EdgesAt.keep{w w':World}{base:Nat}{v:Value}{l:List (Nat × UInt8)}(h:EdgesAt w base v l)(b:∀(g:Nat) cs a,w.heap[g]? = some (.cells cs 275 a)->w'.heap[g]? = w.heap[g]?):EdgesAt w' base v l:=by
 obtain⟨A,c,rfl,h⟩:=h;refine⟨A,c,rfl,λd=>?_⟩;obtain⟨g,cs,a,e,h1,h2,f⟩:=h d;exact⟨g,cs,a,e,h1,(b g cs a h2).trans h2,f⟩
section
open Go.Shelf Go.Lib Go.Sort
theorem zsN(blk off cap:Nat)(d:Array zhz)(w:World)(f:HoldsK encS 2 w blk off d)(a:blk<w.heap.size)(b:d.size<4611686018427387904):
 Calls prog 180 #[.slice (some ⟨blk,off,none⟩) d.size cap,.func (.func 181) #[] #[]] w λe w'=>
  e=jC (.tuple #[])/\∃d' n os,PermIn 0 d.size d d'/\SortedIn (ltOf cmpS) 0 d.size d'/\w'=sortWorldK encS 2 w blk off n d' os:=
 AnyQ.slices_SortFunc zks 2 isAgg275 sizeOf275 encS (λ_=>rfl) (λx v c=>by simp[encS]at c;rcases c with rfl|rfl <;> rfl) cmpS swoS 181 #[] blk off cap d w
  (enters_of func181 (by kernel_rfl) rfl) (λ_ _ _ _ x y=>zrs x y _) f a b
theorem zuj{d d':Array zhz}(h:PermIn 0 d.size d d'):d'.toList.Perm d.toList:=by
 obtain⟨h1,_,h2⟩:=h;have a:d'.extract 0 d.size=d':=by rw[<-h1];simp
 have b:d.extract 0 d.size=d:=by simp
 rwa[a,b]at h2
end
theorem zxx(f:Value)(w:World):Calls prog 260 #[jD 0 0,jA 0,jA 0,f] w λe w'=>e=jC (.tuple #[])/\w'=w:=by
 go_in
 go_wp2_with fail;refine wp_loop_rounds 1 ?_;rw[rounds_succ];go_wp2_with fail
 go_end0
 exact⟨rfl,rfl⟩
theorem zxd(f:Value)(m:Int)(w:World):Calls prog 221 #[jD 0 0,jA 0,jA 0,jA m,f] w λe w'=>e=jC (.tuple #[])/\w'=w:=by
 have a:=λW=>zxx f W
 go_in
 go_wp2_with fail;refine wp_loop_rounds 1 ?_;rw[rounds_succ];go_wp2_with (go_at_call 260;refine(a _).mono ?_;rintro e w' ⟨rfl,rfl⟩)
 (try simp only[Exit.inBlock,Exit.then]);refine Qi (results_none rfl _ _ _) rfl ?_
 exact⟨rfl,rfl⟩
theorem zuv(f:Value)(w:World):Calls prog 180 #[jD 0 0,f] w λe w'=>e=jC (.tuple #[])/\w'=w:=by
 have a:=λm W=>zxd f m W
 have hl:=λW=>bits_Len 0 W (by omega) (by omega)
 go_in
 go_wp2_with (first|(go_at_call 184;refine(hl _).mono ?_;rintro e w' ⟨rfl,rfl⟩)|(go_at_call 221;refine(a _ _).mono ?_;rintro e w' ⟨rfl,rfl⟩))
 go_end0
 exact⟨rfl,rfl⟩
section
open Go.Sort Go.Shelf Go.Lib
theorem zp4(B:Nat)(w:World)(blk off n:Nat)(d:Array zhz)(os:Array Obj)(c:B<=blk)(a:B<=w.heap.size):Below B w (sortWorldK encS 2 w blk off n d os):=by
 unfold sortWorldK putRowK
 have h1:Below B w (putRow id (Sort.ahead w n) blk off (flatK encS 2 d)):=⟨rfl,rfl,rfl,by simp,λj b=>by
  unfold putRow mapBlock;show ((w.heap.modify blk _))[j]? = _
  rw[Q4,Qe (by omega)]⟩
 exact h1.trans (below_grow B _ (by simpa using a) 0 os)
def toS(e:Nat × UInt8):zhz:=(⟨e.1 % 65536,XJ _ (by decide)⟩,e.2)
def ofS(e:zhz):Nat × UInt8:=(e.1.val,e.2)
theorem zz4{l:List (Nat × UInt8)}(h:∀e∈l,e.1<65536):(l.map toS).map ofS=l:=by
 rw[Xr];refine(List.map_congr_left λe a=>?_).trans (List.map_id l);have:=h e a;exact Prod.ext (Nat.mod_eq_of_lt this) rfl
theorem zss{W:World}{g n:Nat}{d:Array zhz}{os:Array Obj}{cs:Array Value}{t:TypeId}{c:Nat × Nat}(h:W.heap[g]? = some (.cells cs t c)):∃b,(sortWorldK encS 2 W g 0 n d os).heap[g]? = some (.cells b t c):=by
 have a:g<W.heap.size:=(QV.1 h).1;refine⟨putCells id 0 (flatK encS 2 d) cs,?_⟩;unfold sortWorldK putRowK putRow mapBlock grow;show ((W.heap.modify g _)++os)[g]? = _
 rw[Array.getElem?_append_left (by simpa using a),Q4,Qg rfl,h]
 rfl
theorem zuQ{w:World}{g:Nat}{d:Array zhz}(h:HoldsK encS 2 w g 0 d)(j:Nat)(a:j<d.size):w.cell? ⟨g,j*2,none⟩=some (jA (d[j].1.val:Int))/\w.cell? ⟨g,j*2+1,none⟩=some (.int .u8 d[j].2.toNat):=by
 have b:=(h.cell a (show 0<2 by decide)).1;have h1:=(h.cell a (show 1<2 by decide)).1;rw[getElem!_pos d j a]at b h1;rw[show 0+j*2+0=j*2 by omega]at b;rw[show 0+j*2+1=j*2+1 by omega]at h1;exact⟨b,h1⟩
theorem zru{W:World}{base g c:Nat}{l:List (Nat × UInt8)}(h:OwnG rowE W base (.slice g l.length c) l)(k:∀e∈l,e.1<65536):HoldsK encS 2 W g 0 (l.map toS).toArray:=by
 intro t f;rw[size_flatK]at f;have a:t / 2<l.length:=by simp at f;omega
 have j:t % 2<2:=XJ _ (by decide);obtain⟨h1,h2⟩:=h.at (t / 2) a (t % 2) j;have e:t / 2*rowE.size+t % 2=t:=by show t / 2*2+t % 2=t;omega
 rw[e]at h1 h2;rw[Zh];refine⟨h1.trans ?_,h2⟩;have i:(l.map toS).toArray[t / 2]! = toS l[t / 2]:=by rw[getElem!_pos _ _ (by simpa using a)];simp
 rw[get_flatK _ _ _ _ f,i];have d:=k _ (Qz a)
 rcases Nat.mod_two_eq_zero_or_one t with b|b
 ·rw[b]
  show some (jA (l[t / 2].1:Int))=some (jA ((l[t / 2].1 % 65536:Nat):Int))
  rw[Nat.mod_eq_of_lt d]
 ·rw[b];rfl
theorem zux{base:Nat}{v:Value}{l:List (Nat × UInt8)}{W:World}(h:OwnG rowE W base v l)(b:base<=W.heap.size)(u:∀e∈l,e.1<65536)(hl:l.length<=4096):
 Calls prog 180 #[v,.func (.func 181) #[] #[]] W λe w'=>
  e=jC (.tuple #[])/\Below base W w'/\∃w,w.Perm l/\EdgesAt w' base v w:=by
 rcases h.cases with ⟨rfl,rfl⟩|⟨g,c,rfl,i,s⟩
 ·refine(zuv _ W).mono ?_
  rintro e w' ⟨rfl,rfl⟩;exact⟨rfl,Qj _ _,[],List.Perm.refl _,none,0,rfl,λh=>absurd h (by simp)⟩
 ·have t:=zru h u
  have m:(l.map toS).toArray.size=l.length:=by simp
  have x:=zsN g 0 c (l.map toS).toArray W t s (by rw[m];omega);rw[m]at x;refine x.mono ?_;rintro e w' ⟨rfl,d',n,os,z,_,rfl⟩
  have f:d'.toList.Perm (l.map toS):=by
   have:=zuj (d:=(l.map toS).toArray) (d':=d') (by rw[m];exact z)
   simpa using this
  have k:d'.size=l.length:=by have:=f.length_eq;simpa using this
  obtain⟨cs,y,q⟩:=Xx h g rfl;obtain⟨p,a⟩:=zss (n:=n) (d:=d') (os:=os) q;have r:HoldsK encS 2 (sortWorldK encS 2 W g 0 n d' os) g 0 d':=holdsK_sortWorldK_c _ _ _ _ _ _ _ _ _ t s (by rw[k,m]);refine⟨rfl,zp4 base W g 0 n d' os i b,d'.toList.map ofS,?_,some ⟨g,0,none⟩,c,by simp[k],λ_=>⟨g,p,y,rfl,i,a,λj A=>?_⟩⟩
  ·have:=f.map ofS
   rwa[zz4 u]at this
  ·have o:j<d'.size:=by simpa using A
   obtain⟨h1,h2⟩:=zuQ r j o;rw[Qf _ g _ _ _ _ a]at h1 h2;rw[h1,h2];simp[ofS]
end
def zhq(ws:List jE)(n:Nat)(a:List Nat)(k:Nat):Nat × UInt8:=(a.getD k 0,(ws.getD k []).getD n 0)
def gath(ws:List jE)(n:Nat)(a:List Nat):Nat->List (Nat × UInt8)
 |0=>[]
 |k+1=>if n<(ws.getD k []).length/\zhq ws n a k ∉ gath ws n a k then gath ws n a k++[zhq ws n a k]else gath ws n a k
theorem zkR(ws:List jE)(n:Nat)(c:List Nat):∀m,(gath ws n c m).Nodup/\∀e,e∈gath ws n c m↔∃k,k<m/\n<(ws.getD k []).length/\e=zhq ws n c k
 |0=>⟨by simp[gath],λe=>by simp[gath]⟩
 |m+1=>by
  obtain⟨h1,h2⟩:=zkR ws n c m
  have i:∀e,(∃k,k<m+1/\n<(ws.getD k []).length/\e=zhq ws n c k)↔(e∈gath ws n c m\/n<(ws.getD m []).length/\e=zhq ws n c m):=λe=>by
   rw[h2]
   constructor
   ·rintro⟨k,j,d,f⟩
    by_cases g:k=m
    ·subst g;exact .inr ⟨d,f⟩
    ·exact .inl ⟨k,by omega,d,f⟩
   ·rintro(⟨k,j,d,f⟩|⟨d,f⟩)
    ·exact⟨k,by omega,d,f⟩
    ·exact⟨m,by omega,d,f⟩
  rw[gath]
  split
  case isTrue h=>
   refine⟨List.nodup_append.2 ⟨h1,by simp,λa l b hb e=>?_⟩,λe=>?_⟩
   ·rw[Qy]at hb
    subst hb;subst e
    exact h.2 l
   ·rw[QO,Qy,i]
    exact⟨λd=>d.imp id λf=>⟨h.1,f⟩,λd=>d.imp id λf=>f.2⟩
  case isFalse h=>
   refine⟨h1,λe=>?_⟩;rw[i]
   constructor
   ·exact .inl
   ·rintro(d|⟨d,rfl⟩)
    ·exact d
    ·exact Classical.byContradiction λf=>h ⟨d,f⟩
theorem zpI(ws:List jE)(n:Nat)(a:List Nat):EdgesOf ws n a (gath ws n a ws.length):=
 ⟨(zkR ws n a ws.length).1,(zkR ws n a ws.length).2⟩
theorem EdgesOf.perm{ws:List jE}{n:Nat}{a:List Nat}{es b:List (Nat × UInt8)}(h:EdgesOf ws n a es)(c:b.Perm es):EdgesOf ws n a b:=
 ⟨c.nodup_iff.2 h.nod,λe=>(c.mem_iff).trans (h.mem e)⟩
def lstS(ws:List ByteArray):List jE:=ws.map (·.data.toList)
def nilE(n:zaC):zcG:=(n,none,0,0)
theorem zoQ(a:List zaC):(a.map nilE).map Prod.fst=a:=by
 rw[Xr];exact List.map_id a
structure zs9(w:World)(B gm bm ga ca:Nat)(ws:List ByteArray)(n:Nat)(g cap:Nat)(ns:List zaC)(ss:List jE)(l:List (zaJ × Nat))(ats:List Nat):Prop where
 mkr:Mk w B gm bm ga ca g cap (ns.map nilE) l ats
 lev:Lev (lstS ws) n ns ss
 ats:AtOk (lstS ws) n ss ats
 next:NextOk ns l
 few:ns.length<=400
def Full(ws:List jE):Prop:=∃a:List jE,a.Nodup/\a.length=401/\∀v∈a,∃w∈ws,v <+:w
theorem Mid.full{ws:List jE}{n k:Nat}{f o:List zaC}{a m:List jE}{d:List Nat}{es:List (Nat × UInt8)}(hl:Lev ws n f a)(r:AtOk ws n a d)(s:EdgesOf ws n d es)(h:Mid ws n a es k o m)(q:k<es.length)(g:o.length=400):Full ws:=by
 obtain⟨p,_,l,i,_⟩:=h.next hl r s q
 have b:∀e,e∈es->∃w∈ws,strE a e <+:w:=λe h1=>by
  obtain⟨j,h2,t,g,_,_⟩:=zet r s h1;exact⟨ws.getD j [],by rw[Qo,Qd h2];exact Qz h2,by rw[g];exact List.take_prefix _ _⟩
 refine⟨(p++[es[k].2])::m,Z6.2 ⟨i,h.inv.trie.uniq⟩,by rw[Qn,<-h.inv.len,g],λv c=>?_⟩
 rcases QI.1 c with rfl|c
 ·rw[<-l]
  exact b _ (Qz q)
 ·rw[h.str]at c
  rcases QO.1 c with c|c
  ·exact((hl.mem v).1 c).2
  ·obtain⟨e,h1,rfl⟩:=QR.1 c
   exact b e (Xd h1)
theorem ziV:∀(l m:List jE),l.Nodup->(∀x∈l,x∈m)->l.length<=m.length
 | [],_,_,_=>Qm _
 |a::l,m,h,c=>by
  rw[Z6]at h;have b:=c a (by simp);have:=ziV l (m.erase a) h.2 λx d=>(List.mem_erase_of_ne (λe=>h.1 (by rw[<-e];exact d))).2 (c x (by simp[d]))
  rw[List.length_erase_of_mem b]at this;have:=List.length_pos_of_mem b;rw[Qn];omega
def preL(ws:List jE):List jE:=ws.flatMap λw=>(List.range (w.length+1)).map λn=>w.take n
theorem zgC{ws:List jE}{n:Nat}{d:List zaC}{c:List jE}(hl:Lev ws n d c)(e:∀w∈ws,w.length<=n)(h:d.length<=400):¬Full ws:=by
 rintro⟨l,h1,h2,g⟩
 have:=ziV l c h1 λv f=>by
  obtain⟨w,a,b⟩:=g v f;exact(hl.mem v).2 ⟨Ql b.length_le (e w a),w,a,b⟩
 rw[h2,<-hl.inv.len]at this;omega
theorem zvh{ws:List jE}(h:(preL ws).length<400):¬Full ws:=by
 rintro⟨d,h1,h2,e⟩
 have:=ziV d (preL ws) h1 λv c=>by
  obtain⟨w,b,a⟩:=e v c;exact List.mem_flatMap.2 ⟨w,b,QR.2 ⟨v.length,ZP.2 (by have:=a.length_le;omega),(List.prefix_iff_eq_take.1 a).symm⟩⟩
 omega
def zig(B h b a f:Nat)(ws:List ByteArray)(n:Nat)(w:World)(e:Ending)(w':World):Prop:=
 Below B w w'/\((e=jC (.bool false)/\Full (lstS ws))\/(e=jC (.bool true)/\∃g cap d c l ats,zs9 w' B h b a f ws (n+1) g cap d c l ats))
def Rel1(ws:List ByteArray)(n:Nat)(ats:List Nat)(w:World)(v i:Value)(wr:World):Prop:=
 ∃k,k<=ws.length/\i=jA (k:Int)/\w wr/\OwnG rowE wr w.heap.size v (gath (lstS ws) n ats k)
theorem zg0(ws:List jE)(n:Nat)(a:List Nat):∀k,(gath ws n a k).length<=k
 |0=>Qc _
 |k+1=>by
  have:=zg0 ws n a k;rw[gath]
  split
  ·rw[Qa,QC];omega
  ·omega
theorem zer{ws:List ByteArray}{k:Nat}(a:k<ws.length):(lstS ws).getD k []=ws[k].data.toList:=by
 rw[Qo,lstS,ZM,Qd a];rfl
theorem zt9{ws:List ByteArray}{n:Nat}{ats:List Nat}{k:Nat}(a:k<ws.length)(h:¬n<ws[k].size):gath (lstS ws) n ats (k+1)=gath (lstS ws) n ats k:=by
 rw[gath,Qe];rw[zer a];exact λh2=>h h2.1
theorem zt5{ws:List ByteArray}{n:Nat}{ats:List Nat}{k:Nat}(a:k<ws.length)(b:k<ats.length)(h:n<ws[k].size):zhq (lstS ws) n ats k=(ats[k],ws[k][n]):=by
 unfold zhq;rw[zer a,Qo,Qd b,Qo,Qd (by simpa using h)]
 rfl
theorem zuA{ws:List ByteArray}{n:Nat}{ats:List Nat}{k:Nat}(a:k<ws.length)(b:k<ats.length)(h:n<ws[k].size):gath (lstS ws) n ats (k+1)=if (ats[k],ws[k][n])∈gath (lstS ws) n ats k then gath (lstS ws) n ats k else gath (lstS ws) n ats k++[(ats[k],ws[k][n])]:=by
 rw[gath,zt5 a b h,zer a]
 by_cases c:(ats[k],ws[k][n])∈gath (lstS ws) n ats k
 ·rw[Qg c,Qe (λh2=>h2.2 c)]
 ·rw[Qe c,Qg ⟨by simpa using h,c⟩]
theorem zn7{w:World}{B:Nat}{A:Option Addr}{n:Nat}{ws:List ByteArray}(h:Sl w B 1 A n (ws.map Value.string)){k:Nat}(a:k<ws.length):∃b off,A=some ⟨b,off,none⟩/\b<B/\w.cell? ⟨b,off+k,none⟩=some (.string ws[k]):=by
 obtain⟨b,off,e,hb,c⟩:=h.src (by rw[Qh];omega);exact⟨b,off,e,hb,by rw[c k (by rw[Qh];exact a),Zm]⟩
def Rel2(B e h c f:Nat)(ws:List ByteArray)(n:Nat)(ats:List Nat)(w:World)(es:List (Nat × UInt8))(b:List jE)(v i:Value)(wr:World):Prop:=
 ∃k g cap a d l,k<=es.length/\i=jA (k:Int)/\Below B w wr/\EdgesAt wr w.heap.size v es/\Mk wr B e h c f g cap (a.map nilE) l ats/\Mid (lstS ws) n b es k a d/\NextOk a l/\a.length<=400
def Rel3(B e h b f:Nat)(ws:List ByteArray)(n:Nat)(w:World)(a:List Nat)(d:List zaC)(c:List jE)(l:List (zaJ × Nat))(g cap:Nat)(i:Value)(wr:World):Prop:=
 ∃k ats,k<=ws.length/\i=jA (k:Int)/\Below B w wr/\Mk wr B e h b f g cap (d.map nilE) l ats/\ats.length=ws.length/\(∀j,j<k->c[ats.getD j 0]? = some (((lstS ws).getD j []).take (n+1)))/\∀j,k<=j->ats.getD j 0=a.getD j 0
theorem zqr{ws:List ByteArray}{n:Nat}{ats:List Nat}{b:List zaC}{a:List jE}(g:Inv b a)(f:AtOk (lstS ws) n a ats)(h:b.length<=400):∀e∈gath (lstS ws) n ats ws.length,e.1<65536:=λe d=>by
 obtain⟨k,c,_,rfl⟩:=((zkR (lstS ws) n ats ws.length).2 e).1 d;have:=g.lt (f.str k (by rw[lstS,Qh];exact c));show ats.getD k 0<65536
 omega
theorem Rel2.step{B s S J N:Nat}{ws:List ByteArray}{n:Nat}{ats:List Nat}{w:World}{es:List (Nat × UInt8)}{t:List jE}{v:Value}{wr E:World}{k I o:Nat}{a:List zaC}{d:List jE}{l2:List (zaJ × Nat)}{up:Nat}{x:UInt8}{p:jE}
 (hk:k<es.length) (H:es[k]=(up,x)) (hb:Below B w wr) (L:Below B wr E) (hE:EdgesAt E w.heap.size v es) (hM:Mk E B s S J N I o (a.map nilE) (l2++[(((up:Int),x),a.length)]) ats) (g:Mid (lstS ws) n t es k a d) (hN:NextOk a l2) (h4:a.length<=400) (h5:a.length≠400)
 (y:d[up]? = some p) (O:strE t (up,x)=p++[x]) (A:p++[x] ∉ d) (V:∀v,v∈d->v.length<=p.length+1):
 ∀(r:Nat) (w3 l:World) (C c4:Nat),zw0 d p x r->E w3->OwnG rowN l B (.slice (some ⟨C,0,none⟩) (a.map nilE++[nilE ⟨x,up,r⟩]).length c4) (a.map nilE++[nilE ⟨x,up,r⟩])->Below B w3 l->(∀j,j<w3.heap.size->I≠j->l.heap[j]? = w3.heap[j]?)->
  Rel2 B s S J N ws n ats w es t v (jA ((k:Int)+1)) (l.setCell s (.slice (some ⟨C,0,none⟩) (a.length+1) c4)):=by
 intro r w3 l C c4 hr u Z X i;obtain⟨f,Y,W⟩:=hr;have h:=hM.below u;have m:(a.map nilE++[nilE ⟨x,up,r⟩]).length=a.length+1:=by simp
 obtain⟨g',h3,e,z⟩:=h.push Z (by rw[m];omega) i;injection e with G _ e2
 injection G with G
 injection G with G _ _
 subst G;subst e2
 rw[m]at z;obtain⟨c,K,q⟩:=Xx h.own I rfl;have D:=h.blk;have U:=h.base;have h6:=hM.lt;have Q:EdgesAt w3 w.heap.size v es:=hE.keep λj cs K b=>u.block j (zcU b)
 have P:EdgesAt l w.heap.size v es:=Q.keep λj cs K b=>i j (zcU b) λe=>by
  rw[<-e,q]at b;injection b with b
  injection b with _ b
  exact absurd b (by decide)
 have F:l.heap[s]? = some (zjm I o (a.map nilE).length S J ats.length N):=(i s (zcU D) (Xv h.ne.1)).trans D
 have T:EdgesAt (l.setCell s (.slice (some ⟨C,0,none⟩) (a.length+1) c4)) w.heap.size v es:=P.keep λj cs K b=>Qk l ⟨s,0,none⟩ _ j λe=>by
  rw[e]at b;rw[F]at b;injection b with b
  unfold zjm at b;injection b with _ b
  exact absurd b (by decide)
 have h0:0<a.length:=(Qw.1 g.inv.zero).1;refine⟨k+1,C,c4,a++[⟨x,up,r⟩],d++[p++[x]],_,hk,by simp,((hb.trans L).trans ((u.mono (by omega)).trans X)).setCell U.1 _,T,?_,?_,hN.add ⟨x,up,r⟩ h0 (zwW g.inv hN y A),by rw[Qa,QC];omega⟩
 ·rw[Q2];exact z
 ·have:=g.step hk (p:=p) (f:=f) (fl:=r) (by rw[H];exact y) (by rw[H];exact O) (by rw[H];exact A) V Y (by rw[H];exact W)
  rw[H]at this;exact this
theorem zqs{w:jE}{n:Nat}(h:¬n<w.length):w.take (n+1)=w.take n:=by
 rw[QF (by omega),QF (by omega)]
theorem Rel3.pass{B m p i o:Nat}{ws:List ByteArray}{n:Nat}{w:World}{a:List Nat}{f:List zaC}{b d:List jE}{l:List (zaJ × Nat)}{g cap k:Nat}{ats:List Nat}{es:List (Nat × UInt8)}{wr:World}
 (t:AtOk (lstS ws) n b a) (r:Mid (lstS ws) n b es es.length f d) (h:k<ws.length) (q:¬n<ws[k].size) (hb:Below B w wr) (hM:Mk wr B m p i o g cap (f.map nilE) l ats) (hl:ats.length=ws.length)
 (h1:∀j,j<k->d[ats.getD j 0]? = some (((lstS ws).getD j []).take (n+1))) (h2:∀j,k<=j->ats.getD j 0=a.getD j 0):Rel3 B m p i o ws n w a f d l g cap (jA ((k:Int)+1)) wr:=by
 refine⟨k+1,ats,h,by simp,hb,hM,hl,λj s=>?_,λj s=>h2 j (by omega)⟩
 rcases ZI j k with c|c
 ·exact h1 j c
 ·obtain rfl:j=k:=by omega
  have e:j<(lstS ws).length:=by rw[lstS,Qh];exact h
  rw[h2 j (Qc _),r.up (t.str j e),zqs];rw[zer h];exact q
theorem Rel3.go{B u x m v:Nat}{ws:List ByteArray}{n:Nat}{w:World}{a:List Nat}{c:List zaC}{f o:List jE}{l:List (zaJ × Nat)}{g cap k:Nat}{ats:List Nat}{es:List (Nat × UInt8)}{wr:World}
 (A:AtOk (lstS ws) n f a) (C:EdgesOf (lstS ws) n a es) (s:Mid (lstS ws) n f es es.length c o) (D:NextOk c l) (i:k<ws.length) (y:n<ws[k].size) (hb:Below B w wr) (hM:Mk wr B u x m v g cap (c.map nilE) l ats) (hl:ats.length=ws.length)
 (h1:∀j,j<k->o[ats.getD j 0]? = some (((lstS ws).getD j []).take (n+1))) (h2:∀j,k<=j->ats.getD j 0=a.getD j 0):
 ∃q,zbH l ((ats.getD k 0:Int),ws[k][n])=some q/\q<c.length/\Rel3 B u x m v ws n w a c o l g cap (jA ((k:Int)+1)) (wr.setCell ⟨m,k,none⟩ (jA (q:Int))):=by
 have p:k<(lstS ws).length:=by rw[lstS,Qh];exact i
 have d:n<((lstS ws).getD k []).length:=by rw[zer i];exact y
 obtain⟨q,b,r⟩:=s.go A C p d;have t:=zcn d
 have E:((lstS ws).getD k []).getD n 0=ws[k][n]:=by
  rw[zer i,Qo,Qd (by simpa using y)];rfl
 rw[E]at t;have h:=b;rw[t]at h;refine⟨q,?_,s.inv.lt b,k+1,ats.set k q,i,by simp,hb.setCell hM.base.2.2.1 _,hM.setAt k (by omega) q,by rw[Xm];exact hl,λj z=>?_,λj z=>?_⟩
 ·rw[h2 k (Qc _)]
  exact(D _ _ _).2 ((s.inv.kid r).1 h)
 ·by_cases e:j=k
  ·subst e
   rw[Qo,List.getElem?_set_self (by omega)];exact b
  ·rw[Qo,XF (Xv e),<-Qo]
   exact h1 j (by omega)
 ·rw[Qo,XF (by omega),<-Qo]
  exact h2 j (by omega)
theorem Rel3.done{B i p h o:Nat}{ws:List ByteArray}{n:Nat}{w:World}{a:List Nat}{d c:List zaC}{b e:List jE}{l:List (zaJ × Nat)}{g cap:Nat}{ats:List Nat}{es:List (Nat × UInt8)}{wr:World}
 (f:Lev (lstS ws) n d b) (t:AtOk (lstS ws) n b a) (s:EdgesOf (lstS ws) n a es) (r:Mid (lstS ws) n b es es.length c e) (u:NextOk c l) (q:c.length<=400) (hb:Below B w wr) (hM:Mk wr B i p h o g cap (c.map nilE) l ats) (hl:ats.length=ws.length)
 (h1:∀j,j<ws.length->e[ats.getD j 0]? = some (((lstS ws).getD j []).take (n+1))):zig B i p h o ws n w (jC (.bool true)) wr:=
 ⟨hb,.inr ⟨rfl,g,cap,c,e,l,ats,hM,r.done f t s,⟨by rw[lstS,Qh];exact hl,λk m=>h1 k (by rw[lstS,Qh]at m;exact m)⟩,u,q⟩⟩
def zwG:Prop:=∀(ws:List ByteArray) (n:Nat),n<40->ws.length<=30->0<ws.length->∀(A:Option Addr) (c B a d b e g cap:Nat) (h:List zaC) (f:List jE) (l:List (zaJ × Nat)) (ats:List Nat) (w:World),
 Sl w B 1 A ws.length (ws.map Value.string)->zs9 w B a d b e ws n g cap h f l ats->
 Calls prog 143 #[.pointer a,.slice A ws.length c,jA (n:Int)] w (zig B a d b e ws n w)
section
open Go.Sort Go.Lib
def EndsAt(w:World)(a:Nat)(s:SlT)(l:List Nat):Prop:=
 s.2.1=l.length/\(0<l.length->∃g:Nat,s.1=some ⟨g,0,none⟩/\a<=g/\g<w.heap.size/\∀j (h:j<l.length),w.cell? ⟨g,j,none⟩=some (jA (l[j]:Int)))
theorem EndsAt.keep{w w':World}{a:Nat}{s:SlT}{l:List Nat}(h:EndsAt w a s l)(i:w.heap.size<=w'.heap.size)(b:∀g,a<=g->g<w.heap.size->w'.heap[g]? = w.heap[g]?):EndsAt w' a s l:=by
 refine⟨h.1,λd=>?_⟩;obtain⟨g,e,h1,h2,f⟩:=h.2 d;refine⟨g,e,h1,by omega,λj c=>?_⟩;have:=b g h1 h2;rw[show w'.cell? ⟨g,j,none⟩=w.cell? ⟨g,j,none⟩by simp only[World.cell?, this]];exact f j c
theorem EndsAt.sl{w:World}{f:Nat}{s:SlT}{l:List Nat}(h:EndsAt w f s l):Sl w w.heap.size 1 s.1 s.2.1 (l.flatMap rowI.cells):=by
 have hl:=za0 rowI.cells 1 (λ_=>rfl) l;refine⟨by rw[hl,h.1],λi=>?_⟩;obtain⟨g,e,h1,h2,d⟩:=h.2 (by omega);refine⟨g,0,e,h2,λj c=>?_⟩;have a:j<l.length:=by omega
 have b:=zcw rowI.cells 1 (λ_=>rfl) l j 0 a (by decide);rw[show j*1+0=j by omega,Qd c]at b;rw[Zh,d j a];exact b.symm
def zfj(l:List Nat):List Nat:=((l.map λ(x:Nat)=>(x:Int)).mergeSort λx y=>decide (x<=y)).map Int.toNat
theorem zjK(l:List Nat):((l.map λ(x:Nat)=>(x:Int)).mergeSort λx y=>decide (x<=y))=(zfj l).map λ(x:Nat)=>(x:Int):=by
 unfold zfj;rw[Xr];refine(List.map_id _).symm.trans (List.map_congr_left λx b=>?_);have a:=(List.mergeSort_perm _ _).mem_iff.1 b;obtain⟨y,_,rfl⟩:=QR.1 a;simp
theorem zgh(l:List Nat):(zfj l).Perm l:=by
 have:=(List.mergeSort_perm (l.map λ(x:Nat)=>(x:Int)) λx y=>decide (x<=y)).map Int.toNat;refine this.trans ?_;rw[Xr];have:(l.map (Int.toNat ∘ λ(x:Nat)=>(x:Int)))=l:=(List.map_congr_left λx _=>by simp).trans (List.map_id l);rw[this]
theorem zlS{l:List Nat}(h:l.Nodup):(zfj l).Pairwise (·<·):=by
 have h1:((zfj l).map λ(x:Nat)=>(x:Int)).Pairwise λx y=>decide (x<=y)=true:=by
  rw[<-zjK];exact List.pairwise_mergeSort (λa b c h1 h2=>by simp at h1 h2 ⊢;omega) (λa b=>by simp;omega) _
 rw[List.pairwise_map]at h1;have h2:(zfj l).Nodup:=(zgh l).nodup_iff.2 h;have d:=List.Pairwise.and h1 (List.nodup_iff_pairwise_ne.1 h2);exact d.imp λ⟨a,b⟩=>by simp at a;omega
theorem znu(w:World)(g n:Nat)(d:Array Int)(os:Array Obj)(_:g<w.heap.size):w.grownBy (grow (putRow (Value.int .i64) (Sort.ahead w n) g 0 d) os) (some g) where
 os:=rfl
 tape:=rfl
 output:=rfl
 size:=by show w.heap.size<=((w.heap.modify g _)++os).size;rw[Array.size_append,Array.size_modify];omega
 block i hi hne:=by
  show ((w.heap.modify g _)++os)[i]? = _
  rw[Array.getElem?_append_left (by rw[Array.size_modify];exact hi),Q4,Qe (λe=>hne (by rw[e]))]
theorem ztL{w:World}{o:Nat}{s:SlT}{l:List Nat}(h:OwnG rowI w o (slV s) l)(hl:l.length<=4096):
 Calls prog 145 #[slV s] w λe w'=>e=jC (.tuple #[])/\EndsAt w' o s (zfj l)/\∃g,w.grownBy w' (some g)/\(o<=g\/w'=w):=by
 have a:(zfj l).length=l.length:=(zgh l).length_eq
 rcases h.cases with ⟨h1,rfl⟩|⟨g,c,h1,hb,m⟩
 ·rw[h1]
  refine(slices_Sort_int_none none 0 w).mono ?_;rintro e w' ⟨rfl,rfl⟩;obtain⟨z,v,t⟩:=s;injection h1 with i d p
  dsimp only at i d p;subst i;subst d
  exact⟨rfl,⟨by rw[a];rfl,λh=>absurd h (by rw[a];simp)⟩,o,⟨rfl,rfl,rfl,Qc _,λ_ _ _=>rfl⟩,.inr rfl⟩
 ·obtain⟨z,v,t⟩:=s
  injection h1 with i d p
  dsimp only at i d p;subst i;subst d;subst p
  have r:Holds (Value.int .i64) w g 0 (l.map λ(x:Nat)=>(x:Int)).toArray:=λj k=>by
   have q:j<l.length:=by simpa using k
   have:=h.at j q 0 (by decide);rw[show j*rowI.size+0=j by simp[rowI]]at this;rw[Zh,getElem!_pos (l.map λ(x:Nat)=>(x:Int)).toArray j k];refine⟨this.1.trans ?_,this.2⟩;simp[rowI]
  have u:=slices_Sort_int g 0 t (l.map λ(x:Nat)=>(x:Int)) w r m (by rw[Qh];omega);rw[Qh]at u;unfold slV;refine u.mono ?_;rintro e w' ⟨rfl,n,os,rfl⟩;rw[zjK];have f:=znu w g n ((zfj l).map λ(x:Nat)=>(x:Int)).toArray os m;refine⟨rfl,⟨a.symm,λ_=>⟨g,rfl,hb,Qv m f.size,λj k=>?_⟩⟩,g,f,.inl hb⟩;have y:=holds_putRow (Value.int .i64) (Sort.ahead w n) g 0 (l.map λ(x:Nat)=>(x:Int)).toArray ((zfj l).map λ(x:Nat)=>(x:Int)).toArray (holds_ahead _ _ _ _ _ _ r) (by simp[a]);have b:=(holds_grow (Value.int .i64) _ os g 0 _ (by simpa using m) y j (by simpa using k)).1;rw[Zh]at b;rw[b,getElem!_pos ((zfj l).map λ(x:Nat)=>(x:Int)).toArray j (by simpa using k)];simp
end
theorem zrZ{a w w':World}{row:Option Nat}(h:a.grownBy w row)(hb:Below a.heap.size w w'):a.grownBy w' row:=
 ⟨hb.os.trans h.os,hb.tape.trans h.tape,hb.output.trans h.output,Ql h.size hb.size,λi c b=>(hb.block i c).trans (h.block i c b)⟩
def accN(ws:List jE)(e:List Nat)(ats:List Nat)(i k:Nat):List Nat:=e++(List.range k).filter λj=>decide (ats.getD j 0=i/\0<i/\j<ws.length)
theorem zrj(ws:List jE)(e:List Nat)(ats:List Nat)(i k:Nat)(a:k<ws.length):accN ws e ats i (k+1)=if ats.getD k 0=i/\0<i then accN ws e ats i k++[k]else accN ws e ats i k:=by
 unfold accN;rw[List.range_succ,ZW,<-QG]
 by_cases h:ats.getD k 0=i/\0<i
 ·rw[Qg h,List.filter_cons,Qg (by simp only[QY];exact⟨h.1,h.2,a⟩)];rfl
 ·rw[Qe h,List.filter_cons,Qe (by simp only[QY];exact λh2=>h ⟨h2.1,h2.2.1⟩),List.filter_nil,QE]
theorem zmF{ws:List jE}(h:∀w∈ws,w≠[]):zaR ws []=[]:=by
 unfold zaR;rw[List.filter_eq_nil_iff];intro k a;rw[ZP]at a;simp only[QY,List.suffix_nil];have:ws.getD k []∈ws:=by rw[Qo,Qd a];exact Qz a
 exact h _ this
theorem zsM{ws c:List jE}{r:List zaC}{ats:List Nat}{n i:Nat}{x:zaC}(hl:Lev ws n r c)(u:∀w∈ws,w.length<=n)(B:AtOk ws n c ats)(t:0<i)(y:r[i]? = some x):
 zfj (accN ws (zaR ws (c.getD x.fail [])) ats i ws.length)=zaR ws (c.getD i []):=by
 obtain⟨s,o⟩:∃s,c[i]? = some s:=⟨_,Qd (by rw[<-hl.inv.len];exact(Qw.1 y).1)⟩
 obtain⟨C,f,q,g⟩:=hl.inv.fail_at t y o;have A:c.getD i []=s:=by rw[Qo,o];rfl
 have z:c.getD x.fail []=f:=by rw[Qo,q];rfl
 rw[A,z]
 have p:∀k,k<ws.length->(ws.getD k []).take n=ws.getD k []:=λk j=>by
  have:ws.getD k []∈ws:=by rw[Qo,Qd j];exact Qz j
  exact QF (u _ this)
 have d:∀k,k<ws.length->(ats.getD k 0=i↔ws.getD k []=s):=λk j=>by
  have:=B.str k j;rw[p k j]at this
  constructor
  ·intro e;rw[e,o]at this;exact(QD this).symm
  ·intro e;rw[e]at this;exact hl.inv.inj this o
 have m:∀k,k∈accN ws (zaR ws f) ats i ws.length↔k∈zaR ws f\/(k<ws.length/\ws.getD k []=s):=λk=>by
  unfold accN;rw[QO,ZE,ZP,QY];refine or_congr_right ⟨λ⟨h1,h2,_,_⟩=>⟨h1,(d k h1).1 h2⟩,λ⟨h1,h2⟩=>⟨h1,(d k h1).2 h2,t,h1⟩⟩
 have l:(accN ws (zaR ws f) ats i ws.length).Nodup:=by
  unfold accN;rw[List.nodup_append];refine⟨(zcD ws f).imp λh=>Nat.ne_of_lt h,List.nodup_range.sublist List.filter_sublist,λa h1 b h2 e=>?_⟩;subst e;rw[ZE,ZP,QY]at h2;have v:=(zcI.1 h1).2;rw[(d a h2.1).1 h2.2.1]at v;exact g.2.2.1 (zi4 g.2.1 v.length_le)
 refine zgf (zlS l) (zcD ws s) λk=>?_
 rw[(zgh _).mem_iff,m,zkv (Lev.words hl u) g]
structure NodesAt(ws ss:List jE)(ns:List zaC)(B lo g cap:Nat)(i:Nat)(ms:List zcG)(w:World):Prop where
 own:OwnG rowN w B (.slice g ms.length cap) ms
 fst:ms.map Prod.fst=ns
 done:∀j m,j<i->ms[j]? = some m->EndsAt w lo m.2 (zaR ws (ss.getD j []))
 rest:∀j m,i<=j->ms[j]? = some m->m.2=(none,0,0)
theorem EndsAt.lower{w:World}{b a:Nat}{s:SlT}{l:List Nat}(h:EndsAt w b s l)(hl:a<=b):EndsAt w a s l:=by
 refine⟨h.1,λc=>?_⟩;obtain⟨g,e,h1,h2⟩:=h.2 c;exact⟨g,e,by omega,h2⟩
structure NodeNow(ms:List zcG)(B g cap i:Nat)(w0:World)(acc:List Nat)(s:SlT)(w:World):Prop where
 row:OwnG rowI w w0.heap.size (slV s) acc
 own:OwnG rowN w B (.slice g ms.length cap) (ms.set i ((ms.getD i (⟨0,0,0⟩,none,0,0)).1,s))
 only:w0.grownBy w (some g)
theorem NodesAt.next{ws v:List jE}{x:List zaC}{B r g cap i:Nat}{d:List zcG}{l w w':World}{s:SlT}{e:List Nat}(h:NodesAt ws v x B r g cap i d l)(q:i<d.length)(z:r<=l.heap.size)(G:g<r)
 (D:OwnG rowN w B (.slice g d.length cap) (d.set i ((d.getD i (⟨0,0,0⟩,none,0,0)).1,s))) (f:l.grownBy w (some g)) (F:EndsAt w' l.heap.size s e) (E:e=zaR ws (v.getD i [])) {A:Nat} (b:w.grownBy w' (some A)) (y:l.heap.size<=A\/w'=w):
 NodesAt ws v x B r g cap (i+1) (d.set i ((d.getD i (⟨0,0,0⟩,none,0,0)).1,s)) w'/\l.grownBy w' (some g):=by
 have a:∀j,j<l.heap.size->w'.heap[j]? = w.heap[j]? := λj o=>by
  rcases y with c|rfl
  ·exact b.block j (Qv o f.size) (λe=>by injection e with e;omega)
  ·rfl
 have C:w.heap.size<=w'.heap.size:=b.size;have t:d.getD i (⟨0,0,0⟩,none,0,0)=d[i]:=by rw[Qo,Qd q];rfl
 refine⟨⟨?_,?_,λj m o n=>?_,λj m o n=>?_⟩,⟨b.os.trans f.os,b.tape.trans f.tape,b.output.trans f.output,Ql f.size C,λj o u=>(a j o).trans (f.block j o u)⟩⟩
 ·rw[Xm]
  exact D.keep λj e=>a j (by have e:g=j:=QD e;omega)
 ·rw[List.map_set,h.fst,t]
  have:x[i]? = some d[i].1:=by rw[<-h.fst,ZM,Qd q];rfl
  refine List.ext_getElem? λj=>?_
  by_cases c:i=j
  ·subst c
   rw[List.getElem?_set_self (by rw[<-h.fst,Qh];exact q),this]
  ·rw[XF c]
 ·by_cases c:i=j
  ·subst c
   rw[List.getElem?_set_self q]at n;rw[<-QD n,<-E];exact F.lower z
  ·rw[XF c]at n
   have h1:=h.done j m (by omega) n;exact h1.keep (Ql f.size C) λk H p=>(a k p).trans (f.block k p λe=>by injection e with e;omega)
 ·rw[XF (by omega)]at n
  exact h.rest j m (by omega) n
theorem NodeNow.add{c:List zcG}{B g cap i:Nat}{l w f:World}{a:List Nat}{s:SlT}(h:NodeNow c B g cap i l a s w)(q:i<c.length)(r:g<l.heap.size){k d c4:Nat}(m:OwnG rowI f l.heap.size (.slice d (a++[k]).length c4) (a++[k]))(hb:Below l.heap.size w f):
 NodeNow c B g cap i l (a++[k]) (some ⟨d,0,none⟩,a.length+1,c4) (f.setCell ⟨g,i*4+3,none⟩ (.slice d (a.length+1) c4)):=by
 have hl:(a++[k]).length=a.length+1:=by simp
 rw[hl]at m;have p:=(m.lt d rfl).1;have h1:OwnG rowN f B (.slice g c.length cap) (c.set i ((c.getD i (⟨0,0,0⟩,none,0,0)).1,s)):=h.own.keep λj e=>hb.block j (by have e:g=j:=QD e;omega)
 have b:(c.set i ((c.getD i (⟨0,0,0⟩,none,0,0)).1,s)).length=c.length:=Xm ..;rw[<-b]at h1;have h2:=h1.stored i (by rw[b];exact q) 3 (by decide) (.slice d (a.length+1) c4) ((c.getD i (⟨0,0,0⟩,none,0,0)).1,some ⟨d,0,none⟩,a.length+1,c4) (by rw[List.getElem_set_self];rfl);refine⟨?_,?_,?_⟩
 ·exact m.keep λj e=>Qk f ⟨g,i*4+3,none⟩ _ j λn=>by injection e with e;rw[<-e]at n;have:d=g:=n;omega
 ·have o:=h2.1
  rw[List.set_set,b]at o;exact o
 ·exact zak (zrZ h.only hb) _ _
theorem NodeNow.start{ws m:List jE}{n:List zaC}{B q g cap i:Nat}{a:List zcG}{b c:World}{s:SlT}{d:List Nat}(h:NodesAt ws m n B q g cap i a b)(l:i<a.length)(r:g<b.heap.size)(k:OwnG rowI c b.heap.size (slV s) d)(hb:b c):
 NodeNow a B g cap i b d s (c.setCell ⟨g,i*4+3,none⟩ (slV s)):=by
 have h1:OwnG rowN c B (.slice g a.length cap) a:=h.own.keep λj e=>hb.block j (by have e:g=j:=QD e;omega)
 have f:a.getD i (⟨0,0,0⟩,none,0,0)=a[i]:=by rw[Qo,Qd l];rfl
 have h2:=h1.stored i l 3 (by decide) (slV s) ((a.getD i (⟨0,0,0⟩,none,0,0)).1,s) (by rw[f];rfl);refine⟨?_,h2.1,zak ⟨hb.os,hb.tape,hb.output,hb.size,λj p _=>hb.block j p⟩ _ _⟩
 exact k.keep λj e=>Qk c ⟨g,i*4+3,none⟩ _ j λo=>by
  have:=(k.lt j e).1;have t:j=g:=o;omega
theorem srcS{wr:World}{B n:Nat}{A:Option Addr}{xs:List Value}{d:Nat->Value}(h:Sl wr B 1 A n xs){j:Nat}(l:j<n)(k:∀j,j<n->xs[j]? = some (d j)):
 ∃b off,A=some ⟨b,off,none⟩/\wr.cell? ⟨b,off+j,none⟩=some (d j):=by
 have hl:=h.len;obtain⟨b,off,e,_,m⟩:=h.src (by omega);have g:=k j l
 have a:∀i v,xs[i]? = some v->wr.cell? ⟨b,off+i,none⟩=some v:=λi v f=>by
  have c:i<xs.length:=(Qw.1 f).1;rw[m i c,<-f,Qd c]
 exact⟨b,off,e,a _ _ g⟩
theorem zsO(g:Nat)(s:Array Value)(B:∀args w,(callFunc g args).run prog w=.ok (.enter g args) w)(A:Option Addr)(n c:Nat)(xs:List Value)(v:Nat->Value)(p:Nat->Bool)(w:World)
 (h:Sl w w.heap.size 1 A n xs) (r:n<=9223372036854775807) (u:∀j,j<n->xs[j]? = some (v j))
 (q:∀W j,j<n->w W->Calls prog g (#[v j]++s) W (zav (p j) W)):
 Calls prog 97 #[.slice A n c,.func (.func g) #[] s] w λe w'=>e=jC (jA (hitI p n))/\w w':=by
 have y:=hIx q;have z:=hIx u;clear q u
 go_in
 go_wp2
 go_loopw [5,8] (λ_ i wr=>∃j:Nat,j<=n/\i=jA j/\w wr/\Hid (∀i,i<j->p i=false)) (λ_ i _=>n-(intOf i).toNat)
 case atStart=>exact⟨0,Qm _,rfl,Qj _ _,λi t=>absurd t (by omega)⟩
 case round=>
  obtain⟨j,C,rfl,hb,a⟩:=hrel
  by_cases d:j<n
  ·obtain⟨b,off,rfl,x⟩:=srcS (h.below hb) d z.out
   have o:=y.out wr j d hb;cases l:p j with
   |true=>
    rw[l]at o;have f:=hIx (zme p n j d l a);clear l;go_wp2_with (go_at_fn g;refine o.mono ?_;rintro e w' ⟨rfl,k⟩);go_ret;exact⟨zac f.out.symm,hb.trans (k.mono hb.size)⟩
   |false=>
    rw[l]at o
    have m:Hid (∀i,i<j+1->p i=false):=λi t=>by
     by_cases e:i=j
     ·rw[e];exact l
     ·exact a i (by omega)
    clear l a;go_wp2_with (go_at_fn g;refine o.mono ?_;rintro e w' ⟨rfl,k⟩)
    go_roundw
    case rel=>exact⟨j+1,by omega,by go_num,hb.trans (k.mono hb.size),m⟩
    case measure=>simp[intOf] <;> omega
  ·obtain rfl:j=n:=by omega
   have f:=hIx (zew p j a);go_wp2;go_ret;exact⟨zac f.out.symm,hb⟩
theorem zj5(g:Nat)(b:Array Value)(k:∀args w,(callFunc g args).run prog w=.ok (.enter g args) w)(A:Option Addr)(n c:Nat)(xs:List Value)(d:Nat->Value)(p:Nat->Bool)(w:World)
 (h:Sl w w.heap.size 1 A n xs) (a:n<=9223372036854775807) (i:∀j,j<n->xs[j]? = some (d j))
 (f:∀W j,j<n->w W->Calls prog g (#[d j]++b) W (zav (p j) W)):
 Calls prog 66 #[.slice A n c,.func (.func g) #[] b] w (zav (anyN p n) w):=by
 have m:=hIx (zsO g b k A n c xs d p w h a i f);have l:=hIx (zhK p n);clear f i h
 go_in
 go_wp2_with fail;refine m.out.mono ?_;rintro e o ⟨rfl,hb⟩;go_wp2;go_ret;exact⟨zaK l.out,hb⟩
