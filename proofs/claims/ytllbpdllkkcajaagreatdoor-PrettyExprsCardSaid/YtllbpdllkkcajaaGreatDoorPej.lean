/- hindcastlaw07: texts joined: LexY, LexZN, TreV, TreW, TreX, TreY, RefD, RefE, RefF, RefG, RefH, RefI, RefJ, RefN, RefO, NumM, PreB, PreC, PreD, PreE, PreF, PreG, PreJ, PreL, RefP, RefQ, RefR, TreZA, RefL, RefS, Card, Laid. -/
import Derived.Test.YtllbpdllkkcajaaGreatDoorPei
namespace Go.Proofs.YtllbpdllkkcajaaGreatDoor
open Go.RowKit
section
attribute [local go_sem] aY aX aA ak ax aF aT aJ au says_again
def aa9 (h:Hp) (s:List UInt8):Nat->Ctx->Prop
 | 0,C=>∃ x0 i y t l0 sl acc hh,C=⟨[x0,(i:Nat)],[y],[s,t],[],[l0,sl],[],hh,cu⟩/\BI h sl acc hh/\1<=i/\i<=s.length/\acc.length<=i/\∃ m,s.length<m+i/\rdA s.length s 1 []=rdA m s i acc
 | _+1,C=>∃ x0 i x2 k y y' t t' l0 sl acc hh,C=⟨[x0,(i:Nat),x2,(k:Nat)],[y,y'],[s,t,t'],[],[l0,sl],[],hh,cu⟩/\BI h sl acc hh/\1<=i/\i+1<s.length/\acc.length<=i/\(∃ m,s.length<m+i/\rdA s.length s 1 []=rdA m s i acc)/\
  1<=k/\k<=3/\(2<=k->i+2<s.length/\0<=hx (bt s (i+2)))/\(3<=k->i+3<s.length/\0<=hx (bt s (i+3)))
def tY (s:List UInt8):Nat->Ctx->Nat
 | 0,C=>((s.length:Int) - C.i.getD 1 0).toNat
 | _+1,C=>(3 - C.i.getD 3 0).toNat
theorem qx {s acc:List UInt8} {i:Nat} (h:∃ m,s.length<m+i/\rdA s.length s 1 []=rdA m s i acc) (hi:i<=s.length) {r:Option (List UInt8×Nat)} (hs:∀ m,rdA (m+1) s i acc=r):rdA s.length s 1 []=r:=by
 obtain⟨m,hm,he⟩:=h;obtain⟨m',rfl⟩:∃ m',m=m'+1:=⟨m - 1,by omega⟩;rw[he,hs]
theorem qw {s acc acc':List UInt8} {i i':Nat} (h:∃ m,s.length<m+i/\rdA s.length s 1 []=rdA m s i acc) (hi:i<=s.length) (hlt:i<i') (hs:∀ m,rdA (m+1) s i acc=rdA m s i' acc'):∃ m,s.length<m+i'/\rdA s.length s 1 []=rdA m s i' acc':=by
 obtain⟨m,hm,he⟩:=h;obtain⟨m',rfl⟩:∃ m',m=m'+1:=⟨m - 1,by omega⟩;exact⟨m',by omega,by rw[he,hs]⟩
set_option maxRecDepth 100000 in
set_option maxHeartbeats 8000000 in
def MV:Ct Tryz.prog where
 f:=150
 spec:=fun args h φ=>∃ s,args=[.string (B s)]/\s.length<=100000/\
  (match Ag s with
   | some (t,e)=>φ (.tuple #[.string (B t),.int .i64 (e:Nat),.bool true]) h
   | none=>∀ t n,φ (.tuple #[.string (B t),.int .i64 n,.bool false]) h)
 ok:=by
  rintro args h φ w ⟨s,rfl,hlen,hφ⟩ hH;refine bQ (aZ Tryz.func150 Qu VS [oW] (fun v k=>∃ k',bY k' k/\φ v k') (aa9 h s) (tY s) ⟨[],[],[s],[],[],[],h,cu⟩ ⟨rfl,rfl,rfl,rfl,rfl,rfl⟩ af ?_ w hH rfl);generalize hE:(⟨aG _,_,_,_⟩:Env)=E;have s1:E.spec 162=oW.spec:=by rw[<- hE];rfl
  have ep:E.post=fun v k=>∃ k',bY k' k/\φ v k':=by rw[<- hE]
  have ei:E.inv=aa9 h s:=by rw[<- hE]
  have em:E.meas=tY s:=by rw[<- hE]
  clear hE;unfold Ag at hφ;have no:∀ {hh},bY h hh->rdA s.length s 1 []=none->∀ t n,∃ k',bY k' hh/\φ (.tuple #[.string (B t),.int .i64 n,.bool false]) k':=fun hle hr t n=>by
   refine⟨h,hle,?_⟩;rw[hr] at hφ;split at hφ
   . rename_i heq;split at heq<;>cases heq
   . exact hφ t n
  rw[<- ae];unfold GL;by_cases hs0:s=[]
  . subst hs0;rw[if_pos (.inl rfl)] at hφ
    iterate 3 (try simp only[ae];try simp[go_sem,ep])
    exact⟨h,fun _ _ h=>h,hφ _ _⟩
  have hpos:0<s.length:=List.length_pos_iff.2 hs0;have hposz:(0:Int)<s.length:=by omega
  have hnz:¬ (s.length:Int)=0:=by omega
  by_cases h34:bt s 0=34
  . rw[if_neg (by omega)] at hφ
    iterate 3 (try simp only[ae];try simp[go_sem,hs0,h34])
    refine⟨hpos,?_⟩;rw[aW];intro b0 hb0;refine bH ?_ ?_
    . rw[ei];exact⟨0,1,false,[],⟨some (b0,0),0,0⟩,⟨some (b0,0),0,0⟩,[],h.set b0 ⟨[],5⟩,rfl,⟨.inr ⟨b0,⟨[],5⟩,rfl,ay _ _ _,rfl,rfl,Nat.le_refl _,Nat.zero_le _,rfl⟩,rfl,by simp,fun z hz=>by cases hz;exact hb0,dU hb0 _⟩,Nat.le_refl _,hpos,Nat.zero_le _,s.length,by omega,rfl⟩
    . rw[ei,em];rintro i' bb ss v ll pp hh0 M ⟨x0,i,y,t,l0,sl,acc,hh,hC,X,lo,le,cnt,all⟩ hM;cases hC;have hM':M 0=((s.length:Int) - i).toNat:=hM;clear hM hb0;have hibd:=vC s i;rw[<- ae];by_cases hil:i=s.length
      . have hz:¬ (i:Int)<s.length:=by omega
        iterate 2 (try simp only[ae];try simp[go_sem,ep,hz])
        exact no X.kept (qx all le fun m=>by rw[rdA,if_pos (.inl (by omega))]) _ _
      have hlt:i<s.length:=by omega
      have hz:(i:Int)<s.length:=by omega
      by_cases hpr:bt s i<32\/126<bt s i
      . iterate 4 (try simp only[ae];try simp[go_sem,ep,hz,hpr])
        exact no X.kept (qx all le fun m=>by rw[rdA,if_pos (.inr hpr)]) _ _
      have p1:¬ bt s i<32:=by omega
      have p2:¬ 126<bt s i:=by omega
      by_cases q34:bt s i=34
      . iterate 4 (try simp only[ae];try simp[go_sem,hz,q34])
        have hr:rdA s.length s 1 []=some (acc,i+1):=qx all le fun m=>by rw[rdA,if_neg (by omega),if_pos q34]
        rw[hr] at hφ;rw[ae,eQ];refine⟨acc,X.bytes,?_⟩
        iterate 2 (try simp only[ae];try simp[go_sem,ep])
        exact⟨by omega,by omega,h,X.kept,by simpa using hφ⟩
      by_cases q92:bt s i=92
      . have e1:((i:Int)+1).toNat=i+1:=by omega
        have hibd1:=vC s (i+1);by_cases hi1:i+1=s.length
        . have hz1:(s.length:Int)<=(i:Int)+1:=by omega
          iterate 10 (try simp only[ae];try simp[go_sem,ep,hz,q92,hz1])
          exact⟨by omega,by omega,no X.kept (qx all le fun m=>by rw[rdA,if_neg (by omega),if_neg q34,if_neg (fun h=>h q92),if_pos (by omega)]) _ _⟩
        have hz3:(i:Int)+1<s.length:=by omega
        have hz4:¬ (s.length:Int)<=(i:Int)+1:=by omega
        by_cases c34:bt s (i+1)=34
        . iterate 16 (try simp only[ae];try simp[go_sem,hz,hz3,hz4,q92,e1,c34])
          refine⟨by omega,by omega,by omega,?_⟩;rw[aW];intro b hb;refine ry X (by omega) hb (c:=34) (by omega) (by omega) rfl rfl (by simp[go_sem,e1,c34]) (fun s' k' X'=>?_);rw[<- ae]
          iterate 2 (try simp only[ae];try simp[go_sem,ei,em])
          refine⟨by omega,by omega,⟨x0,i+2,y,t,l0,s',_,k',by rw[show ((i+2:Nat):Int)=(i:Int)+1+1 by omega],X',by omega,by omega,by simp;omega,qw all le (i':=i+2) (by omega) (fun m=>by rw[rdA,if_neg (by omega),if_neg q34,if_neg (fun h=>h q92),if_neg (by omega),if_pos (.inl c34),c34])⟩,?_⟩;simp only[tY,List.getD_cons_succ,List.getD_cons_zero];omega
        by_cases c92:bt s (i+1)=92
        . iterate 16 (try simp only[ae];try simp[go_sem,hz,hz3,hz4,q92,e1,c92])
          refine⟨by omega,by omega,by omega,?_⟩;rw[aW];intro b hb;refine ry X (by omega) hb (c:=92) (by omega) (by omega) rfl rfl (by simp[go_sem,e1,c92]) (fun s' k' X'=>?_);rw[<- ae]
          iterate 2 (try simp only[ae];try simp[go_sem,ei,em])
          refine⟨by omega,by omega,⟨x0,i+2,y,t,l0,s',_,k',by rw[show ((i+2:Nat):Int)=(i:Int)+1+1 by omega],X',by omega,by omega,by simp;omega,qw all le (i':=i+2) (by omega) (fun m=>by rw[rdA,if_neg (by omega),if_neg q34,if_neg (fun h=>h q92),if_neg (by omega),if_pos (.inr c92),c92])⟩,?_⟩;simp only[tY,List.getD_cons_succ,List.getD_cons_zero];omega
        by_cases c110:bt s (i+1)=110
        . iterate 16 (try simp only[ae];try simp[go_sem,hz,hz3,hz4,q92,e1,c110])
          refine⟨by omega,by omega,by omega,?_⟩;rw[aW];intro b hb;refine ry X (by omega) hb (c:=10) (by omega) (by omega) rfl rfl rfl (fun s' k' X'=>?_);rw[<- ae]
          iterate 2 (try simp only[ae];try simp[go_sem,ei,em])
          refine⟨by omega,by omega,⟨x0,i+2,y,t,l0,s',_,k',by rw[show ((i+2:Nat):Int)=(i:Int)+1+1 by omega],X',by omega,by omega,by simp;omega,qw all le (i':=i+2) (by omega) (fun m=>by rw[rdA,if_neg (by omega),if_neg q34,if_neg (fun h=>h q92),if_neg (by omega),if_neg (by omega),if_pos c110];rfl)⟩,?_⟩;simp only[tY,List.getD_cons_succ,List.getD_cons_zero];omega
        by_cases c116:bt s (i+1)=116
        . iterate 16 (try simp only[ae];try simp[go_sem,hz,hz3,hz4,q92,e1,c116])
          refine⟨by omega,by omega,by omega,?_⟩;rw[aW];intro b hb;refine ry X (by omega) hb (c:=9) (by omega) (by omega) rfl rfl rfl (fun s' k' X'=>?_);rw[<- ae]
          iterate 2 (try simp only[ae];try simp[go_sem,ei,em])
          refine⟨by omega,by omega,⟨x0,i+2,y,t,l0,s',_,k',by rw[show ((i+2:Nat):Int)=(i:Int)+1+1 by omega],X',by omega,by omega,by simp;omega,qw all le (i':=i+2) (by omega) (fun m=>by rw[rdA,if_neg (by omega),if_neg q34,if_neg (fun h=>h q92),if_neg (by omega),if_neg (by omega),if_neg c110,if_pos c116];rfl)⟩,?_⟩;simp only[tY,List.getD_cons_succ,List.getD_cons_zero];omega
        by_cases c120:bt s (i+1)=120
        . iterate 16 (try simp only[ae];try simp[go_sem,hz,hz3,hz4,q92,e1,c120])
          refine⟨by omega,by omega,by omega,?_⟩;refine xm ?_ ?_
          . rw[ei];exact⟨x0,i,x0,1,y,y,t,t,l0,sl,acc,hh0,by simp[go_sem,Ctx.bare,kZ.den],X,lo,by omega,cnt,all,Nat.le_refl _,by omega,by omega,by omega⟩
          . rintro⟨xi,xb,xs,xv,xl,xp⟩ h' M' hc hinv hm hM1;rw[ei] at hinv;rw[em] at hm;obtain⟨x0',i2,x2,k,y1,y2,t1,t2,l1,sl2,acc2,hh2,hC,X2,lo2,a1,cnt2,all2,k1,k3,a4,a5⟩:=hinv;simp[Ctx.push,Ctx.heap,Ctx.bare] at hC;obtain⟨⟨rfl,hii,rfl⟩,⟨rfl,rfl⟩,⟨rfl,rfl⟩,rfl,⟨rfl,rfl,rfl⟩,rfl,rfl⟩:=hC;obtain rfl:i2=i:=by omega
            have hm':M' 1=((3:Int) - k).toNat:=hm;have hM0:M' 0=M 0:=hM1 0 (by decide);clear hm hM1 hc;have hno:¬ (i2+3<s.length/\0<=hx (bt s (i2+2))/\0<=hx (bt s (i2+3)))->rdA s.length s 1 []=none:=fun hn=>qx all2 le fun m=>by
             rw[rdA,if_neg (by omega),if_neg q34,if_neg (fun h=>h q92),if_neg (by omega),if_neg (by omega),if_neg (by omega),if_neg (by omega),if_pos c120,if_neg hn]
            have hx15:=H6 (bt s (i2+2));have hx16:=H6 (bt s (i2+3));rw[<- ae];by_cases hk:k<=2
            . have hkz:(k:Int)<=2:=by omega
              have e2:((i2:Int)+1+k).toNat=i2+1+k:=by omega
              have hjd:=vC s (i2+1+k);by_cases hjl:s.length<=i2+1+k
              . have hjz:(s.length:Int)<=(i2:Int)+1+k:=by omega
                have hjz':¬ (i2:Int)+1+k<s.length:=by omega
                iterate 12 (try simp only[ae];try simp[go_sem,ep,hkz,hjz,hjz'])
                exact⟨by omega,by omega,by omega,by omega,no X2.kept (hno (by omega)) _ _⟩
              have hjz:¬ (s.length:Int)<=(i2:Int)+1+k:=by omega
              have hjz3:(i2:Int)+1+k<s.length:=by omega
              by_cases hneg:hx (bt s (i2+1+k))<0
              . iterate 12 (try simp only[ae];try simp[go_sem,ep,s1,oW,hkz,hjz,hjz3,e2,hjd.1,hjd.2,hneg])
                refine⟨by omega,by omega,by omega,by omega,by omega,by omega,by omega,no X2.kept (hno ?_) _ _⟩;rintro⟨_,g1,g2⟩;rcases (by omega:k=1\/k=2) with rfl | rfl
                . exact absurd hneg (by rw[show i2+1+1=i2+2 by omega];omega)
                . exact absurd hneg (by rw[show i2+1+2=i2+3 by omega];omega)
              . iterate 12 (try simp only[ae];try simp[go_sem,s1,oW,hkz,hjz,hjz3,e2,hjd.1,hjd.2,hneg])
                refine⟨by omega,by omega,by omega,by omega,by omega,by omega,by omega,?_,?_⟩
                . rw[ei];refine⟨x0,i2,x2,k+1,y,y2,t,t2,l0,sl,acc2,h',by simp,X2,lo2,a1,cnt2,all2,by omega,by omega,fun h2=>?_,fun h3=>?_⟩
                  . by_cases e:k=1
                    . subst e;rw[show i2+1+1=i2+2 by omega] at hneg;exact⟨by omega,by omega⟩
                    . exact a4 (by omega)
                  . obtain rfl:k=2:=by omega
                    rw[show i2+1+2=i2+3 by omega] at hneg;exact⟨by omega,by omega⟩
                . rw[em];simp only[tY,List.getD_cons_succ,List.getD_cons_zero];omega
            . have hkz:¬ (k:Int)<=2:=by omega
              obtain⟨g1,g2⟩:=a4 (by omega);obtain⟨g3,g4⟩:=a5 (by omega);have e3:((i2:Int)+1+1).toNat=i2+2:=by omega
              have e4:((i2:Int)+1+2).toNat=i2+3:=by omega
              have b3:=vC s (i2+2);have b4:=vC s (i2+3);have z3:(i2:Int)+1+1<s.length:=by omega
              have z4:(i2:Int)+1+2<s.length:=by omega
              iterate 12 (try simp only[ae];try simp[go_sem,s1,oW,hkz,e3,e4,z3,z4,b3.1,b3.2,b4.1,b4.2])
              refine⟨by omega,by omega,by omega,by omega,by omega,by omega,by omega,by omega,by omega,by omega,?_⟩;have hw:IntKind.u8.wrap (hx (bt s (i2+2))*16+hx (bt s (i2+3)))=16*hx (bt s (i2+2))+hx (bt s (i2+3)):=by rw[IntKind.wrap_u8];omega
              rw[aW];intro b hb;refine ry X2 (by omega) hb (c:=16*hx (bt s (i2+2))+hx (bt s (i2+3))) (by omega) (by omega) rfl rfl (by simp[go_sem,hw]) (fun s' k' X'=>?_);rw[<- ae]
              iterate 4 (try simp only[ae];try simp[go_sem,ei,em])
              refine⟨by omega,by omega,by omega,by omega,⟨x2,i2+4,y2,t2,l0,s',_,k',by rw[show ((i2+4:Nat):Int)=(i2:Int)+1+2+1 by omega],X',by omega,by omega,by simp;omega,qw all2 le (i':=i2+4) (by omega) (fun m=>by
               rw[rdA,if_neg (by omega),if_neg q34,if_neg (fun h=>h q92),if_neg (by omega),if_neg (by omega),if_neg (by omega),if_neg (by omega),if_pos c120,if_pos ⟨g3,g2,g4⟩])⟩,?_⟩
              simp only[tY,List.getD_cons_succ,List.getD_cons_zero];omega
        . iterate 16 (try simp only[ae];try simp[go_sem,ep,hz,hz3,hz4,q92,e1,c34,c92,c110,c116,c120])
          refine⟨by omega,by omega,by omega,?_⟩;exact no X.kept (qx all le fun m=>by rw[rdA,if_neg (by omega),if_neg q34,if_neg (fun h=>h q92),if_neg (by omega),if_neg (by omega),if_neg c110,if_neg c116,if_neg c120]) _ _
      . iterate 6 (try simp only[ae];try simp[go_sem,hz,p1,p2,q34,q92])
        rw[aW];intro b hb;refine ry X (by omega) hb (c:=bt s i) hibd.1 hibd.2 rfl rfl rfl (fun s' k' X'=>?_);rw[<- ae]
        iterate 2 (try simp only[ae];try simp[go_sem,ei,em])
        refine⟨by omega,by omega,⟨x0,i+1,y,t,l0,s',_,k',by simp,X',by omega,by omega,by simp;omega,qw all le (Nat.lt_succ_self i) (fun m=>by rw[rdA,if_neg (by omega),if_neg q34,if_pos q92])⟩,?_⟩;simp only[tY,List.getD_cons_succ,List.getD_cons_zero];omega
  . rw[if_pos (.inr h34)] at hφ
    iterate 3 (try simp only[ae];try simp[go_sem,ep,hs0,h34])
    exact⟨hpos,h,fun _ _ h=>h,hφ _ _⟩
def NP:Fm:=(.N (.and (.le (.c 0) (.x 0)) (.lt (.x 0) (.len (.x 0))))
 (.C 146 [(.one (.i .u8 (.at (.x 0) (.x 0))))] (.p (.J 1)) ⟨1,0,0,0,0,0⟩
 (.ite (.eqI (.x 1) (.c 1))
 (.ite (.eqI (.x 1) (.c 1))
 (.C 147 [.S 0,.J 0] (.p (.J 2)) ⟨1,0,0,0,0,0⟩
 (.N (.and (.and (.le (.c 0) (.x 2)) (.le (.x 2) (.len (.x 0)))) (.and (.le (.c 0) (.x 0)) (.le (.x 0) (.x 2))))
 (.N (.and (.le (.c 0) (.x 0)) (.lt (.x 0) (.len (.x 0))))
 (.C 146 [(.one (.i .u8 (.at (.x 0) (.x 0))))] (.p (.J 3)) ⟨1,0,0,0,0,0⟩
 (.ite (.eqI (.x 3) (.c 2))
 (.ret (.tup [(.agg [(.i .u8 (.c 2)),(.i .i64 (.c 0)),(.i .i64 (.c 0)),(.i .i64 (.c 0)),(.s (.sub (.x 0) (.x 0) (.x 2)))]),.J 2,(.I (.c 0))]))
 (.C 148 [(.one (.s (.sub (.x 0) (.x 0) (.x 2))))] (.p (.B 0)) ⟨0,1,0,0,0,0⟩
 (.ite (.x 0)
 (.ret (.tup [(.agg [(.i .u8 (.c 6)),(.i .i64 (.c 0)),(.i .i64 (.c 0)),(.i .i64 (.c 0)),(.s (.sub (.x 0) (.x 0) (.x 2)))]),.J 2,(.I (.c 0))]))
 (.ret (.tup [(.agg [(.i .u8 (.c 1)),(.i .i64 (.c 0)),(.i .i64 (.c 0)),(.i .i64 (.c 0)),(.s (.sub (.x 0) (.x 0) (.x 2)))]),.J 2,(.I (.c 0))])))))))))
 (.ite (.eqI (.x 1) (.c 3))
 (.C 149 [.S 0,.J 0] (.tup [.K 2 3 4 5 1,.J 6,.J 7]) ⟨6,0,1,0,0,0⟩
 (.ret (.tup [.K 2 3 4 5 1,.J 6,.J 7])))
 (.N (.and (.le (.c 0) (.x 0)) (.lt (.x 0) (.len (.x 0))))
 (.ite (.eqI (.at (.x 0) (.x 0)) (.c 34))
 (.N (.and (.le (.c 0) (.x 0)) (.le (.x 0) (.len (.x 0))))
 (.C 150 [(.one (.s (.sub (.x 0) (.x 0) (.len (.x 0)))))] (.tup [.S 1,.J 2,.B 0]) ⟨1,1,1,0,0,0⟩
 (.ite (.not (.x 0))
 (.ret (.tup [(.agg [(.i .u8 (.c 0)),(.i .i64 (.c 0)),(.i .i64 (.c 0)),(.i .i64 (.c 0)),(.s (.c []))]),(.I (.c 0)),(.I (.c 4))]))
 (.N (.R (.add (.x 0) (.x 2)))
 (.ret (.tup [(.agg [(.i .u8 (.c 5)),(.i .i64 (.c 0)),(.i .i64 (.c 0)),(.i .i64 (.c 0)),(.s (.x 1))]),(.I (.add (.x 0) (.x 2))),(.I (.c 0))]))))))
 (.mk [(.s (.c [38,38])),(.s (.c [124,124])),(.s (.c [61,61])),(.s (.c [33,61])),(.s (.c [60,61])),(.s (.c [62,61]))] 9 6
 (.loop 0 ⟨[(.c 0),(.c 0),(.c 0),(.c 0),(.c 0),(.c 0),(.c 0)],[],[(.c [])],[],[],[]⟩
 (.ite (.lt (.x 4) (.cnt (.x 0)))
 (.load (.le (.add (.x 0) (.c 2)) (.len (.x 0))) (.el (.x 0) (.x 4) 1 0) 1 [(.s (.x 2))] ⟨0,0,1,0,0,0⟩
 (.N (.R (.add (.x 0) (.c 2)))
 (.need (.le (.add (.x 0) (.c 2)) (.len (.x 0))) (.R (.add (.x 0) (.c 2)))
 (.need (.le (.add (.x 0) (.c 2)) (.len (.x 0))) (.and (.and (.le (.c 0) (.add (.x 0) (.c 2))) (.le (.add (.x 0) (.c 2)) (.len (.x 0)))) (.and (.le (.c 0) (.x 0)) (.le (.x 0) (.add (.x 0) (.c 2)))))
 (.need (.le (.add (.x 0) (.c 2)) (.len (.x 0))) (.X (.x 4) (.x 0))
 (.ite (.and (.le (.add (.x 0) (.c 2)) (.len (.x 0))) (.eqS (.sub (.x 0) (.x 0) (.add (.x 0) (.c 2))) (.x 2)))
 (.N (.X (.x 4) (.x 0))
 (.O (.el (.x 0) (.x 4) 1 0) 1 [(.s (.x 3))] ⟨0,0,1,0,0,0⟩
 (.N (.R (.add (.x 0) (.c 2)))
 (.ret (.tup [(.agg [(.i .u8 (.c 7)),(.i .i64 (.c 0)),(.i .i64 (.c 0)),(.i .i64 (.c 0)),(.s (.x 3))]),(.I (.add (.x 0) (.c 2))),(.I (.c 0))])))))
 (.N (.R (.add (.x 4) (.c 1)))
 (.again 0 ⟨2,0,1,0,1,0⟩ ⟨9,0,2,0,1,0⟩ ⟨[(.x 2),(.x 3),(.add (.x 4) (.c 1)),(.x 5),(.x 6),(.x 7),(.x 8)],[],[(.x 1)],[],[],[]⟩))))))))
 (.loop 1 ⟨[(.x 2),(.x 3),(.c 0),(.x 5),(.x 6),(.x 7),(.x 8)],[],[(.x 1)],[],[],[]⟩
 (.ite (.lt (.x 11) (.len (.c [43,45,42,47,37,60,62,33,61,40,41,123,125,91,93,44,59,58,46])))
 (.N (.and (.le (.c 0) (.x 0)) (.lt (.x 0) (.len (.x 0))))
 (.N (.and (.le (.c 0) (.x 11)) (.lt (.x 11) (.len (.c [43,45,42,47,37,60,62,33,61,40,41,123,125,91,93,44,59,58,46]))))
 (.ite (.eqI (.at (.x 0) (.x 0)) (.at (.c [43,45,42,47,37,60,62,33,61,40,41,123,125,91,93,44,59,58,46]) (.x 11)))
 (.N (.R (.add (.x 11) (.c 1)))
 (.N (.and (.and (.le (.c 0) (.add (.x 11) (.c 1))) (.le (.add (.x 11) (.c 1)) (.len (.c [43,45,42,47,37,60,62,33,61,40,41,123,125,91,93,44,59,58,46])))) (.and (.le (.c 0) (.x 11)) (.le (.x 11) (.add (.x 11) (.c 1)))))
 (.N (.R (.add (.x 0) (.c 1)))
 (.ret (.tup [(.agg [(.i .u8 (.c 7)),(.i .i64 (.c 0)),(.i .i64 (.c 0)),(.i .i64 (.c 0)),(.s (.sub (.c [43,45,42,47,37,60,62,33,61,40,41,123,125,91,93,44,59,58,46]) (.x 11) (.add (.x 11) (.c 1))))]),(.I (.add (.x 0) (.c 1))),(.I (.c 0))])))))
 (.N (.R (.add (.x 11) (.c 1)))
 (.again 1 ⟨9,0,2,0,1,0⟩ ⟨16,0,3,0,1,0⟩ ⟨[(.x 9),(.x 10),(.add (.x 11) (.c 1)),(.x 12),(.x 13),(.x 14),(.x 15)],[],[(.x 2)],[],[],[]⟩)))))
 (.ret (.tup [(.agg [(.i .u8 (.c 0)),(.i .i64 (.c 0)),(.i .i64 (.c 0)),(.i .i64 (.c 0)),(.s (.c []))]),(.I (.c 0)),(.I (.c 4))])))))))))))
 (.ite (.eqI (.x 1) (.c 2))
 (.C 147 [.S 0,.J 0] (.p (.J 2)) ⟨1,0,0,0,0,0⟩
 (.N (.and (.and (.le (.c 0) (.x 2)) (.le (.x 2) (.len (.x 0)))) (.and (.le (.c 0) (.x 0)) (.le (.x 0) (.x 2))))
 (.N (.and (.le (.c 0) (.x 0)) (.lt (.x 0) (.len (.x 0))))
 (.C 146 [(.one (.i .u8 (.at (.x 0) (.x 0))))] (.p (.J 3)) ⟨1,0,0,0,0,0⟩
 (.ite (.eqI (.x 3) (.c 2))
 (.ret (.tup [(.agg [(.i .u8 (.c 2)),(.i .i64 (.c 0)),(.i .i64 (.c 0)),(.i .i64 (.c 0)),(.s (.sub (.x 0) (.x 0) (.x 2)))]),.J 2,(.I (.c 0))]))
 (.C 148 [(.one (.s (.sub (.x 0) (.x 0) (.x 2))))] (.p (.B 0)) ⟨0,1,0,0,0,0⟩
 (.ite (.x 0)
 (.ret (.tup [(.agg [(.i .u8 (.c 6)),(.i .i64 (.c 0)),(.i .i64 (.c 0)),(.i .i64 (.c 0)),(.s (.sub (.x 0) (.x 0) (.x 2)))]),.J 2,(.I (.c 0))]))
 (.ret (.tup [(.agg [(.i .u8 (.c 1)),(.i .i64 (.c 0)),(.i .i64 (.c 0)),(.i .i64 (.c 0)),(.s (.sub (.x 0) (.x 0) (.x 2)))]),.J 2,(.I (.c 0))])))))))))
 (.ite (.eqI (.x 1) (.c 3))
 (.C 149 [.S 0,.J 0] (.tup [.K 2 3 4 5 1,.J 6,.J 7]) ⟨6,0,1,0,0,0⟩
 (.ret (.tup [.K 2 3 4 5 1,.J 6,.J 7])))
 (.N (.and (.le (.c 0) (.x 0)) (.lt (.x 0) (.len (.x 0))))
 (.ite (.eqI (.at (.x 0) (.x 0)) (.c 34))
 (.N (.and (.le (.c 0) (.x 0)) (.le (.x 0) (.len (.x 0))))
 (.C 150 [(.one (.s (.sub (.x 0) (.x 0) (.len (.x 0)))))] (.tup [.S 1,.J 2,.B 0]) ⟨1,1,1,0,0,0⟩
 (.ite (.not (.x 0))
 (.ret (.tup [(.agg [(.i .u8 (.c 0)),(.i .i64 (.c 0)),(.i .i64 (.c 0)),(.i .i64 (.c 0)),(.s (.c []))]),(.I (.c 0)),(.I (.c 4))]))
 (.N (.R (.add (.x 0) (.x 2)))
 (.ret (.tup [(.agg [(.i .u8 (.c 5)),(.i .i64 (.c 0)),(.i .i64 (.c 0)),(.i .i64 (.c 0)),(.s (.x 1))]),(.I (.add (.x 0) (.x 2))),(.I (.c 0))]))))))
 (.mk [(.s (.c [38,38])),(.s (.c [124,124])),(.s (.c [61,61])),(.s (.c [33,61])),(.s (.c [60,61])),(.s (.c [62,61]))] 9 6
 (.loop 0 ⟨[(.c 0),(.c 0),(.c 0),(.c 0),(.c 0),(.c 0),(.c 0)],[],[(.c [])],[],[],[]⟩
 (.ite (.lt (.x 4) (.cnt (.x 0)))
 (.load (.le (.add (.x 0) (.c 2)) (.len (.x 0))) (.el (.x 0) (.x 4) 1 0) 1 [(.s (.x 2))] ⟨0,0,1,0,0,0⟩
 (.N (.R (.add (.x 0) (.c 2)))
 (.need (.le (.add (.x 0) (.c 2)) (.len (.x 0))) (.R (.add (.x 0) (.c 2)))
 (.need (.le (.add (.x 0) (.c 2)) (.len (.x 0))) (.and (.and (.le (.c 0) (.add (.x 0) (.c 2))) (.le (.add (.x 0) (.c 2)) (.len (.x 0)))) (.and (.le (.c 0) (.x 0)) (.le (.x 0) (.add (.x 0) (.c 2)))))
 (.need (.le (.add (.x 0) (.c 2)) (.len (.x 0))) (.X (.x 4) (.x 0))
 (.ite (.and (.le (.add (.x 0) (.c 2)) (.len (.x 0))) (.eqS (.sub (.x 0) (.x 0) (.add (.x 0) (.c 2))) (.x 2)))
 (.N (.X (.x 4) (.x 0))
 (.O (.el (.x 0) (.x 4) 1 0) 1 [(.s (.x 3))] ⟨0,0,1,0,0,0⟩
 (.N (.R (.add (.x 0) (.c 2)))
 (.ret (.tup [(.agg [(.i .u8 (.c 7)),(.i .i64 (.c 0)),(.i .i64 (.c 0)),(.i .i64 (.c 0)),(.s (.x 3))]),(.I (.add (.x 0) (.c 2))),(.I (.c 0))])))))
 (.N (.R (.add (.x 4) (.c 1)))
 (.again 0 ⟨2,0,1,0,1,0⟩ ⟨9,0,2,0,1,0⟩ ⟨[(.x 2),(.x 3),(.add (.x 4) (.c 1)),(.x 5),(.x 6),(.x 7),(.x 8)],[],[(.x 1)],[],[],[]⟩))))))))
 (.loop 1 ⟨[(.x 2),(.x 3),(.c 0),(.x 5),(.x 6),(.x 7),(.x 8)],[],[(.x 1)],[],[],[]⟩
 (.ite (.lt (.x 11) (.len (.c [43,45,42,47,37,60,62,33,61,40,41,123,125,91,93,44,59,58,46])))
 (.N (.and (.le (.c 0) (.x 0)) (.lt (.x 0) (.len (.x 0))))
 (.N (.and (.le (.c 0) (.x 11)) (.lt (.x 11) (.len (.c [43,45,42,47,37,60,62,33,61,40,41,123,125,91,93,44,59,58,46]))))
 (.ite (.eqI (.at (.x 0) (.x 0)) (.at (.c [43,45,42,47,37,60,62,33,61,40,41,123,125,91,93,44,59,58,46]) (.x 11)))
 (.N (.R (.add (.x 11) (.c 1)))
 (.N (.and (.and (.le (.c 0) (.add (.x 11) (.c 1))) (.le (.add (.x 11) (.c 1)) (.len (.c [43,45,42,47,37,60,62,33,61,40,41,123,125,91,93,44,59,58,46])))) (.and (.le (.c 0) (.x 11)) (.le (.x 11) (.add (.x 11) (.c 1)))))
 (.N (.R (.add (.x 0) (.c 1)))
 (.ret (.tup [(.agg [(.i .u8 (.c 7)),(.i .i64 (.c 0)),(.i .i64 (.c 0)),(.i .i64 (.c 0)),(.s (.sub (.c [43,45,42,47,37,60,62,33,61,40,41,123,125,91,93,44,59,58,46]) (.x 11) (.add (.x 11) (.c 1))))]),(.I (.add (.x 0) (.c 1))),(.I (.c 0))])))))
 (.N (.R (.add (.x 11) (.c 1)))
 (.again 1 ⟨9,0,2,0,1,0⟩ ⟨16,0,3,0,1,0⟩ ⟨[(.x 9),(.x 10),(.add (.x 11) (.c 1)),(.x 12),(.x 13),(.x 14),(.x 15)],[],[(.x 2)],[],[],[]⟩)))))
 (.ret (.tup [(.agg [(.i .u8 (.c 0)),(.i .i64 (.c 0)),(.i .i64 (.c 0)),(.i .i64 (.c 0)),(.s (.c []))]),(.I (.c 0)),(.I (.c 4))]))))))))))))))
theorem UM:aU ⟨true,[]⟩ Tryz.prog (fun l=>([⟨[5,6,74],[75,76,13,77,78,79,80,81,82,83,84,85,86,87,88,89,90,91,92,93,94,95,96,97,98,99,100,101],[4]⟩,⟨[5,6,15],[102,103,104,105,108,109,110,111,112,113,114,115,116,117,118,119,120,121,122,106,107],[4]⟩]:List bG).getD l ⟨[],[],[]⟩) Tryz.f135=NP:=by kernel_rfl
theorem YG:az Tryz.prog .zero Tryz.f135.params.toList=some ([.S 0,.J 0],⟨1,0,1,0,0,0⟩):=by kernel_rfl
theorem WU (s:List UInt8) {i j:Nat} (h:i<j) (hj:j<=s.length):sub s i j=s[i]::sub s (i+1) j:=by
 unfold sub;have hl:i<(s.take j).length:=by rw[List.length_take];omega
 rw[List.drop_eq_getElem_cons hl,List.getElem_take]
def TWO:List (List UInt8):=[[38,38],[124,124],[61,61],[33,61],[60,61],[62,61]]
def ONE:List UInt8:=[43,45,42,47,37,60,62,33,61,40,41,123,125,91,93,44,59,58,46]
theorem Di:dM=TWO++ONE.map fun c=>[c]:=rfl
theorem yg {α:Type} (P:α->Bool):∀ (l:List α) (j:Nat) (x:α),l[j]? = some x->P x=true->(∀ k y,k<j->l[k]? = some y->P y=false)->l.find? P=some x
 | [],j,x,h,_,_=>by cases h
 | a::l,0,x,h,hp,_=>by
   have e:a=x:=by simpa using h
   rw[List.find?_cons,e,hp]
 | a::l,j+1,x,h,hp,hn=>by
   rw[List.find?_cons,hn 0 a (by omega) rfl];exact yg P l j x (by simpa using h) hp (fun k y hk hy=>hn (k+1) y (by omega) (by simpa using hy))
theorem AX {α:Type} (P:α->Bool) (l:List α) (h:∀ (k:Nat) y,l[k]? = some y->P y=false):l.find? P=none:=by
 rw[List.find?_eq_none];intro x hx;obtain⟨k,hk⟩:=List.getElem?_of_mem hx;rw[h k x hk];simp
theorem EF {s p:List UInt8} {i:Nat} (hp:p.length=2):p.isPrefixOf (s.drop i)=true↔(i+2<=s.length/\sub s i (i+2)=p):=by
 have e:sub s i (i+2)=(s.drop i).take 2:=by
  unfold sub;rw[List.drop_take];congr 1;omega
 rw[List.isPrefixOf_iff_prefix,List.prefix_iff_eq_take,hp,e];constructor
 . intro h;have:=congrArg List.length h;rw[hp,List.length_take,List.length_drop] at this;exact⟨by omega,h.symm⟩
 . intro h;exact h.2.symm
theorem Ei {s:List UInt8} {i:Nat} (hi:i<s.length) (c:UInt8):[c].isPrefixOf (s.drop i)=true↔bt s i=c.toNat:=by
 rw[List.drop_eq_getElem_cons hi,mF s i hi];simp[List.isPrefixOf];constructor
 . rintro rfl;rfl
 . intro h;exact (UInt8.toNat_inj.1 (by omega))
def xC (s:List UInt8) (i0 j:Nat):Prop:=∀ (k:Nat) y,k<j->TWO[k]? = some y->y.isPrefixOf (s.drop i0)=false
def aa2 (h:Hp) (s:List UInt8) (i0:Nat):Nat->Ctx->Prop
 | 0,C=>∃ kx a0 a1 j a3 a4 a5 a6 t b,C=⟨[(i0:Nat),kx,a0,a1,(j:Nat),a3,a4,a5,a6],[],[s,t],[],[⟨some (b,0),6,6⟩],[],Hp.set h b ⟨strs TWO,9⟩,cu⟩/\h b=none/\j<=6/\xC s i0 j
 | _+1,C=>∃ kx a0 a1 a2 a3 a4 a5 a6 c0 c1 j c3 c4 c5 c6 t t' b,C=⟨[(i0:Nat),kx,a0,a1,a2,a3,a4,a5,a6,c0,c1,(j:Nat),c3,c4,c5,c6],[],[s,t,t'],[],[⟨some (b,0),6,6⟩],[],Hp.set h b ⟨strs TWO,9⟩,cu⟩/\h b=none/\j<=19/\xC s i0 6/\
  ∀ (k:Nat) y,k<j->ONE[k]? = some y->bt s i0≠y.toNat
def Io:Nat->Ctx->Nat
 | 0,C=>(6 - C.i.getD 4 0).toNat
 | _+1,C=>(19 - C.i.getD 11 0).toNat
theorem aaf {s:List UInt8} {i0:Nat} (hk:¬ (jb (bt s i0)=1\/jb (bt s i0)=2)) (hk3:¬ jb (bt s i0)=3) (h34:¬ bt s i0=34):one s i0=if sg (s.drop i0)=[] then ⟨4,0,[],0,0⟩ else ⟨0,7,sg (s.drop i0),0,i0+(sg (s.drop i0)).length⟩:=by
 unfold one;rw[if_neg hk,if_neg hk3,if_neg h34]
theorem Y0 {s:List UInt8} {i0 j:Nat} {x:List UInt8} (hn:xC s i0 j) (hx:TWO[j]? = some x) (hp:x.isPrefixOf (s.drop i0)=true):sg (s.drop i0)=x:=by
 unfold sg;rw[Di,List.find?_append,yg (fun p=>p.isPrefixOf (s.drop i0)) TWO j x hx hp (fun k y hk hy=>hn k y hk hy)];rfl
theorem Ig {s:List UInt8} {i0:Nat} (hn:xC s i0 6):TWO.find? (fun p=>p.isPrefixOf (s.drop i0))=none:=
 AX _ _ fun k y hy=>hn k y (by have:=(List.getElem?_eq_some_iff.1 hy).1;exact this) hy
theorem YZ {s:List UInt8} {i0 j:Nat} {c:UInt8} (hi:i0<s.length) (hn:xC s i0 6) (hj:∀ (k:Nat) y,k<j->ONE[k]? = some y->bt s i0≠y.toNat) (hx:ONE[j]? = some c) (hp:bt s i0=c.toNat):sg (s.drop i0)=[c]:=by
 unfold sg;rw[Di,List.find?_append,Ig hn,Option.none_or,yg (fun p=>p.isPrefixOf (s.drop i0)) (ONE.map fun c=>[c]) j [c] (by simp[hx]) ((Ei hi c).2 hp) (fun k y hk hy=>?_)]
 . rfl
 . simp only[List.getElem?_map,Option.map_eq_some_iff] at hy;obtain⟨d,hd,rfl⟩:=hy;cases hq:[d].isPrefixOf (s.drop i0)
   . rfl
   . exact absurd ((Ei hi d).1 hq) (hj k d hk hd)
theorem YY {s:List UInt8} {i0:Nat} (hi:i0<s.length) (hn:xC s i0 6) (hj:∀ (k:Nat) y,k<19->ONE[k]? = some y->bt s i0≠y.toNat):sg (s.drop i0)=[]:=by
 unfold sg;rw[Di,List.find?_append,Ig hn,Option.none_or,AX (fun p=>p.isPrefixOf (s.drop i0)) (ONE.map fun c=>[c]) (fun k y hy=>?_)]
 . rfl
 . simp only[List.getElem?_map,Option.map_eq_some_iff] at hy;obtain⟨d,hd,rfl⟩:=hy;cases hq:[d].isPrefixOf (s.drop i0)
   . rfl
   . exact absurd ((Ei hi d).1 hq) (hj k d (by have:=(List.getElem?_eq_some_iff.1 hd).1;exact this) hd)
set_option maxRecDepth 100000 in
set_option maxHeartbeats 8000000 in
def TN:Ct Tryz.prog where
 f:=135
 spec:=fun args h φ=>∃ s i0,args=[.string (B s),.int .i64 (i0:Nat)]/\i0<s.length/\s.length<=100000/\jb (bt s i0)≠3/\
  (if (one s i0).f=0 then φ (.tuple #[gI (one s i0).k 0 0 (one s i0).n (one s i0).x,.int .i64 ((one s i0).e:Nat),.int .i64 0]) h
   else ∀ kk,φ (.tuple #[gI kk 0 0 0 [],.int .i64 0,.int .i64 (one s i0).f]) h)
 ok:=by
  rintro args h φ w ⟨s,i0,rfl,hi0,hlen,k3,hφ⟩ hH;refine bQ (aZ Tryz.func135 UM YG [jI,FK,MX,MV] (fun v k=>∃ k',bY k' k/\φ v k') (aa2 h s i0) Io ⟨[(i0:Nat)],[],[s],[],[],[],h,cu⟩ ⟨rfl,rfl,rfl,rfl,rfl,rfl⟩ af ?_ w hH rfl);generalize hE:(⟨aG _,_,_,_⟩:Env)=E;have s1:E.spec 146=jI.spec:=by rw[<- hE];rfl
  have s2:E.spec 147=FK.spec:=by rw[<- hE];rfl
  have s3:E.spec 148=MX.spec:=by rw[<- hE];rfl
  have s5:E.spec 150=MV.spec:=by rw[<- hE];rfl
  have ep:E.post=fun v k=>∃ k',bY k' k/\φ v k':=by rw[<- hE]
  have ei:E.inv=aa2 h s i0:=by rw[<- hE]
  have em:E.meas=Io:=by rw[<- hE]
  clear hE;have hz:(i0:Int)<s.length:=by omega
  rw[<- ae];unfold NP;by_cases k1:jb (bt s i0)=1
  . iterate 4 (try simp only[ae];try simp[go_sem,s1,jI,hz,k1])
    have hin:inB (bt s i0)=true:=by simp[inB,k1]
    have hone:one s i0=⟨0,kN (bt s i0) (sub s i0 (i0+rn inB s i0)),sub s i0 (i0+rn inB s i0),0,i0+rn inB s i0⟩:=by unfold one;rw[if_pos (.inl k1)]
    have hle:=zx (p:=inB) (s:=s) (i:=i0) (by omega);rw[hone,if_pos rfl] at hφ;rw[ai,s2];refine⟨s,i0,rfl,by omega,by omega,by omega,(fun h=>by cases h),?_⟩;rw[Int.toNat_natCast];simp[go_sem];generalize rn inB s i0=N at *;have e1:((i0:Int)+N).toNat=i0+N:=by omega
    have e2:List.drop i0 (List.take (i0+N) s)=sub s i0 (i0+N):=rfl
    iterate 5 (try simp only[ae];try simp[go_sem,s1,jI,hz,k1,e1,e2])
    refine⟨by omega,by omega,by omega,?_⟩;rw[s3];refine⟨sub s i0 (i0+N),rfl,fun k' hk'=>?_⟩;have hk2':¬ jb (bt s i0)=2:=by omega
    unfold kN at hφ;rw[if_neg hk2'] at hφ;cases hw:gW (sub s i0 (i0+N))
    . rw[hw] at hφ;refine .inl ⟨rfl,?_⟩
      iterate 2 (try simp only[ae];try simp[go_sem,ep,e1,e2])
      exact⟨h,hk',by simpa[gI] using hφ⟩
    . rw[hw] at hφ;refine .inr ⟨rfl,?_⟩
      iterate 2 (try simp only[ae];try simp[go_sem,ep,e1,e2])
      exact⟨h,hk',by simpa[gI] using hφ⟩
  by_cases k2:jb (bt s i0)=2
  . iterate 4 (try simp only[ae];try simp[go_sem,s1,jI,hz,k2])
    have hin:inB (bt s i0)=true:=by simp[inB,k2]
    have hone:one s i0=⟨0,kN (bt s i0) (sub s i0 (i0+rn inB s i0)),sub s i0 (i0+rn inB s i0),0,i0+rn inB s i0⟩:=by unfold one;rw[if_pos (.inr k2)]
    have hle:=zx (p:=inB) (s:=s) (i:=i0) (by omega);rw[hone,if_pos rfl] at hφ;rw[ai,s2];refine⟨s,i0,rfl,by omega,by omega,by omega,(fun h=>by cases h),?_⟩;rw[Int.toNat_natCast];simp[go_sem];generalize rn inB s i0=N at *;have e1:((i0:Int)+N).toNat=i0+N:=by omega
    have e2:List.drop i0 (List.take (i0+N) s)=sub s i0 (i0+N):=rfl
    iterate 5 (try simp only[ae];try simp[go_sem,s1,jI,hz,k2,e1,e2,ep])
    unfold kN at hφ;rw[if_pos k2] at hφ;exact⟨by omega,by omega,by omega,h,fun _ _ h=>h,by simpa[gI] using hφ⟩
  by_cases h34:bt s i0=34
  . have hk34:jb 34=0:=by decide
    iterate 8 (try simp only[ae];try simp[go_sem,s1,jI,hz,h34,hk34])
    refine⟨by omega,?_⟩;have hdl:(s.drop i0).length=s.length - i0:=List.length_drop;have htl:List.drop i0 (List.take s.length s)=s.drop i0:=by rw[List.take_length]
    have hk12:¬ (jb (bt s i0)=1\/jb (bt s i0)=2):=by omega
    rw[ai,s5];refine⟨s.drop i0,by simp[go_sem],by omega,?_⟩;cases hq:Ag (s.drop i0) with
    | none=>
      have hone:one s i0=⟨4,0,[],0,0⟩:=by
       unfold one;rw[if_neg hk12,if_neg k3,if_pos h34,hq]
      rw[hone,if_neg (by decide)] at hφ;intro t n;refine⟨(fun h=>by cases h),?_⟩;simp[go_sem]
      iterate 2 (try simp only[ae];try simp[go_sem,ep])
      exact⟨h,fun _ _ h=>h,by simpa[gI] using hφ 0⟩
    | some r=>
      obtain⟨t,m⟩:=r;obtain⟨m1,m2,_⟩:=tZ hq;have hone:one s i0=⟨0,5,t,0,i0+m⟩:=by
       unfold one;rw[if_neg hk12,if_neg k3,if_pos h34,hq]
      rw[hone,if_pos rfl] at hφ;refine⟨(fun h=>by cases h),?_⟩;simp[go_sem]
      iterate 3 (try simp only[ae];try simp[go_sem,ep])
      exact⟨by omega,by omega,h,fun _ _ h=>h,by simpa[gI] using hφ⟩
  iterate 7 (try simp only[ae];try simp[go_sem,s1,jI,hz,k1,k2,k3,h34])
  have hk12:¬ (jb (bt s i0)=1\/jb (bt s i0)=2):=by omega
  have hone:=aaf hk12 k3 h34;rw[ae,aW];intro b hb;refine bH ?_ ?_
  . rw[ei];exact⟨jb (bt s i0),0,0,0,0,0,0,0,[],b,rfl,hb,by omega,fun k y hk=>by omega⟩
  rw[ei,em];rintro i' bb ss v ll pp hh0 M ⟨kx,a0,a1,j,a3,a4,a5,a6,t,b',hC,hb',hj6,hno⟩ hM;cases hC;have hM':M 0=((6:Int) - j).toNat:=hM;clear hM hb;have hle':bY h (Hp.set h b' ⟨strs TWO,9⟩):=dU hb' _;have kb:(Hp.set h b' ⟨strs TWO,9⟩) b'=some ⟨strs TWO,9⟩:=ay _ _ _;generalize hHd:Hp.set h b' ⟨strs TWO,9⟩=H at *;rw[<- ae];by_cases hj:j<6
  . have hjz:(j:Int)<6:=by omega
    obtain⟨x,hx⟩:∃ x,TWO[j]? = some x:=⟨_,List.getElem?_eq_getElem (show j<TWO.length from hj)⟩;have hx2:x.length=2:=by
     have hall:TWO.all (fun x=>decide (x.length=2))=true:=by decide
     simpa using List.all_eq_true.1 hall x (List.mem_of_getElem? hx)
    have hrd:=gQ kb hx;have e1:((i0:Int)+2).toNat=i0+2:=by omega
    have e2:List.drop i0 (List.take (i0+2) s)=sub s i0 (i0+2):=rfl;have nt:x.isPrefixOf (s.drop i0)=false->xC s i0 (j+1):=fun hf k y hk hy=>by
     by_cases e:k=j
     . subst e;rw[hx] at hy;cases hy;exact hf
     . exact hno k y (by omega) hy
    by_cases h2:i0+2<=s.length
    . have h2z:(i0:Int)+2<=s.length:=by omega
      by_cases hp:sub s i0 (i0+2)=x
      . have hsg:=Y0 hno hx ((EF hx2).2 ⟨h2,hp⟩);rw[hsg,if_neg (by intro e;rw[e] at hx2;cases hx2)] at hone;rw[hone,if_pos rfl] at hφ
        iterate 11 (try simp only[ae];try simp[go_sem,ep,hjz,hrd,h2z,e1,e2,hp])
        refine⟨by omega,by omega,by omega,by omega,by omega,by omega,by omega,by omega,h,hle',?_⟩;have hl2:((i0+x.length:Nat):Int)=(i0:Int)+2:=by omega
        simpa[gI,hl2,hx2] using hφ
      . iterate 11 (try simp only[ae];try simp[go_sem,ei,em,hjz,hrd,h2z,e1,e2,hp])
        refine⟨by omega,by omega,by omega,by omega,by omega,by omega,by omega,by omega,⟨kx,a0,a1,j+1,a3,a4,a5,a6,t,b',by rw[hHd,show ((j+1:Nat):Int)=(j:Int)+1 by omega],hb',by omega,nt ?_⟩,?_⟩
        . cases hq:x.isPrefixOf (s.drop i0)
          . rfl
          . exact absurd ((EF hx2).1 hq).2 hp
        . simp only[Io,List.getD_cons_succ,List.getD_cons_zero];omega
    . have h2z:¬ (i0:Int)+2<=s.length:=by omega
      iterate 11 (try simp only[ae];try simp[go_sem,ei,em,hjz,h2z])
      refine⟨by omega,by omega,by omega,by omega,⟨kx,a0,a1,j+1,a3,a4,a5,a6,t,b',by rw[hHd,show ((j+1:Nat):Int)=(j:Int)+1 by omega],hb',by omega,nt ?_⟩,?_⟩
      . cases hq:x.isPrefixOf (s.drop i0)
        . rfl
        . exact absurd ((EF hx2).1 hq).1 h2
      . simp only[Io,List.getD_cons_succ,List.getD_cons_zero];omega
  . have hjz:¬ (j:Int)<6:=by omega
    iterate 1 (try simp only[ae];try simp[go_sem,hjz])
    try rw[ae]
    refine bH ?_ ?_
    . rw[ei];exact⟨kx,a0,a1,(j:Nat),a3,a4,a5,a6,a0,a1,0,a3,a4,a5,a6,t,t,b',by rw[hHd];rfl,hb',by omega,by rw[show j=6 by omega] at hno;exact hno,fun k y hk=>by omega⟩
    . clear hno hM' hj6 hj hjz;clear hle' kb hHd;rw[ei,em];rintro i' bb ss v ll pp hh1 M1 ⟨kx1,d0,d1,d2,d3,d4,d5,d6,c0,c1,j1,c3,c4,c5,c6,t1,t2,b1,hC,hb1,hj19,hno6,hn1⟩ hM;cases hC;have hM':M1 1=((19:Int) - j1).toNat:=hM;clear hM;have hle':bY h (Hp.set h b1 ⟨strs TWO,9⟩):=dU hb1 _;generalize hHd:Hp.set h b1 ⟨strs TWO,9⟩=H1 at *;have hONE:([43,45,42,47,37,60,62,33,61,40,41,123,125,91,93,44,59,58,46]:List UInt8)=ONE:=rfl;have hol:ONE.length=19:=rfl;rw[<- ae];by_cases hj:j1<19
      . have hjz:(j1:Int)<19:=by omega
        obtain⟨c,hc⟩:∃ c,ONE[j1]? = some c:=⟨_,List.getElem?_eq_getElem (show j1<ONE.length from hj)⟩;have hob:bt ONE j1=c.toNat:=by
         have hjl:j1<ONE.length:=hj;rw[mF ONE j1 hjl,(List.getElem?_eq_some_iff.1 hc).2]
        have e1:((j1:Int)+1).toNat=j1+1:=by omega
        have e3:List.drop j1 (List.take (j1+1) ONE)=[c]:=by
         have hjl:j1<ONE.length:=hj;have:=WU ONE (i:=j1) (j:=j1+1) (by omega) hjl;rw[uk,(List.getElem?_eq_some_iff.1 hc).2] at this;exact this
        by_cases hp:bt s i0=bt ONE j1
        . have hsg:=YZ hi0 hno6 hn1 hc (by rw[hp,hob]);rw[hsg,if_neg (by simp)] at hone;rw[hone,if_pos rfl] at hφ
          iterate 9 (try simp only[ae];try simp[go_sem,ep,hONE,hol,hjz,hz,hp,e1,e3])
          exact⟨by omega,by omega,by omega,by omega,by omega,by omega,by omega,h,hle',by simpa[gI] using hφ⟩
        . iterate 9 (try simp only[ae];try simp[go_sem,ei,em,hONE,hol,hjz,hz,hp])
          refine⟨by omega,by omega,⟨kx1,d0,d1,d2,d3,d4,d5,d6,c0,c1,j1+1,c3,c4,c5,c6,t1,t2,b1,by rw[hHd,show ((j1+1:Nat):Int)=(j1:Int)+1 by omega],hb1,by omega,hno6,fun k y hk hy=>?_⟩,?_⟩
          . by_cases e:k=j1
            . subst e;rw[hc] at hy;cases hy;rw[<- hob];exact hp
            . exact hn1 k y (by omega) hy
          . simp only[Io,List.getD_cons_succ,List.getD_cons_zero];omega
      . have hjz:¬ (j1:Int)<19:=by omega
        have hsg:=YY hi0 hno6 (by rw[show j1=19 by omega] at hn1;exact hn1);rw[hsg,if_pos rfl] at hone;rw[hone,if_neg (by decide)] at hφ
        iterate 3 (try simp only[ae];try simp[go_sem,ep,hONE,hol,hjz])
        exact⟨h,hle',by simpa[gI] using hφ 0⟩
def DR:Fm:=(.C 23 [.L 0] (.p (.B 0)) ⟨0,1,0,0,0,0⟩
 (.need (.x 0) (.X (.c 0) (.x 0))
 (.need (.x 0) (.nns (.x 0))
 (.load (.x 0) (.el (.x 0) (.c 0) 6 0) 1 [.U 0] ⟨1,0,0,0,0,0⟩
 (.need (.not (.or (.not (.x 0)) (.not (.eqI (.x 0) (.c 1))))) (.X (.c 0) (.x 0))
 (.load (.not (.or (.not (.x 0)) (.not (.eqI (.x 0) (.c 1))))) (.el (.x 0) (.c 0) 6 0) 6 [.U 1,.J 2,.J 3,.J 4,.J 5,(.s (.x 0))] ⟨5,0,1,0,0,0⟩
 (.call (.not (.or (.not (.x 0)) (.not (.eqI (.x 0) (.c 1))))) false 49 [(.agg [.U 1,.J 2,.J 3,.J 4,.J 5,(.s (.x 0))])] (.p (.B 1)) ⟨0,1,0,0,0,0⟩
 (.ite (.or (.or (.not (.x 0)) (.not (.eqI (.x 0) (.c 1)))) (.not (.x 1)))
 (.ret (.p (.one (.b (.c false)))))
 (.loop 0 ⟨[(.c 0)],[(.c false)],[],[],[],[]⟩
 (.ite (.lt (.x 6) (.cnt (.x 0)))
 (.N (.X (.x 6) (.x 0))
 (.O (.el (.x 0) (.x 6) 6 0) 6 [.U 7,.J 8,.J 9,.J 10,.J 11,(.s (.x 1))] ⟨5,0,1,0,0,0⟩
 (.C 50 [.L 0,.J 6] (.p (.L 1)) ⟨0,0,0,0,1,0⟩
 (.loop 1 ⟨[(.c 0),(.x 7),(.x 8),(.x 9),(.x 10),(.x 11)],[],[(.x 1)],[],[.nil],[]⟩
 (.ite (.lt (.x 12) (.cnt (.x 1)))
 (.N (.X (.x 12) (.x 1))
 (.O (.el (.x 1) (.x 12) 1 0) 1 [.J 18] ⟨1,0,0,0,0,0⟩
 (.O (.el (.x 0) (.x 18) 6 0) 6 [.U 19,.J 20,.J 21,.J 22,.J 23,(.s (.x 3))] ⟨5,0,1,0,0,0⟩
 (.N (.X (.x 18) (.x 0))
 (.mk [.U 19,.J 20,.J 21,.J 22,.J 23,(.s (.x 3))] 52 1
 (.app (.x 2) (.x 3) 6 56 52
 (.N (.R (.add (.x 12) (.c 1)))
 (.again 1 ⟨12,3,2,0,2,0⟩ ⟨18,3,3,0,3,0⟩ ⟨[(.add (.x 12) (.c 1)),(.x 13),(.x 14),(.x 15),(.x 16),(.x 17)],[],[(.x 2)],[],[(.x 4)],[]⟩))))))))
 (.ite (.eqI (.x 6) (.c 0))
 (.mk [(.i .u8 (.c 2)),(.i .u8 (.c 4))] 5 2
 (.C 52 [.L 3] (.p (.one (.v 0))) ⟨0,0,0,1,0,0⟩
 (.C 51 [(.agg [.U 13,.J 14,.J 15,.J 16,.J 17,(.s (.x 2)),(.sl (.x 2))]),(.one (.v 0))] (.p (.B 3)) ⟨0,1,0,0,0,0⟩
 (.ite (.not (.x 3))
 (.ret (.p (.one (.b (.c false)))))
 (.need (.lt (.c 0) (.x 6)) (.X (.x 6) (.x 0))
 (.load (.lt (.c 0) (.x 6)) (.el (.x 0) (.x 6) 6 0) 6 [.U 18,.J 19,.J 20,.J 21,.J 22,(.s (.x 3))] ⟨5,0,1,0,0,0⟩
 (.call (.lt (.c 0) (.x 6)) false 49 [(.agg [.U 18,.J 19,.J 20,.J 21,.J 22,(.s (.x 3))])] (.p (.B 4)) ⟨0,1,0,0,0,0⟩
 (.call (.and (.lt (.c 0) (.x 6)) (.x 4)) false 53 [(.agg [.U 13,.J 14,.J 15,.J 16,.J 17,(.s (.x 2)),(.sl (.x 2))])] (.p (.B 5)) ⟨0,1,0,0,0,0⟩
 (.ite (.and (.lt (.c 0) (.x 6)) (.or (.not (.x 4)) (.not (.x 5))))
 (.ret (.p (.one (.b (.c false)))))
 (.N (.R (.add (.x 6) (.c 1)))
 (.again 0 ⟨6,2,1,0,1,0⟩ ⟨7,3,1,0,1,0⟩ ⟨[(.add (.x 6) (.c 1))],[(.x 2)],[],[],[],[]⟩)))))))))))
 (.need (.lt (.c 0) (.x 6)) (.X (.x 6) (.x 0))
 (.load (.lt (.c 0) (.x 6)) (.el (.x 0) (.x 6) 6 0) 6 [.U 18,.J 19,.J 20,.J 21,.J 22,(.s (.x 3))] ⟨5,0,1,0,0,0⟩
 (.call (.lt (.c 0) (.x 6)) false 49 [(.agg [.U 18,.J 19,.J 20,.J 21,.J 22,(.s (.x 3))])] (.p (.B 3)) ⟨0,1,0,0,0,0⟩
 (.call (.and (.lt (.c 0) (.x 6)) (.x 3)) false 53 [(.agg [.U 13,.J 14,.J 15,.J 16,.J 17,(.s (.x 2)),(.sl (.x 2))])] (.p (.B 4)) ⟨0,1,0,0,0,0⟩
 (.ite (.and (.lt (.c 0) (.x 6)) (.or (.not (.x 3)) (.not (.x 4))))
 (.ret (.p (.one (.b (.c false)))))
 (.N (.R (.add (.x 6) (.c 1)))
 (.again 0 ⟨6,2,1,0,1,0⟩ ⟨7,3,1,0,1,0⟩ ⟨[(.add (.x 6) (.c 1))],[(.x 2)],[],[],[],[]⟩)))))))))))))
 (.ret (.p (.one (.b (.c true)))))))))))))))
theorem Hz:aU ⟨true,[]⟩ Tryz.prog (fun l=>([⟨[2,26],[27,28,3,29,30,31,32,33,4,34,35,36,37,38,39,40,41,6,42,43,44,45,46,47,48,49,50,51,53,54,55,56,57,58,59,60,61,52,63,64,65,66,67,68,69,70,71,72,73,74,75,76,77,62,78],[4]⟩,⟨[38],[39,40,41,6,42,43,44,45,46,47,48,49,50,51],[4]⟩]:List bG).getD l ⟨[],[],[]⟩) Tryz.f24=DR:=by kernel_rfl
theorem OJ:az Tryz.prog .zero Tryz.f24.params.toList=some ([.L 0],⟨0,0,0,0,1,0⟩):=by kernel_rfl
def KF (h:Hp) (sl:bM) (t:Tr) (x0:Ng) (o:Nat) (C:Ctx):Prop:=
 match o with
 | 0=>∃ (j:Nat) (k0:Int) (b0 b1 bb:Bool) (k:Hp),C=⟨[k0,x0.k,x0.l,x0.c,x0.z,x0.n,j],[b0,b1,bb],[x0.x],[],[sl],[],k,cu⟩/\j<=t.n/\bY h k/\tN 0 t.subs=tN j (t.subs.drop j)
 | _=>∃ (j m:Nat) (k0:Int) (b0 b1 bb:Bool) (k:Hp) (x:Ng) (s:Tr) (ksl s':bM),C=⟨[k0,x0.k,x0.l,x0.c,x0.z,x0.n,j,x.k,x.l,x.c,x.z,x.n,m,x.k,x.l,x.c,x.z,x.n],[b0,b1,bb],[x0.x,x.x,x.x],[],[sl,ksl,s'],[],k,cu⟩/\
  t.subs[j]? = some s/\x=s.g/\bY h k/\iy k ksl (places ((j:Int)+1) s.kl)/\m<=s.kl.length/\dC k s' (lI ((s.kl.map Tr.g).take m)) 52 6/\s'.n=m/\(∀ y,s'.a=some y->h y.1=none/\∀ z,ksl.a=some z->z.1≠y.1)
def Oh (t:Tr) (o:Nat) (C:Ctx):Nat:=match o with
 | 0=>((t.n:Int) - C.i.getD 6 0).toNat
 | _=>(((C.l.getD 1 ⟨none,0,0⟩).n:Int) - C.i.getD 12 0).toNat
theorem X6:∀ t:Tr,∃ k l c n x,t=.nd k l c n x t.kl/\t.g=⟨k,l,c,(Tr.ns t.kl:Nat),n,x⟩
 | .nd k l c n x _=>⟨k,l,c,n,x,rfl,rfl⟩
theorem uO:∀ (ts:List Tr) (p:Nat) {l:List Ng} (_:EO l p ts) (m:Nat) (hm:m<ts.length),∃ q:Nat,(places (p:Nat) ts)[m]? = some (q:Int)/\Ps l q ts[m]
 | [],_,_,_,m,hm=>by simp at hm
 | t::ts,p,l,P,0,_=>⟨p,rfl,P.cons.1⟩
 | t::ts,p,l,P,m+1,hm=>by
   obtain⟨q,h1,h2⟩:=uO ts (p+t.n) P.cons.2 m (by simpa using hm);refine⟨q,?_,by simpa using h2⟩;rw[places,List.getElem?_cons_succ,show ((p:Nat):Int)+(t.n:Nat)=((p+t.n:Nat):Int) by omega];exact h1
set_option maxHeartbeats 16000000 in
def DI:Ct Tryz.prog where
 f:=24
 spec:=fun args h φ=>∃ sl l,args=[bM.val sl]/\NG h sl l/\l.length<=1000000/\((jo l=false/\φ (.bool false) h)\/∃ t:Tr,l=t.gs/\φ (.bool (gJ t)) h)
 ok:=by
  rintro args h φ w ⟨sl,l,rfl,R,hl,hφ⟩ hH;have hn:=NG.n R;rcases hφ with ⟨hr,hφ⟩ | ⟨t,rfl,hφ⟩
  ·
   refine bQ (aZ Tryz.func24 Hz OJ [jD] (fun v k=>∃ k',bY k' k/\φ v k') (bJ) (aV) ⟨[],[],[],[],[sl],[],h,cu⟩ ⟨rfl,rfl,rfl,rfl,rfl,rfl⟩ af ?_ w hH rfl);generalize hE:(⟨aG _,_,_,_⟩:Env)=E;have sbf:E.spec 23=(jD).spec:=by rw[<- hE];rfl
   have ep:E.post=(fun v k=>∃ k',bY k' k/\φ v k'):=by rw[<- hE]
   clear hE;unfold DR;rw[ax,if_pos (by rfl),sbf];refine⟨sl,l,rfl,R,hl,?_⟩;rw[hr];refine rR ⟨[],[false],[],[],[],[]⟩ rfl af rfl ?_;rw[ae];refine gz (fun g=>by simp[go_sem] at g) ?_;rw[ae];refine gz (fun g=>by simp[go_sem] at g) ?_;rw[bP,if_neg (by simp[go_sem]),ae];refine gz (fun g=>by simp[go_sem] at g) ?_;rw[bP,if_neg (by simp[go_sem]),ae,ax,if_neg (by simp[go_sem]),ae,ak,if_pos (by simp[go_sem])];rw[aj,ep];exact⟨h,fun _ _ h=>h,hφ⟩
  have htn:t.gs.length=t.n:=iD t;have htpos:0<t.n:=by rw[nD];omega
  obtain⟨gr,hgr,_⟩:=qj t;have hg0:t.gs[0]? = some t.g:=by rw[hgr];rfl
  obtain⟨hg1,hg2⟩:=List.getElem?_eq_some_iff.1 hg0;obtain⟨b,o,ha⟩:=Rows.nn R (j:=0) (by omega);have hr0:=NG.node R hg1 ha;rw[hg2] at hr0;have hr1:=Rows.read (off:=0) (m:=1) R (j:=0) (by omega) (by omega) ha;rw[Nat.add_zero,eP hg1,hg2] at hr1;have hR:=pU t;have P0:Ps t.gs 0 t:=⟨[],[],by simp,rfl⟩;unfold gJ at hφ;generalize hx0:t.g=x0 at *;refine bQ (aZ Tryz.func24 Hz OJ [jD,AC,TD,vJ,uC,Fz] (fun v k=>∃ k',bY k' k/\φ v k') (KF h sl t x0) (fun o C=>Oh t o C) ⟨[],[],[],[],[sl],[],h,cu⟩ ⟨rfl,rfl,rfl,rfl,rfl,rfl⟩ af ?_ w hH rfl);generalize hE:(⟨aG _,_,_,_⟩:Env)=E;have sbf:E.spec 23=(jD).spec:=by rw[<- hE];rfl
  have sbg:E.spec 49=(AC).spec:=by rw[<- hE];rfl
  have sbh:E.spec 50=(TD).spec:=by rw[<- hE];rfl
  have sb8:E.spec 52=(vJ).spec:=by rw[<- hE];rfl
  have sbb:E.spec 51=(uC).spec:=by rw[<- hE];rfl
  have sbi:E.spec 53=(Fz).spec:=by rw[<- hE];rfl
  have ep:E.post=(fun v k=>∃ k',bY k' k/\φ v k'):=by rw[<- hE]
  have ei:E.inv=(KF h sl t x0):=by rw[<- hE]
  have em:E.meas=(fun o C=>Oh t o C):=by rw[<- hE]
  clear hE;unfold DR;have fin:∀ (C:Ctx) (b:Bool),bY h C.h->φ (.bool b) h->Then E (.ret (.p (.one (.b (.c b))))) C:=by
   intro C b hC hb;rw[aj,ep];exact⟨h,hC,hb⟩
  rw[ax,if_pos (by rfl),sbf];refine⟨sl,t.gs,rfl,R,hl,?_⟩;rw[hR];refine rR ⟨[],[true],[],[],[],[]⟩ rfl af rfl ?_;rw[ae];refine gz (fun g=>by simp[go_sem,ha];omega) ?_;rw[ae];refine gz (fun g=>by simp[go_sem,ha]) ?_;refine rL ⟨[x0.k],[],[],[],[],[]⟩ rfl af (by simpa[go_sem,ha,Ng.cs] using hr1) ?_;by_cases hk1:x0.k=1;rotate_left
  . rw[decide_eq_false hk1] at hφ;rw[ae];refine gz (fun g=>by simp[go_sem,hk1] at g) ?_;rw[bP,if_neg (by simp[go_sem,hk1]),ae,ax,if_neg (by simp[go_sem,hk1]),ae,ak,if_pos (by simp[go_sem])];exact fin _ _ (fun _ _ h=>h) hφ
  rw[decide_eq_true hk1,Bool.true_and] at hφ;rw[ae];refine gz (fun g=>by simp[go_sem,ha];omega) ?_;rw[bP,if_pos (by simp[go_sem,hk1])];refine (bn _ _).2 ⟨⟨[x0.k,x0.l,x0.c,x0.z,x0.n],[],[x0.x],[],[],[]⟩,rfl,af,by simpa[go_sem,ha,Ng.cs] using hr0,?_⟩;rw[bD,if_pos (by simp[go_sem,hk1]),sbg];refine⟨x0,rfl,?_⟩;refine rR ⟨[],[fieldsB x0],[],[],[],[]⟩ rfl af rfl ?_;cases hf0:fieldsB x0 with
  | false=>
    rw[hf0] at hφ;rw[ah,if_pos (by simp[go_sem])];exact fin _ _ (fun _ _ h=>h) hφ
  | true=>
  rw[hf0,Bool.true_and] at hφ;rw[ah,if_neg (by simp[go_sem,hk1]),ae];clear hr0 hr1;refine bH ?_ ?_
  . rw[ei];exact⟨0,x0.k,true,true,false,h,rfl,by omega,fun _ _ h=>h,rfl⟩
  rw[ei,em];rintro i bbs ss v ll pp hh M ⟨j,k0,b0,b1,bb,k,hC,hj,hle,hok⟩ hM;cases hC;have hM':M 0=((t.n:Int) - j).toNat:=hM;clear hM;by_cases hjl:j<t.n;rotate_left
  . have hz2:¬ ((j:Int)<sl.n):=by omega
    rw[ak,if_neg (by simpa[go_sem] using hz2)];rw[List.drop_eq_nil_of_le (by rw[pY];omega),tN] at hok;rw[hok] at hφ;exact fin _ _ hle hφ
  have hz2:((j:Int)<sl.n):=by omega
  have hjs:j<t.subs.length:=by rw[pY];exact hjl
  have hsj:t.subs[j]? = some t.subs[j]:=List.getElem?_eq_getElem hjs;have P:=ED t P0 j _ hsj;rw[Nat.zero_add] at P;rw[List.drop_eq_getElem_cons hjs,tN] at hok;generalize t.subs[j]=s at *;obtain⟨hp1,hp2⟩:=P.node;have hplt:=P.lt;have R1:=NG.le R hle;have hnd:=NG.node R1 hp1 ha;rw[hp2] at hnd;rw[ak,if_pos (by simpa[go_sem] using hz2)];rw[ag];refine⟨by simp[go_sem,ha]<;>omega,?_⟩;refine rL ⟨[s.g.k,s.g.l,s.g.c,s.g.z,s.g.n],[],[s.g.x],[],[],[]⟩ rfl af (by simpa[go_sem,ha,Ng.cs] using hnd) ?_;obtain⟨sk,sll,sc,sn,sx,hse,hsg⟩:=X6 s;have hns:s.n=Tr.ns s.kl+1:=by rw[hse,nD,Tr.sz,jq];rfl
  have hkl:=yZ s.kl;have PK:EO t.gs (j+1) s.kl:=by rw[hse] at P;exact P.kids
  have hkP:iq t.gs ((j:Nat)+(Tr.ns s.kl:Nat)) s.kl.length ((j:Nat)+1)=some (places ((j:Nat)+1) s.kl):=by
   rw[hse] at P;exact P.iq (Nat.le_refl _)
  rw[ai,sbh];refine⟨sl,t.gs,j,((Tr.ns s.kl:Nat):Int),s.kl.length,_,rfl,R1,hl,by omega,⟨s.g,by rw[List.getElem?_eq_getElem hp1,hp2],by rw[hsg]⟩,by omega,by omega,hkP,fun ksl k2 hle2 hko hkn=>?_⟩;have hle2':bY hh k2:=hle2;refine rR ⟨[],[],[],[],[ksl],[]⟩ rfl af rfl ?_;have KR:=iy.own hko hkn;generalize hxs:s.g=x at *;rw[ae];refine xm ?_ ?_
  . rw[ei];exact⟨j,0,k0,b0,b1,bb,k2,x,s,ksl,⟨none,0,0⟩,rfl,hsj,hxs.symm,bY.trans hle hle2',KR,Nat.zero_le _,.inl ⟨rfl,by simp[lI]⟩,rfl,fun y hy=>(by cases hy)⟩
  rintro⟨xi,xb,xs,xv,xl,xp⟩ h' M' hc hinv hm hM1;rw[ei] at hinv;rw[em] at hm;clear KR hkP R1 hnd hle hle2 hle2' hko hkn;obtain⟨j2,m,k0',b0',b1',bb',k,x',s2,ksl',s',hC,q1,q2,hle,KR,hmk,hown,hsn,hfr⟩:=hinv;simp[Ctx.push,Ctx.heap,Ctx.bare] at hC;obtain⟨⟨rfl,hj2,-,-,-,-,-,rfl⟩,⟨rfl,rfl,rfl,rfl⟩,⟨-,rfl⟩,rfl,⟨rfl,rfl⟩,rfl,rfl⟩:=hC;obtain rfl:j2=j:=by omega
  rw[hsj] at q1;cases q1;rw[hxs] at q2;obtain rfl:x=x':=q2.symm;clear hj2 hc;have hm':M' 1=((ksl.n:Int) - m).toNat:=hm;have hM0:M' 0=((t.n:Int) - j2).toNat:=(hM1 0 (by decide)).trans hM';clear hm hM1 hM';have hkn:ksl.n=s.kl.length:=by rw[KR.n,dn]
  have R1:=NG.le R hle;by_cases hml:m<s.kl.length
  . have hz3:(m:Int)<ksl.n:=by omega
    obtain⟨q,hq1,Pq⟩:=uO s.kl (j2+1) PK m hml;obtain⟨hq2,hq3⟩:=List.getElem?_eq_some_iff.1 hq1;obtain⟨b2,o2,hka,hkr⟩:=KR.read (j:=m) hq2;have hq3':(places ((j2:Int)+1) s.kl)[m]'hq2=(q:Int):=hq3;rw[hq3'] at hkr;obtain⟨hpq,hpq2⟩:=Pq.node;have hndq:=NG.node R1 hpq ha;rw[hpq2] at hndq;have htake:(s.kl.map Tr.g).take (m+1)=(s.kl.map Tr.g).take m++[(s.kl[m]).g]:=by rw[List.take_succ_eq_append_getElem (by simpa using hml)];simp
    generalize (s.kl[m]).g=y at *;rw[ak,if_pos (by simpa[go_sem] using hz3)];rw[ag];refine⟨by simp[go_sem,hka]<;>omega,?_⟩;refine rL ⟨[(q:Int)],[],[],[],[],[]⟩ rfl af (by simpa[go_sem,hka] using hkr) ?_;refine rL ⟨[y.k,y.l,y.c,y.z,y.n],[],[y.x],[],[],[]⟩ rfl af (by simpa[go_sem,ha,Ng.cs] using hndq) ?_;rw[ag];refine⟨by simp[go_sem,ha]<;>omega,?_⟩;rw[ae,aW];intro b3 hb3;have hb3':h' b3=none:=hb3;rw[ae,bT];have hle3:=dU hb3' ⟨y.cs,52⟩;refine⟨lI ((s.kl.map Tr.g).take m),y.cs,uM hown hle3,.inr ⟨by simp[go_sem],?_⟩,?_,?_,?_,?_⟩
    . simp[go_sem,Ng.cs]
    . intro u hu;simp[Ng.cs] at hu;rcases hu with rfl | rfl | rfl | rfl | rfl | rfl<;>rfl
    . show s'.n+1<=maxLen;unfold maxLen;omega
    . show (s'.n+1)*56<=_;omega
    intro s3 k3 g1 g2 g3 g4;have g2':s3.n=s'.n+1:=g2;have hle4:bY h k3:=fun c oo hc=>g4 c oo (fun y hy e=>by
     have:=(hfr y hy).1;rw[e,hc] at this;cases this) (hle3 _ _ (hle _ _ hc))
    have hnone:∀ c,(h'.set b3 ⟨y.cs,52⟩) c=none->h' c=none:=fun c hc=>uI hb3' hc
    rw[aA];refine⟨by simp[go_sem];omega,?_⟩;rw[ae,says_again,ei,em];refine⟨⟨j2,m+1,k0,b0,b1,bb,k3,x,s,ksl,s3,rfl,hsj,hxs.symm,hle4,?_,by omega,by rw[htake,xg];simpa[lI] using g1,by rw[g2',hsn],fun q4 hq4=>?_⟩,?_⟩
    . refine⟨KR.n,KR.c,KR.at_.imp id fun ⟨c,o4,ob,h1,h2,h3⟩=>⟨c,o4,ob,h1,g4 c ob (fun y hy e=>(hfr y hy).2 _ h1 e.symm) (hle3 _ _ h2),h3⟩⟩
    . rcases g3 q4 hq4 with ⟨q5,hq5,e⟩ | hn5
      . rw[<- e];exact hfr q5 hq5
      . have hn6:=hnone _ hn5;refine⟨?_,fun z hz e=>?_⟩
        . cases hh2:h q4.1 with
          | none=>rfl
          | some oo=>rw[hle _ _ hh2] at hn6;cases hn6
        . rcases KR.at_ with h0 | ⟨c,o4,ob,h1,h2,_⟩
          . have:(places ((j2:Int)+1) s.kl).length=0:=by rw[h0];rfl
            rw[dn] at this;omega
          . rw[h1] at hz;cases hz;simp only at e;rw[<- e,h2] at hn6;cases hn6
    . show (((ksl.n:Int) - ((m:Int)+1)).toNat)<M' 1;omega
  have hz3:¬ ((m:Int)<ksl.n):=by omega
  rw[ak,if_neg (by simpa[go_sem] using hz3)];obtain rfl:m=s.kl.length:=by omega
  rw[List.take_of_length_le (by simp)] at hown;have NR:NG h' s' (s.kl.map Tr.g):=Rows.y7 hown;have hsc:s'.n<=s'.c:=by
   rcases hown with ⟨h1,_⟩ | ⟨_,_,_,_,_,_,h5,_⟩
   . rw[h1];exact Nat.le_refl _
   . exact h5
  have hgo:tN 0 t.subs=tN (j2+1) (t.subs.drop (j2+1))->∀ (k5:Hp) (bb2:Bool),bY h k5->KF h sl t x0 0 ⟨[k0,x0.k,x0.l,x0.c,x0.z,x0.n,(j2:Int)+1],[b0,b1,bb2],[x0.x],[],[sl],[],k5,cu⟩:=fun h1 k5 bb2 h2=>
   ⟨j2+1,k0,b0,b1,bb2,k5,rfl,by omega,h2,h1⟩
  have hms:((t.n:Int) - ((j2:Int)+1)).toNat<M' 0:=by omega
  by_cases hj0:j2=0
  . have hjz:(j2:Int)=0:=by omega
    have hok0:okI j2 s=(s.kl.map Tr.g).all (wO [2,4]):=by unfold okI;rw[if_pos hj0]
    rw[hok0] at hok;rw[ah,if_pos (by simpa[go_sem] using hjz)];rw[ae,aW];intro b3 hb3;have hb3':h' b3=none:=hb3;have hle3:=fun o=>dU hb3' o
    rw[ai,sb8];refine⟨_,rfl,fun pb kb Tb hkb hpb=>?_⟩;refine⟨fun h=>(by cases h),(bn _ _).2 ⟨⟨[],[],[],[_],[],[]⟩,rfl,by intro u hu;simp at hu;subst hu;rfl,rfl,?_⟩⟩;have hlekb:bY h' kb:=bY.trans (hle3 _) hkb;have hro:Rows kb ⟨some (b3,0),2,2⟩ (Kw [2,4]) 1:=kG (hkb _ _ (ay _ _ _)) rfl;have hw:=oz hpb hro (by decide);rw[ai,sbb];refine⟨x,s',s.kl.map Tr.g,_,_,rfl,NR.le hlekb,by rw[List.length_map];omega,hw,?_⟩;refine rR ⟨[],[(s.kl.map Tr.g).all (wO [2,4])],[],[],[],[]⟩ rfl af rfl ?_;have hlef:bY h kb:=bY.trans hle hlekb;cases hall:(s.kl.map Tr.g).all (wO [2,4]) with
    | false=>
      rw[hall,Bool.false_and] at hok;rw[hok] at hφ;rw[ah,if_pos (by simp[go_sem])];exact fin _ _ hlef hφ
    | true=>
      rw[hall,Bool.true_and] at hok;rw[ah,if_neg (by simp[go_sem]),ae];refine gz (fun g=>by simp[go_sem,hjz] at g) ?_;rw[bP,if_neg (by simp[go_sem,hjz]),ae,ax,if_neg (by simp[go_sem,hjz]),ae,ax,if_neg (by simp[go_sem,hjz]),ae,ak,if_neg (by simp[go_sem,hjz])];rw[ag];refine⟨by simp[go_sem]<;>omega,?_⟩;rw[ae,says_again,ei,em];exact⟨hgo hok kb _ hlef,hms⟩
  . have hjz:¬ (j2:Int)=0:=by omega
    have hjp:(0:Int)<(j2:Int):=by omega
    have hjp':0<j2:=by omega
    have hok0:okI j2 s=(fieldsB x&&dR x.k x.n (s.kl.map Tr.g)):=by unfold okI;rw[if_neg hj0,hxs]
    rw[hok0] at hok;have hnd:=NG.node R1 hp1 ha;rw[hp2] at hnd;rw[ah,if_neg (by simpa[go_sem] using hjz),ae];refine gz (fun g=>by simp[go_sem,ha];omega) ?_;rw[bP,if_pos (by simpa[go_sem] using hjp)];refine (bn _ _).2 ⟨⟨[x.k,x.l,x.c,x.z,x.n],[],[x.x],[],[],[]⟩,rfl,af,by simpa[go_sem,ha,Ng.cs] using hnd,?_⟩;rw[bD,if_pos (by simpa[go_sem] using hjp),sbg];refine⟨x,rfl,?_⟩;refine rR ⟨[],[fieldsB x],[],[],[],[]⟩ rfl af rfl ?_;cases hf:fieldsB x with
    | false=>
      rw[hf,Bool.false_and,Bool.false_and] at hok;rw[hok] at hφ;rw[bD,if_neg (by simp[go_sem]),ae,ak,if_pos (by simp[go_sem,hjp'])];exact fin _ _ hle hφ
    | true=>
      rw[hf,Bool.true_and] at hok;rw[bD,if_pos (by simp[go_sem,hjp']),sbi];refine⟨x,s',s.kl.map Tr.g,rfl,NR,by rw[List.length_map];omega,hsc,?_⟩;refine rR ⟨[],[dR x.k x.n (s.kl.map Tr.g)],[],[],[],[]⟩ rfl af rfl ?_;cases hrb:dR x.k x.n (s.kl.map Tr.g) with
      | false=>
        rw[hrb,Bool.false_and] at hok;rw[hok] at hφ;rw[ah,if_pos (by simp[go_sem,hjp'])];exact fin _ _ hle hφ
      | true=>
        rw[hrb,Bool.true_and] at hok;rw[ah,if_neg (by simp[go_sem])];rw[ag];refine⟨by simp[go_sem]<;>omega,?_⟩;rw[ae,says_again,ei,em];exact⟨hgo hok h' _ hle,hms⟩
def He:Fm:=(.N (.R (.add (.cnt (.x 0)) (.cnt (.x 1))))
 (.N (.R (.add (.add (.cnt (.x 0)) (.cnt (.x 1))) (.c 4)))
 (.N (.R (.add (.add (.cnt (.x 0)) (.cnt (.x 1))) (.c 3)))
 (.N (.R (.add (.add (.cnt (.x 0)) (.cnt (.x 1))) (.c 1)))
 (.mk [(.i .u8 (.c 1)),(.i .i64 (.c 0)),(.i .i64 (.c 0)),(.i .i64 (.add (.add (.cnt (.x 0)) (.cnt (.x 1))) (.c 4))),(.i .i64 (.c 0)),(.s (.c [])),(.i .u8 (.c 4)),(.i .i64 (.c 0)),(.i .i64 (.c 0)),(.i .i64 (.add (.add (.cnt (.x 0)) (.cnt (.x 1))) (.c 3))),(.i .i64 (.c 0)),(.s (.c [102])),(.i .u8 (.c 14)),(.i .i64 (.c 0)),(.i .i64 (.c 0)),(.i .i64 (.c 0)),(.i .i64 (.c 0)),(.s (.c [])),(.i .u8 (.c 6)),(.i .i64 (.c 0)),(.i .i64 (.c 0)),(.i .i64 (.add (.add (.cnt (.x 0)) (.cnt (.x 1))) (.c 1))),(.i .i64 (.c 0)),(.s (.c [])),.U 0,(.i .i64 (.c 0)),(.i .i64 (.c 0)),(.i .i64 (.add (.cnt (.x 0)) (.cnt (.x 1)))),(.i .i64 (.c 0)),(.s (.c []))] 52 5
 (.app (.x 2) (.x 1) 6 56 52
 (.app (.x 3) (.x 0) 6 56 52
 (.ret (.p (.L 4))))))))))
theorem QL:aU ⟨true,[]⟩ Tryz.prog (fun l=>([]:List bG).getD l ⟨[],[],[]⟩) Tryz.f25=He:=by kernel_rfl
theorem V9:az Tryz.prog .zero Tryz.f25.params.toList=some ([.L 0,(.one (.U 0)),.L 1],⟨1,0,0,0,2,0⟩):=by kernel_rfl
def BD:Fm:=(.C 23 [.L 0] (.p (.B 0)) ⟨0,1,0,0,0,0⟩
 (.call (.x 0) false 25 [.L 0,(.one (.i .u8 (.c 12))),(.one (.sl .nil))] (.p (.L 1)) ⟨0,0,0,0,1,0⟩
 (.call (.x 0) false 24 [.L 1] (.p (.B 1)) ⟨0,1,0,0,0,0⟩
 (.ite (.or (.not (.x 0)) (.not (.x 1)))
 (.ret (.tup [.W [],(.I (.c 1))]))
 (.new [(.sl (.x 0)),(.c .nilp),(.sl .nil),(.i .i64 (.c 0))] 48
 (.V 26 [.P 0,(.I (.c 0))]
 (.Z 0
 (.Z 0
 (.C 27 [(.one (.adr (.pt 0 1)))] (.p (.S 0)) ⟨0,0,1,0,0,0⟩
 (.ret (.tup [.S 0,(.I (.c 0))])))))))))))
theorem JZ:aU ⟨true,[16]⟩ Tryz.prog (fun l=>([]:List bG).getD l ⟨[],[],[]⟩) Tryz.f9=BD:=by kernel_rfl
theorem Ru:az Tryz.prog .zero Tryz.f9.params.toList=some ([.L 0],⟨0,0,0,0,1,0⟩):=by kernel_rfl
def hd5 (kind n:Int):List Ng:=[⟨1,0,0,n+4,0,[]⟩,⟨4,0,0,n+3,0,[102]⟩,⟨14,0,0,0,0,[]⟩,⟨6,0,0,n+1,0,[]⟩,⟨kind,0,0,n,0,[]⟩]
def fU (kind:Int) (t:Tr):Tr:=.nd 1 0 0 0 [] [.nd 4 0 0 0 [102] [.nd 14 0 0 0 [] [],.nd 6 0 0 0 [] [.nd kind 0 0 0 [] [t]]]]
theorem qc (kind:Int) (t:Tr):(fU kind t).gs=hd5 kind t.n++t.gs:=by
 unfold fU hd5;simp only[jc,dB,aI,bF,QQ,show Tr.mP []=[] from rfl,List.append_nil,List.nil_append,List.cons_append];simp only[List.cons.injEq,Ng.mk.injEq,and_true,true_and];omega
theorem Ip (l:List Ng):eG (lI l):=by
 intro u hu;unfold lI at hu;obtain⟨x,_,hx⟩:=List.mem_flatMap.1 hu;simp only[Ng.cs,List.mem_cons,List.not_mem_nil,or_false] at hx;rcases hx with rfl | rfl | rfl | rfl | rfl | rfl<;>rfl
theorem NG.rd {h:Hp} {sl:bM} {l:List Ng} (R:NG h sl l):RdS h sl (lI l) 6:=by
 have hn:=NG.n R;rcases R.2 with h0 | hr
 . refine .inl ⟨h0,?_⟩;have:l=[]:=List.eq_nil_of_length_eq_zero (by omega);rw[this];rfl
 . refine .inr ⟨?_,hr⟩;intro e;rw[e] at hr;cases hr
set_option maxHeartbeats 4000000 in
def Nj:Ct Tryz.prog where
 f:=25
 spec:=fun args h φ=>∃ sl l kind,args=[bM.val sl,.int .u8 kind,(bM.mk none 0 0).val]/\NG h sl l/\l.length<=1000000/\∀ s' k,bY h k->dC k s' (lI (hd5 kind l.length++l)) 52 6->s'.n=l.length+5->φ s'.val k
 ok:=by
  rintro args h φ w ⟨sl,l,kind,rfl,R,hl,hφ⟩ hH;have hn:=NG.n R;refine aZ Tryz.func25 QL V9 [] φ (bJ) (aV) ⟨[kind],[],[],[],[sl,⟨none,0,0⟩],[],h,cu⟩ ⟨rfl,rfl,rfl,rfl,rfl,rfl⟩ af ?_ w hH rfl;generalize hE:(⟨aG _,_,_,_⟩:Env)=E;have ep:E.post=φ:=by rw[<- hE]
  clear hE;unfold He;rw[<- ae];rw[ag];refine⟨by simp[go_sem]<;>omega,?_⟩;rw[ag];refine⟨by simp[go_sem]<;>omega,?_⟩;rw[ag];refine⟨by simp[go_sem]<;>omega,?_⟩;rw[ag];refine⟨by simp[go_sem]<;>omega,?_⟩;rw[ae,aW];intro b hb;have hb':h b=none:=hb;have hcs:∀ m:Int,m=l.length->[Value.int .u8 1,.int .i64 0,.int .i64 0,.int .i64 (m+0+4),.int .i64 0,.string (B []),.int .u8 4,.int .i64 0,.int .i64 0,.int .i64 (m+0+3),.int .i64 0,.string (B [102]),.int .u8 14,.int .i64 0,.int .i64 0,.int .i64 0,.int .i64 0,.string (B []),.int .u8 6,.int .i64 0,.int .i64 0,.int .i64 (m+0+1),.int .i64 0,.string (B []),.int .u8 kind,.int .i64 0,.int .i64 0,.int .i64 (m+0),.int .i64 0,.string (B [])]=lI (hd5 kind l.length):=by
   rintro m rfl;simp[lI,hd5,Ng.cs]
  have hle1:=dU hb' ⟨lI (hd5 kind l.length),52⟩;have hm:(sl.n:Int)=l.length:=by omega
  have heq:(⟨[Value.int .u8 1,.int .i64 0,.int .i64 0,.int .i64 ((sl.n:Int)+0+4),.int .i64 0,.string (B []),.int .u8 4,.int .i64 0,.int .i64 0,.int .i64 ((sl.n:Int)+0+3),.int .i64 0,.string (B [102]),.int .u8 14,.int .i64 0,.int .i64 0,.int .i64 0,.int .i64 0,.string (B []),.int .u8 6,.int .i64 0,.int .i64 0,.int .i64 ((sl.n:Int)+0+1),.int .i64 0,.string (B []),.int .u8 kind,.int .i64 0,.int .i64 0,.int .i64 ((sl.n:Int)+0),.int .i64 0,.string (B [])],52⟩:HO)=⟨lI (hd5 kind l.length),52⟩:=by rw[hcs _ hm]
  have hl5:(lI (hd5 kind l.length)).length=30:=by rw[lJ];rfl
  rw[ae,bT];refine⟨lI (hd5 kind l.length),[],.inr ⟨b,⟨lI (hd5 kind l.length),52⟩,rfl,(ay _ _ _).trans (congrArg some heq),rfl,hl5,Nat.le_refl _,?_,?_⟩,.inl ⟨rfl,rfl⟩,fun u hu=>(by cases hu),?_,?_,?_⟩
  . show 5<=maxLen;unfold maxLen;omega
  . exact (List.take_of_length_le (by rw[hl5];show 30<=5*6;omega)).symm
  . show 5+0<=maxLen;unfold maxLen;omega
  . show (5+0)*56<=_;omega
  intro s1 k1 g1 g2 g3 g4;have g2':s1.n=5:=g2;rw[List.append_nil] at g1;have keep1:bY h k1:=fun c o hc=>g4 c o (fun x hx e=>by
   have hx':some (b,0)=some x:=hx;cases hx';simp only at e;rw[<- e,hb'] at hc;cases hc) (by
    show (h.set b _) c=_;rw[bf _ (fun e=>by rw[e,hb'] at hc;cases hc)];exact hc)
  have fr1:∀ y,s1.a=some y->h y.1=none:=fun y hy=>by
   rcases g3 y hy with ⟨z,hz,e⟩ | hn1
   . have hz':some (b,0)=some z:=hz;cases hz';rw[<- e];exact hb'
   . exact uI hb' hn1
  have R1:=NG.le R keep1;rw[bT];refine⟨lI (hd5 kind l.length),lI l,g1,R1.rd,Ip l,?_,?_,?_⟩
  . show s1.n+sl.n<=maxLen;unfold maxLen;omega
  . show (s1.n+sl.n)*56<=_;omega
  intro s2 k2 q1 q2 q3 q4;have q2':s2.n=s1.n+sl.n:=q2;rw[au,ep];refine hφ s2 k2 (fun c o hc=>q4 c o (fun x hx e=>?_) (keep1 c o hc)) ?_ (by omega)
  . have:=fr1 x hx;rw[e,hc] at this;cases this
  . rw[xg];exact q1
theorem YN {h:Hp} {b:Nat} {lsl:bM} {l:List Ng} (R:NG h lsl l) (hl:l≠[]) (hb:h b=none):zV (h.set b ⟨prn b lsl false ⟨none,0,0⟩ 0,qN⟩) b lsl l false ⟨none,0,0⟩ 0 []:=by
 have hn:=NG.n R;have hp:0<l.length:=List.length_pos_iff.2 hl;obtain⟨c,o,ha⟩:=Rows.nn R (j:=0) (by omega);have hr:=NG.node R hp ha;refine⟨⟨ay _ _ _,.inl ⟨rfl,rfl⟩,rfl,fun z hz=>(by cases hz),fun _=>rfl,fun hz=>absurd rfl hz⟩,R.le (dU hb _),hl,fun z hz e=>?_,fun z y _ hy=>(by cases hy)⟩;rw[ha] at hz;cases hz;simp only at e;unfold hread at hr;simp only at hr;rw[e,hb] at hr;cases hr
theorem KZ {h k k':Hp} {b:Nat} {sl':bM} {o:HO} (hle:bY h k) (hb:k b=none) (G:wF (k.set b o) k' b ⟨none,0,0⟩ sl'):bY h (k'.drop sl'):=fun c oo hc=>by
 have hk:=hle c oo hc;have hcb:c≠b:=fun e=>by rw[e,hb] at hk;cases hk
 have hk':(k.set b o) c=some oo:=by rw[bf _ hcb];exact hk
 have h3:=G.keep c oo hcb (fun z hz=>by cases hz) hk';unfold Hp.drop;cases hs:sl'.a with
 | none=>exact h3
 | some z=>
   have hzc:c≠z.1:=fun e=>by
    rcases G.new z hs with ⟨y,hy,_⟩ | hn
    . cases hy
    . rw[<- e,hk'] at hn;cases hn
   show (k'.del z.1) c=some oo;unfold Hp.del;rw[if_neg hzc];exact h3
def abx:Value:=.tuple #[.string (B []),.int .i64 1]
def yOk (s:List UInt8):Value:=.tuple #[.string (B s),.int .i64 0]
set_option maxHeartbeats 4000000 in
def sN:Ct Tryz.prog where
 f:=9
 spec:=fun args h φ=>∃ sl l,args=[bM.val sl]/\NG h sl l/\l.length<=900000/\((jo l=false/\φ abx h)\/∃ t:Tr,l=t.gs/\((gJ (fU 12 t)=false/\φ abx h)\/(gJ (fU 12 t)=true/\kX t/\(tx t).length<=200000/\φ (yOk (tx t)) h)))
 ok:=by
  rintro args h φ w ⟨sl,l,rfl,R,hl,hφ⟩ hH;refine bQ (aZ Tryz.func9 JZ Ru [jD,Nj,DI,lH (zT 1000000),Az] (fun v k=>∃ k',bY k' k/\φ v k') (bJ) (aV) ⟨[],[],[],[],[sl],[],h,cu⟩ ⟨rfl,rfl,rfl,rfl,rfl,rfl⟩ af ?_ w hH rfl);generalize hE:(⟨aG _,_,_,_⟩:Env)=E;have sbf:E.spec 23=(jD).spec:=by rw[<- hE];rfl
  have sbj:E.spec 25=(Nj).spec:=by rw[<- hE];rfl
  have sbk:E.spec 24=(DI).spec:=by rw[<- hE];rfl
  have san:E.spec 26=(lH (zT 1000000)).spec:=by rw[<- hE];rfl
  have sbl:E.spec 27=(Az).spec:=by rw[<- hE];rfl
  have ep:E.post=(fun v k=>∃ k',bY k' k/\φ v k'):=by rw[<- hE]
  clear hE;unfold BD;rw[ax,if_pos (by rfl),sbf];refine⟨sl,l,rfl,R,by omega,?_⟩;refine rR ⟨[],[jo l],[],[],[],[]⟩ rfl af rfl ?_;rcases hφ with ⟨hr,hφ⟩ | ⟨t,rfl,hφ⟩
  . rw[hr];rw[bD,if_neg (by simp[go_sem]),ae,ax,if_neg (by simp[go_sem]),ae,ak,if_pos (by simp[go_sem])];rw[aj,ep];exact⟨h,fun _ _ h=>h,hφ⟩
  rw[pU];have htn:=iD t;rw[bD,if_pos (by rfl),sbj];refine⟨sl,t.gs,12,rfl,R,by omega,fun s' k hle ho hsn=>?_⟩;have hle':bY h k:=hle;refine rR ⟨[],[],[],[],[s'],[]⟩ rfl af rfl ?_;have NR:NG k s' (fU 12 t).gs:=by
   rw[qc,<- htn];exact Rows.y7 ho
  have hwl:(fU 12 t).gs.length<=1000000:=by
   rw[qc,List.length_append];show 5+_<=_;omega
  rw[bD,if_pos (by rfl),sbk];refine⟨s',_,rfl,NR,hwl,.inr ⟨_,rfl,?_⟩⟩;refine rR ⟨[],[gJ (fU 12 t)],[],[],[],[]⟩ rfl af rfl ?_;rcases hφ with ⟨hm,hφ⟩ | ⟨hm,W,hlen,hφ⟩
  . rw[hm];rw[ah,if_pos (by simp[go_sem])];rw[aj,ep];exact⟨h,hle',hφ⟩
  . rw[hm];rw[ah,if_neg (by simp[go_sem]),ae,dN];intro b hb;have hb':k b=none:=hb;have hne:t.gs≠[]:=by
     obtain⟨r,hr,_⟩:=qj t;rw[hr];simp
    have X:=YN (NG.le R hle') hne hb';rw[bD,if_pos (by rfl),san];refine⟨b,sl,t.gs,false,⟨none,0,0⟩,0,[],0,t,rfl,X,⟨[],[],by simp,rfl⟩,W,by omega,by omega,⟨by omega,by simp;omega⟩,fun u1 s1 k1 X1 G1=>?_⟩;refine rR ⟨[],[],[],[],[],[]⟩ rfl af rfl ?_;rw[ag];refine⟨by simp[go_sem]<;>omega,?_⟩;rw[ag];refine⟨by simp[go_sem]<;>omega,?_⟩;rw[bD,if_pos (by rfl),sbl];refine⟨b,sl,u1,s1,0,_,rfl,X1.prn,?_⟩;refine rR ⟨[],[],[tx t],[],[],[]⟩ rfl af rfl ?_;rw[aj,ep];exact⟨h,KZ hle' hb' G1,hφ⟩
end
theorem mO (k l c n:Int) (x:List UInt8) (ks:List Tr):(Tr.nd k l c n x ks).g=⟨k,l,c,(Tr.ns ks:Nat),n,x⟩:=rfl
def zX (s:Tr):Bool:=fieldsB s.g&&dR s.g.k s.g.n (s.kl.map Tr.g)
def mD (t:Tr):Bool:=t.subs.all zX
theorem Cc:∀ (l:List Tr) (i:Nat),tN (i+1) l=l.all zX
 | [],_=>rfl
 | s::r,i=>by
   rw[tN,Cc r,List.all_cons];unfold okI zX;rw[if_neg (Nat.succ_ne_zero i)]
theorem uV:∀ ks:List Tr,(Tr.ul ks).all zX=ks.all mD
 | []=>rfl
 | t::ts=>by rw[Tr.ul,List.all_append,uV ts,List.all_cons,mD]
theorem dF (k l c n:Int) (x:List UInt8) (ks:List Tr):mD (.nd k l c n x ks)=(zX (.nd k l c n x ks)&&ks.all mD):=by
 rw[mD,Tr.subs,List.all_cons,uV]
theorem Ec (k l c n:Int) (x:List UInt8) (ks:List Tr):gJ (.nd k l c n x ks)=(decide (k=1)&&fieldsB (Tr.nd k l c n x ks).g&&((ks.map Tr.g).all (wO [2,4])&&ks.all mD)):=by
 rw[gJ,Tr.subs,tN,Cc,uV];rfl
theorem jU {x:List UInt8} (h:vk x):aS nH x=true:=by
 obtain⟨h1,h2,h3,_⟩:=h;cases x with
 | nil=>simp[bt,jb] at h1
 | cons c r=>
   rw[jS] at h1;have ha:(c::r).all (fun c=>inB c.toNat)=true:=List.all_eq_true.2 h2;rw[aS,h3,ha];have:nH c.toNat=true:=by
    unfold jb at h1;unfold nH;simp only[Bool.or_eq_true,beq_iff_eq,Bool.and_eq_true,fO];split at h1
    . omega
    . split at h1
      . omega
      . split at h1<;>omega
   rw[this];rfl
theorem qQ {x:List UInt8} (h:uz x):aS zW x=true:=by
 obtain⟨h1,h2,_⟩:=h;cases x with
 | nil=>simp[bt,jb] at h1
 | cons c r=>
   have hw:gW (c::r)=false:=by
    cases hq:gW (c::r) with
    | false=>rfl
    | true=>
      have hall:∀ w∈Pz,jb (bt w 0)≠2:=by decide
      have hm:(c::r)∈Pz:=by simpa[gW] using hq
      exact absurd h1 (hall _ hm)
   rw[jS] at h1;have ha:(c::r).all (fun c=>inB c.toNat)=true:=List.all_eq_true.2 h2;rw[aS,hw,ha];have:zW c.toNat=true:=by
    unfold jb at h1;unfold zW;simp only[Bool.and_eq_true,fO];split at h1
    . omega
    . split at h1
      . omega
      . split at h1<;>omega
   rw[this];rfl
theorem abv {t:Tr} (W:E5 t):ES t.g=true:=by
 cases W with
 | word k l c h=>simp[sD,mO];omega
 | big=>rfl
 | list=>rfl
theorem ut {t:Tr} (W:kX t):wE t.g=true:=by
 cases W<;>rfl
theorem Xk:∀ {ts:List Tr},oP ts->(ts.map Tr.g).all wE=true
 | [],_=>rfl
 | t::ts,.cons _ _ h hs=>by rw[List.map_cons,List.all_cons,ut h,Xk hs];rfl
theorem Pm {t:Tr} (W:E5 t):mD t=true:=by
 induction W with
 | word k l c h=>
   rw[dF];have:k=15\/k=16\/k=17\/k=18:=by omega
   rcases this with rfl | rfl | rfl | rfl<;>rfl
 | big l c x h=>
   rw[dF];simp[zX,mO,Tr.kl,fieldsB,dR,rowB,qQ h]
 | list l c t h ih=>
   rw[dF];have:=abv h;simp only[List.all_cons,List.all_nil,ih,Bool.and_true];simp only[zX,mO,Tr.kl,fieldsB,dR,rowB,List.map_cons,List.map_nil];simp[this]
theorem PO (l c z n:Int) (h:n=12\/n=13):fieldsB ⟨30,l,c,z,n,[]⟩=true:=by
 rcases h with rfl | rfl<;>rfl
theorem Jw (l c z n:Int) (h:(1<=n/\n<=11)\/n=14\/n=15):fieldsB ⟨31,l,c,z,n,[]⟩=true:=by
 have:n=1\/n=2\/n=3\/n=4\/n=5\/n=6\/n=7\/n=8\/n=9\/n=10\/n=11\/n=14\/n=15:=by omega
 rcases this with rfl | rfl | rfl | rfl | rfl | rfl | rfl | rfl | rfl | rfl | rfl | rfl | rfl<;>rfl
mutual
theorem jW:∀ {t:Tr},kX t->mD t=true
 | _,.int l c n h=>by rw[dF];simp[zX,mO,Tr.kl,fieldsB,dR,rowB,leB,h.1]
 | _,.comp l c n h=>by rw[dF];simp[zX,mO,Tr.kl,fieldsB,dR,rowB,leB,Ob,h.1,show n<8388608 by omega]
 | _,.str l c x _=>by rw[dF];simp[zX,mO,Tr.kl,fieldsB,dR,rowB]
 | _,.bool l c n h=>by rw[dF];rcases h with rfl | rfl<;>rfl
 | _,.nil l c=>by rw[dF];rfl
 | _,.name l c x h=>by rw[dF];simp[zX,mO,Tr.kl,fieldsB,dR,rowB,jU h]
 | _,.call l c x h ks hk=>by
   have h1:=I9 hk;have h2:=Xk hk;rw[dF,h1];simp only[zX,mO,Tr.kl,fieldsB,dR];simp[jU h,h2]
 | _,.index l c a b ha hb=>by
   rw[dF,List.all_cons,List.all_cons,jW ha,jW hb];have h1:=ut ha;have h2:=ut hb;simp[zX,mO,Tr.kl,fieldsB,dR,rowB,h1,h2]
 | _,.dot l c x h a ha=>by
   rw[dF,List.all_cons,jW ha];have h1:=ut ha;simp[zX,mO,Tr.kl,fieldsB,dR,rowB,h1,jU h]
 | _,.un l c n h a ha=>by
   rw[dF,List.all_cons,jW ha];have h1:=ut ha;rw[zX,mO,PO _ _ _ _ h];simp[Tr.kl,dR,rowB,h1]
 | _,.bin l c n h a b ha hb=>by
   rw[dF,List.all_cons,List.all_cons,jW ha,jW hb];have h1:=ut ha;have h2:=ut hb;rw[zX,mO,Jw _ _ _ _ h];simp[Tr.kl,dR,rowB,h1,h2]
 | _,.make l c l' c' x h=>by
   rw[dF,List.all_cons,Pm (.big l' c' x h)];rfl
 | _,.makes l c l' c' t ht b hb=>by
   rw[dF,List.all_cons,List.all_cons,Pm (.list l' c' t ht),jW hb];have h2:=ut hb;simp[zX,mO,Tr.kl,fieldsB,dR,rowB,h2]
theorem I9:∀ {ts:List Tr},oP ts->ts.all mD=true
 | [],_=>rfl
 | t::ts,.cons _ _ h hs=>by rw[List.all_cons,jW h,I9 hs];rfl
end
theorem Vb {t:Tr} (W:kX t):gJ (fU 12 t)=true:=by
 have h1:=ut W;have h2:=jW W;unfold fU;rw[Ec];simp only[List.all_cons,List.all_nil,dF,h2,Bool.and_true];have e:dR 12 0 [t.g]=true:=by simp[dR,stB,rowB,h1]
 have f:aS nH [102]=true:=by decide
 simp only[zX,Tr.kl,List.map_cons,List.map_nil];simp[mO,fieldsB,f,dR,XN,stB,rowB,h1,leB];simp[sD]
theorem nO {x:List UInt8} (h:aS nH x=true) (hl:x.length<=1000000):vk x:=by
 cases x with
 | nil=>cases h
 | cons c r=>
   rw[aS] at h;simp only[Bool.and_eq_true,Bool.not_eq_true'] at h;obtain⟨h1,h2,h3⟩:=h;refine⟨?_,List.all_eq_true.1 h3,h2,hl⟩;rw[jS];unfold nH at h1;simp only[Bool.or_eq_true,beq_iff_eq,Bool.and_eq_true,fO] at h1;unfold jb;rw[if_pos (by omega)]
theorem mf {x:List UInt8} (h:aS zW x=true) (hl:x.length<=1000000):uz x:=by
 cases x with
 | nil=>cases h
 | cons c r=>
   rw[aS] at h;simp only[Bool.and_eq_true,Bool.not_eq_true'] at h;obtain⟨h1,h2,h3⟩:=h;refine⟨?_,List.all_eq_true.1 h3,hl⟩;rw[jS];unfold zW at h1;simp only[Bool.and_eq_true,fO] at h1;unfold jb;rw[if_neg (by omega),if_pos (by omega)]
theorem OO {p:Ng->Bool} {ks:List Tr} (h:rowB [p] (ks.map Tr.g)=true):∃ a,ks=[a]/\p a.g=true:=by
 match ks,h with
 | [a],h=>exact⟨a,rfl,by simpa[rowB] using h⟩
 | [],h=>simp[rowB] at h
 | _::_::_,h=>simp[rowB] at h
theorem WA {p q:Ng->Bool} {ks:List Tr} (h:rowB [p,q] (ks.map Tr.g)=true):∃ a b,ks=[a,b]/\p a.g=true/\q b.g=true:=by
 match ks,h with
 | [a,b],h=>exact⟨a,b,rfl,by simpa[rowB] using h⟩
 | [],h=>simp[rowB] at h
 | [_],h=>simp[rowB] at h
 | _::_::_::_,h=>simp[rowB] at h
theorem vY {ks:List Tr} (h:rowB [] (ks.map Tr.g)=true):ks=[]:=by
 match ks,h with
 | [],_=>rfl
 | _::_,h=>simp[rowB] at h
theorem Fe {k l c n:Int} {x:List UInt8} {ks:List Tr} (h:mD (.nd k l c n x ks)=true):fieldsB ⟨k,l,c,(Tr.ns ks:Nat),n,x⟩=true/\dR k n (ks.map Tr.g)=true/\ks.all mD=true:=by
 rw[dF,zX] at h;simp only[Bool.and_eq_true] at h;exact⟨h.1.1,h.1.2,h.2⟩
theorem pG {x:List UInt8} (h:(x==[])=true):x=[]:=by simpa using h
def nB (t:Tr):Prop:=∀ x∈t.gs,x.n<=9223372036854775807/\x.x.length<=1000000
theorem Zw {k l c n:Int} {x:List UInt8} {ks:List Tr} (h:nB (.nd k l c n x ks)):(n<=9223372036854775807/\x.length<=1000000)/\∀ t∈ks,nB t:=by
 unfold nB at h;rw[jc] at h;refine⟨h ⟨k,l,c,(Tr.ns ks:Nat),n,x⟩ (by simp),fun t ht y hy=>h y (List.mem_cons_of_mem _ ?_)⟩
 induction ks with
 | nil=>simp at ht
 | cons a ks ih=>
   rw[dB];rcases List.mem_cons.1 ht with rfl | ht
   . exact List.mem_append_left _ hy
   . refine List.mem_append_right _ (ih ?_ ht);intro z hz;rw[dB] at h;rcases List.mem_cons.1 hz with rfl | hz
     . exact h ⟨k,l,c,(Tr.ns (a::ks):Nat),n,x⟩ (by simp)
     . exact h z (List.mem_cons_of_mem _ (List.mem_append_right _ hz))
theorem EM:∀ (m:Nat) (t:Tr),t.n<=m->nB t->mD t=true->ES t.g=true->E5 t
 | 0,t,hm,_,_,_=>by rw[nD] at hm;omega
 | m+1,.nd k l c n x ks,hm,hnb,h,hk=>by
   obtain⟨h1,h2,h3⟩:=Fe h;obtain⟨⟨_,hxl⟩,hb2⟩:=Zw hnb;have hkk:15<=k/\k<=20:=by simpa[sD,mO] using hk
   rw[QQ] at hm;by_cases k20:k=20
   . subst k20;obtain⟨a,rfl,ha⟩:=OO (show rowB [ES] (ks.map Tr.g)=true from h2);have hf:(x==[]&&decide (n=0))=true:=h1;simp only[Bool.and_eq_true,decide_eq_true_eq] at hf;obtain rfl:=pG hf.1;obtain rfl:=hf.2;rw[aI,bF] at hm;exact .list _ _ _ (EM m a (by omega) (hb2 a (by simp)) (by simpa using h3) ha)
   by_cases k19:k=19
   . subst k19;have hf:(aS zW x&&decide (n=0))=true:=h1;simp only[Bool.and_eq_true,decide_eq_true_eq] at hf;obtain rfl:=hf.2;obtain rfl:=vY (show rowB [] (ks.map Tr.g)=true from h2);exact .big _ _ _ (mf hf.1 hxl)
   have h4:k=15\/k=16\/k=17\/k=18:=by omega
   have hf:(x==[]&&decide (n=0))=true:=by
    rcases h4 with rfl | rfl | rfl | rfl<;>exact h1
   have hr:rowB [] (ks.map Tr.g)=true:=by
    rcases h4 with rfl | rfl | rfl | rfl<;>exact h2
   simp only[Bool.and_eq_true,decide_eq_true_eq] at hf;obtain rfl:=pG hf.1;obtain rfl:=hf.2;obtain rfl:=vY hr;exact .word _ _ _ (by omega)
theorem Pj {m:Nat} (ih:∀ t:Tr,t.n<=m->nB t->mD t=true->wE t.g=true->kX t):∀ ks:List Tr,Tr.ns ks<=m->(∀ t∈ks,nB t)->ks.all mD=true->(ks.map Tr.g).all wE=true->oP ks
 | [],_,_,_,_=>.nil
 | t::ts,hm,hb,h1,h2=>by
   rw[aI] at hm;rw[List.all_cons,Bool.and_eq_true] at h1;rw[List.map_cons,List.all_cons,Bool.and_eq_true] at h2;exact .cons _ _ (ih t (by omega) (hb t (by simp)) h1.1 h2.1) (Pj ih ts (by omega) (fun u hu=>hb u (List.mem_cons_of_mem _ hu)) h1.2 h2.2)
theorem wO1 {k:Int} {x:Ng} (h:wO [k] x=true):x.k=k:=by simpa using h
theorem LZ:∀ (m:Nat) (t:Tr),t.n<=m->nB t->mD t=true->wE t.g=true->kX t
 | 0,t,hm,_,_,_=>by rw[nD] at hm;omega
 | m+1,.nd k l c n x ks,hm,hnb,h,hk=>by
   have ih:=LZ m;obtain⟨h1,h2,h3⟩:=Fe h;obtain⟨⟨hb1,hxl⟩,hb2⟩:=Zw hnb;have hkk:21<=k/\k<=32:=by simpa[sD,mO] using hk
   rw[QQ] at hm;have dflt:(x==[]&&decide (n=0))=true->x=[]/\n=0:=fun hf=>by
    simp only[Bool.and_eq_true,decide_eq_true_eq] at hf;exact⟨pG hf.1,hf.2⟩
   have nmd:(aS nH x&&decide (n=0))=true->vk x/\n=0:=fun hf=>by
    simp only[Bool.and_eq_true,decide_eq_true_eq] at hf;exact⟨nO hf.1 hxl,hf.2⟩
   have one:∀ a:Tr,ks=[a]->wE a.g=true->kX a:=fun a e ha=>by
    subst e;rw[aI,bF] at hm;exact ih a (by omega) (hb2 a (by simp)) (by simpa using h3) ha
   have two:∀ a b:Tr,ks=[a,b]->(wE a.g=true->kX a)/\(wE b.g=true->kX b):=fun a b e=>by
    subst e;rw[aI,aI,bF] at hm;simp only[List.all_cons,List.all_nil,Bool.and_true,Bool.and_eq_true] at h3;exact⟨ih a (by omega) (hb2 a (by simp)) h3.1,ih b (by omega) (hb2 b (by simp)) h3.2⟩
   have hcase:k=21\/k=22\/k=23\/k=24\/k=25\/k=26\/k=27\/k=28\/k=29\/k=30\/k=31\/k=32:=by omega
   rcases hcase with rfl | rfl | rfl | rfl | rfl | rfl | rfl | rfl | rfl | rfl | rfl | rfl
   . have hf:(x==[]&&leB 0 n)=true:=h1;simp only[Bool.and_eq_true,fO] at hf;obtain rfl:=pG hf.1;obtain rfl:=vY (show rowB [] (ks.map Tr.g)=true from h2);exact .int _ _ _ ⟨hf.2,hb1⟩
   . have hf:(x==[]&&leB 0 n&&Ob n 8388608)=true:=h1;simp only[Bool.and_eq_true,fO,kJ] at hf;obtain rfl:=pG hf.1.1;obtain rfl:=vY (show rowB [] (ks.map Tr.g)=true from h2);exact .comp _ _ _ ⟨hf.1.2,by omega⟩
   . have hf:decide (n=0)=true:=h1;obtain rfl:=of_decide_eq_true hf;obtain rfl:=vY (show rowB [] (ks.map Tr.g)=true from h2);exact .str _ _ _ hxl
   . have hf:(x==[]&&(decide (n=0)||decide (n=1)))=true:=h1;simp only[Bool.and_eq_true,Bool.or_eq_true,decide_eq_true_eq] at hf;obtain rfl:=pG hf.1;obtain rfl:=vY (show rowB [] (ks.map Tr.g)=true from h2);exact .bool _ _ _ hf.2
   . obtain⟨rfl,rfl⟩:=dflt h1;obtain rfl:=vY (show rowB [] (ks.map Tr.g)=true from h2);exact .nil _ _
   . obtain⟨hx,rfl⟩:=nmd h1;obtain rfl:=vY (show rowB [] (ks.map Tr.g)=true from h2);exact .name _ _ _ hx
   . obtain⟨hx,rfl⟩:=nmd h1;exact .call _ _ _ hx _ (Pj ih ks (by omega) hb2 h3 h2)
   . obtain⟨rfl,rfl⟩:=dflt h1;obtain⟨a,b,e,ha,hb⟩:=WA (show rowB [wE,wE] (ks.map Tr.g)=true from h2);have:=two a b e;subst e;exact .index _ _ _ _ (this.1 ha) (this.2 hb)
   . obtain⟨hx,rfl⟩:=nmd h1;obtain⟨a,e,ha⟩:=OO (show rowB [wE] (ks.map Tr.g)=true from h2);have:=one a e ha;subst e;exact .dot _ _ _ hx _ this
   . have hf:(x==[]&&(decide (n=12)||decide (n=13)))=true:=h1;simp only[Bool.and_eq_true,Bool.or_eq_true,decide_eq_true_eq] at hf;obtain rfl:=pG hf.1;obtain⟨a,e,ha⟩:=OO (show rowB [wE] (ks.map Tr.g)=true from h2);have:=one a e ha;subst e;exact .un _ _ _ hf.2 _ this
   . have hf:(x==[]&&((leB 1 n&&leB n 11)||decide (n=14)||decide (n=15)))=true:=h1;simp only[Bool.and_eq_true,Bool.or_eq_true,decide_eq_true_eq,fO] at hf;obtain rfl:=pG hf.1;obtain⟨a,b,e,ha,hb⟩:=WA (show rowB [wE,wE] (ks.map Tr.g)=true from h2);have:=two a b e;subst e;exact .bin _ _ _ (by omega) _ _ (this.1 ha) (this.2 hb)
   . obtain⟨rfl,rfl⟩:=dflt h1;have hr:(rowB [wO [19]] (ks.map Tr.g)||rowB [wO [20],wE] (ks.map Tr.g))=true:=h2;rw[Bool.or_eq_true] at hr;rcases hr with hr | hr
     . obtain⟨a,rfl,ha⟩:=OO hr;have hw:=EM a.n a (Nat.le_refl _) (hb2 a (by simp)) (by simpa using h3) (by simp only[wO1 ha,sD];rfl);cases hw with
       | word k l c h=>
         have:=wO1 ha;simp only[mO] at this;omega
       | big l c x hg=>exact .make _ _ _ _ _ hg
       | list l c t h=>
         have:=wO1 ha;simp only[mO] at this;omega
     . obtain⟨a,b,e,ha,hb⟩:=WA hr;have hB:=(two a b e).2 hb;subst e;have hw:=EM a.n a (Nat.le_refl _) (hb2 a (by simp)) (by simp only[List.all_cons,Bool.and_eq_true] at h3;exact h3.1) (by simp only[wO1 ha,sD];rfl);cases hw with
       | word k l c h=>
         have:=wO1 ha;simp only[mO] at this;omega
       | big l c x h=>
         have:=wO1 ha;simp only[mO] at this;omega
       | list l c t hg=>exact .makes _ _ _ _ _ hg _ hB
section
attribute [local go_sem] aY aX aA ak ax aF aT aJ au says_again
def Bd:Fm:=(.need (.not (.eqI (.len (.x 0)) (.c 0))) (.and (.le (.c 0) (.c 0)) (.lt (.c 0) (.len (.x 0))))
 (.need (.and (.not (.eqI (.len (.x 0)) (.c 0))) (.le (.c 48) (.at (.x 0) (.c 0)))) (.and (.le (.c 0) (.c 0)) (.lt (.c 0) (.len (.x 0))))
 (.ite (.or (.eqI (.len (.x 0)) (.c 0)) (.and (.le (.c 48) (.at (.x 0) (.c 0))) (.le (.at (.x 0) (.c 0)) (.c 57))))
 (.ret (.p (.one (.b (.c false)))))
 (.C 135 [.S 0,(.I (.c 0))] (.tup [.K 1 2 3 4 1,.J 5,.J 6]) ⟨6,0,1,0,0,0⟩
 (.ret (.p (.one (.b (.and (.and (.eqI (.x 6) (.c 0)) (.eqI (.x 5) (.len (.x 0)))) (.eqI (.x 1) (.x 0)))))))))))
theorem JH:aU ⟨true,[]⟩ Tryz.prog (fun l=>([]:List bG).getD l ⟨[],[],[]⟩) Tryz.f101=Bd:=by kernel_rfl
theorem Q8:az Tryz.prog .zero Tryz.f101.params.toList=some ([.S 0,(.one (.U 0))],⟨1,0,1,0,0,0⟩):=by kernel_rfl
def yA:Fm:=(.C 101 [.S 0,(.one (.i .u8 (.c 1)))] (.p (.B 0)) ⟨0,1,0,0,0,0⟩
 (.ret (.p (.B 0))))
theorem Hw:aU ⟨true,[]⟩ Tryz.prog (fun l=>([]:List bG).getD l ⟨[],[],[]⟩) Tryz.f64=yA:=by kernel_rfl
theorem Ll:az Tryz.prog .zero Tryz.f64.params.toList=some ([.S 0],⟨0,0,1,0,0,0⟩):=by kernel_rfl
def vO:Fm:=(.C 101 [.S 0,(.one (.i .u8 (.c 2)))] (.p (.B 0)) ⟨0,1,0,0,0,0⟩
 (.ret (.p (.B 0))))
theorem DX:aU ⟨true,[]⟩ Tryz.prog (fun l=>([]:List bG).getD l ⟨[],[],[]⟩) Tryz.f63=vO:=by kernel_rfl
theorem IG:az Tryz.prog .zero Tryz.f63.params.toList=some ([.S 0],⟨0,0,1,0,0,0⟩):=by kernel_rfl
theorem Ph {α:Type} {p:α->Bool}:∀ {l:List α},(∀ c∈l,p c=true)->l.takeWhile p=l
 | [],_=>rfl
 | a::l,h=>by rw[List.takeWhile_cons,if_pos (h a (by simp)),Ph (fun c hc=>h c (by simp[hc]))]
theorem Wy {p:Int->Bool} {s:List UInt8}:rn p s 0=s.length↔∀ c∈s,p c.toNat=true:=by
 unfold rn;rw[List.drop_zero];constructor
 . intro h c hc;have e:=(List.takeWhile_sublist (l:=s) (fun c:UInt8=>p c.toNat)).eq_of_length h;rw[<- e] at hc;have:=List.all_eq_true.1 (List.all_takeWhile (p:=fun c:UInt8=>p c.toNat) (l:=s)) c hc;exact this
 . intro h;rw[Ph (p:=fun c:UInt8=>p c.toNat) h]
def Ac (k:Int) (s:List UInt8):Bool:=if k=1 then aS nH s else aS zW s
theorem O7 (s:List UInt8):sub s 0 s.length=s:=by unfold sub;simp
theorem Ih {k:Int} (hk:k=1\/k=2) {s:List UInt8} (_h0:s≠[]) (hl:s.length<=100000):((one s 0).f=0/\(one s 0).e=s.length/\(one s 0).k=k)↔Ac k s=true:=by
 have hn:Ac k s=true↔(if k=1 then vk s else uz s):=by
  unfold Ac;split
  . exact⟨fun h=>nO h (by omega),jU⟩
  . exact⟨fun h=>mf h (by omega),qQ⟩
 rw[hn];by_cases h12:jb (bt s 0)=1\/jb (bt s 0)=2
 . have ho:one s 0=⟨0,kN (bt s 0) (sub s 0 (0+rn inB s 0)),sub s 0 (0+rn inB s 0),0,0+rn inB s 0⟩:=by unfold one;rw[if_pos h12]
   rw[ho];simp only[Nat.zero_add,true_and];constructor
   . rintro⟨he,hkk⟩;rw[he,O7] at hkk;have hall:=Wy.1 he;unfold kN at hkk;split
     . rename_i hk1;subst hk1;split at hkk
       . omega
       . rename_i h2;split at hkk
         . omega
         . rename_i hw;exact⟨by omega,hall,by simpa using hw,by omega⟩
     . split at hkk
       . rename_i h2;exact⟨h2,hall,by omega⟩
       . split at hkk<;>omega
   . intro h;have hall:∀ c∈s,inB c.toNat=true:=by
      split at h
      . exact h.2.1
      . exact h.2.1
     have he:=Wy.2 hall;refine⟨he,?_⟩;rw[he,O7];unfold kN;split at h
     . rename_i hk1;obtain⟨e1,_,e2,_⟩:=h;rw[if_neg (by omega),e2,hk1];rfl
     . rw[if_pos h.1];omega
 . have hno:¬ (if k=1 then vk s else uz s):=by
    intro h;split at h
    . exact h12 (.inl h.1)
    . exact h12 (.inr h.1)
   refine⟨fun h=>absurd h ?_,fun h=>absurd h hno⟩;rintro⟨h1,_,h3⟩;unfold one at h1 h3;rw[if_neg h12] at h1 h3;split at h3
   . rename_i h4;rw[if_pos h4] at h1;unfold nm pz at h1 h3
     revert h1 h3
     repeat' split
     all_goals (intro h1 h3;simp only at h1 h3;omega)
   . rename_i h4;rw[if_neg h4] at h1;split at h3
     . rename_i h5;rw[if_pos h5] at h1;cases hq:Ag (s.drop 0) with
       | none=>rw[hq] at h1;simp at h1
       | some r=>rw[hq] at h3;simp at h3;omega
     . rename_i h5;rw[if_neg h5] at h1;split at h3
       . rename_i h6;rw[if_pos h6] at h1;simp at h1
       . simp at h3;omega
def sJ:Ct Tryz.prog where
 f:=101
 spec:=fun args h φ=>∃ s k,args=[.string (B s),.int .u8 k]/\(k=1\/k=2)/\s.length<=100000/\φ (.bool (Ac k s)) h
 ok:=by
  rintro args h φ w ⟨s,k,rfl,hk,hl,hφ⟩ hH;refine bQ (aZ Tryz.func101 JH Q8 [TN] (fun v k=>∃ k',bY k' k/\φ v k') (bJ) (aV) ⟨[k],[],[s],[],[],[],h,cu⟩ ⟨rfl,rfl,rfl,rfl,rfl,rfl⟩ af ?_ w hH rfl);generalize hE:(⟨aG _,_,_,_⟩:Env)=E;have sbm:E.spec 135=(TN).spec:=by rw[<- hE];rfl
  have ep:E.post=(fun v k=>∃ k',bY k' k/\φ v k'):=by rw[<- hE]
  clear hE;unfold Bd;have no:∀ b:Bool,b=false->Ac k s=false->φ (.bool b) h:=by
   intro b h1 h2;rw[h1,<- h2];exact hφ
  by_cases h0:s=[]
  . subst h0;rw[aA];refine⟨by simp[go_sem],?_⟩;rw[ag];refine⟨by simp[go_sem],?_⟩;rw[ah,if_pos (by simp[go_sem])];rw[aj,ep];refine⟨h,fun _ _ h=>h,no _ rfl ?_⟩;unfold Ac;split<;>rfl
  have hpos:0<s.length:=List.length_pos_iff.2 h0;have hz:¬ (s.length:Int)=0:=by omega
  rw[aA];refine⟨by simp[go_sem];omega,?_⟩;rw[ag];refine⟨by simp[go_sem];omega,?_⟩;have hb:(SE.x 0).den ⟨[k],[],[s],[],[],[],h,cu⟩=s:=rfl;by_cases hd:48<=bt s 0/\bt s 0<=57
  . rw[ah,if_pos (by simp[go_sem];right;exact hd)];rw[aj,ep];refine⟨h,fun _ _ h=>h,no _ rfl ?_⟩;cases hq:Ac k s with
    | false=>rfl
    | true=>
      exfalso;unfold Ac at hq;have hkd:jb (bt s 0)=1\/jb (bt s 0)=2:=by
       split at hq
       . exact .inl (nO hq (by omega)).1
       . exact .inr (mf hq (by omega)).1
      unfold jb at hkd;rw[if_neg (by omega),if_neg (by omega),if_pos (by omega)] at hkd;omega
  rw[ah,if_neg (by simp[go_sem];exact⟨h0,fun _=>by omega⟩)];rw[ai,sbm];refine⟨s,0,rfl,hpos,hl,(by unfold jb;split<;>(try split)<;>(try split)<;>omega),?_⟩;have hp:=Ih hk h0 hl;split
  . rename_i hf;rw[hf] at hp;refine rR ⟨[(one s 0).k,0,0,(one s 0).n,((one s 0).e:Nat),0],[],[(one s 0).x],[],[],[]⟩ rfl af rfl ?_;rw[aj,ep];refine⟨h,fun _ _ h=>h,?_⟩;have e:Ac k s=((((one s 0).e:Nat):Int)==((s.length:Nat):Int)&&(one s 0).k==k):=by
     rw[Bool.eq_iff_iff,<- hp];simp;omega
    rw[e] at hφ;simpa[go_sem] using hφ
  . rename_i hf;intro kk;refine rR ⟨[kk,0,0,0,0,(one s 0).f],[],[[]],[],[],[]⟩ rfl af rfl ?_;rw[aj,ep];refine⟨h,fun _ _ h=>h,no _ (by simp[go_sem,hf]) ?_⟩;cases hq:Ac k s with
    | false=>rfl
    | true=>exact absurd (hp.2 hq).1 hf
def MQ:Ct Tryz.prog where
 f:=64
 spec:=fun args h φ=>∃ s,args=[.string (B s)]/\s.length<=100000/\φ (.bool (aS nH s)) h
 ok:=by
  rintro args h φ w ⟨s,rfl,hl,hφ⟩ hH;refine aZ Tryz.func64 Hw Ll [sJ] φ (bJ) (aV) ⟨[],[],[s],[],[],[],h,cu⟩ ⟨rfl,rfl,rfl,rfl,rfl,rfl⟩ af ?_ w hH rfl;generalize hE:(⟨aG _,_,_,_⟩:Env)=E;have sbn:E.spec 101=(sJ).spec:=by rw[<- hE];rfl
  have ep:E.post=φ:=by rw[<- hE]
  clear hE;unfold yA;rw[ax,if_pos (by rfl),sbn];refine⟨s,1,rfl,.inl rfl,hl,?_⟩;refine rR ⟨[],[aS nH s],[],[],[],[]⟩ rfl af rfl ?_;rw[aj,ep];exact hφ
def FI:Ct Tryz.prog where
 f:=63
 spec:=fun args h φ=>∃ s,args=[.string (B s)]/\s.length<=100000/\φ (.bool (aS zW s)) h
 ok:=by
  rintro args h φ w ⟨s,rfl,hl,hφ⟩ hH;refine aZ Tryz.func63 DX IG [sJ] φ (bJ) (aV) ⟨[],[],[s],[],[],[],h,cu⟩ ⟨rfl,rfl,rfl,rfl,rfl,rfl⟩ af ?_ w hH rfl;generalize hE:(⟨aG _,_,_,_⟩:Env)=E;have sbn:E.spec 101=(sJ).spec:=by rw[<- hE];rfl
  have ep:E.post=φ:=by rw[<- hE]
  clear hE;unfold vO;rw[ax,if_pos (by rfl),sbn];refine⟨s,2,rfl,.inr rfl,hl,?_⟩;refine rR ⟨[],[aS zW s],[],[],[],[]⟩ rfl af rfl ?_;rw[aj,ep];exact hφ
def GN:Fm:=(.ite (.eqI (.x 0) (.c 14))
 (.ret (.p (.one (.i .u8 (.c 48)))))
 (.ite (.and (.le (.c 15) (.x 0)) (.le (.x 0) (.c 20)))
 (.ret (.p (.one (.i .u8 (.c 116)))))
 (.ite (.and (.le (.c 21) (.x 0)) (.le (.x 0) (.c 32)))
 (.ret (.p (.one (.i .u8 (.c 101)))))
 (.ite (.and (.le (.c 7) (.x 0)) (.le (.x 0) (.c 13)))
 (.ret (.p (.one (.i .u8 (.c 115)))))
 (.ite (.eqI (.x 0) (.c 6))
 (.ret (.p (.one (.i .u8 (.c 98)))))
 (.ite (.eqI (.x 0) (.c 5))
 (.ret (.p (.one (.i .u8 (.c 112)))))
 (.ite (.eqI (.x 0) (.c 3))
 (.ret (.p (.one (.i .u8 (.c 102)))))
 (.ite (.or (.eqI (.x 0) (.c 2)) (.eqI (.x 0) (.c 4)))
 (.ret (.p (.one (.i .u8 (.c 100)))))
 (.ret (.p (.one (.i .u8 (.c 45)))))))))))))
theorem Qw:aU ⟨true,[]⟩ Tryz.prog (fun l=>([]:List bG).getD l ⟨[],[],[]⟩) Tryz.f65=GN:=by kernel_rfl
theorem VU:az Tryz.prog .zero Tryz.f65.params.toList=some ([(.agg [.U 0,.J 1,.J 2,.J 3,.J 4,(.s (.x 0))])],⟨5,0,1,0,0,0⟩):=by kernel_rfl
def GK:Fm:=(.loop 0 ⟨[(.c 0)],[(.c false)],[],[],[],[]⟩
 (.ite (.lt (.x 1) (.len (.x 0)))
 (.N (.and (.le (.c 0) (.x 1)) (.lt (.x 1) (.len (.x 0))))
 (.ite (.not (.eqI (.at (.x 0) (.x 1)) (.x 0)))
 (.ret (.p (.one (.b (.c false)))))
 (.N (.R (.add (.x 1) (.c 1)))
 (.again 0 ⟨1,0,1,0,0,0⟩ ⟨2,1,1,0,0,0⟩ ⟨[(.add (.x 1) (.c 1))],[(.x 0)],[],[],[],[]⟩))))
 (.ret (.p (.one (.b (.c true)))))))
theorem Qs:aU ⟨true,[]⟩ Tryz.prog (fun l=>([⟨[4,5],[6,7,8,9,12,13,14,15,16,10,11],[]⟩]:List bG).getD l ⟨[],[],[]⟩) Tryz.f66=GK:=by kernel_rfl
theorem VR:az Tryz.prog .zero Tryz.f66.params.toList=some ([.S 0,(.one (.U 0))],⟨1,0,1,0,0,0⟩):=by kernel_rfl
def Ba:Fm:=(.ite (.eqI (.x 0) (.c 2))
 (.C 63 [.S 0] (.p (.B 0)) ⟨0,1,0,0,0,0⟩
 (.ret (.p (.one (.b (.and (.x 0) (.eqI (.x 4) (.c 0))))))))
 (.ite (.eqI (.x 0) (.c 19))
 (.C 63 [.S 0] (.p (.B 0)) ⟨0,1,0,0,0,0⟩
 (.ret (.p (.one (.b (.and (.x 0) (.eqI (.x 4) (.c 0))))))))
 (.ite (.eqI (.x 0) (.c 3))
 (.C 64 [.S 0] (.p (.B 0)) ⟨0,1,0,0,0,0⟩
 (.ret (.p (.one (.b (.and (.x 0) (.eqI (.x 4) (.c 0))))))))
 (.ite (.eqI (.x 0) (.c 5))
 (.C 64 [.S 0] (.p (.B 0)) ⟨0,1,0,0,0,0⟩
 (.ret (.p (.one (.b (.and (.x 0) (.eqI (.x 4) (.c 0))))))))
 (.ite (.eqI (.x 0) (.c 7))
 (.C 64 [.S 0] (.p (.B 0)) ⟨0,1,0,0,0,0⟩
 (.ret (.p (.one (.b (.and (.x 0) (.eqI (.x 4) (.c 0))))))))
 (.ite (.eqI (.x 0) (.c 26))
 (.C 64 [.S 0] (.p (.B 0)) ⟨0,1,0,0,0,0⟩
 (.ret (.p (.one (.b (.and (.x 0) (.eqI (.x 4) (.c 0))))))))
 (.ite (.eqI (.x 0) (.c 27))
 (.C 64 [.S 0] (.p (.B 0)) ⟨0,1,0,0,0,0⟩
 (.ret (.p (.one (.b (.and (.x 0) (.eqI (.x 4) (.c 0))))))))
 (.ite (.eqI (.x 0) (.c 29))
 (.C 64 [.S 0] (.p (.B 0)) ⟨0,1,0,0,0,0⟩
 (.ret (.p (.one (.b (.and (.x 0) (.eqI (.x 4) (.c 0))))))))
 (.ite (.eqI (.x 0) (.c 4))
 (.C 64 [.S 0] (.p (.B 0)) ⟨0,1,0,0,0,0⟩
 (.ret (.p (.B 0))))
 (.ite (.eqI (.x 0) (.c 23))
 (.ret (.p (.one (.b (.eqI (.x 4) (.c 0))))))
 (.ite (.not (.eqS (.x 0) (.c [])))
 (.ret (.p (.one (.b (.c false)))))
 (.ite (.eqI (.x 0) (.c 21))
 (.ret (.p (.one (.b (.le (.c 0) (.x 4))))))
 (.ite (.eqI (.x 0) (.c 22))
 (.ret (.p (.one (.b (.and (.le (.c 0) (.x 4)) (.lt (.x 4) (.c 8388608)))))))
 (.ite (.eqI (.x 0) (.c 24))
 (.ret (.p (.one (.b (.or (.eqI (.x 4) (.c 0)) (.eqI (.x 4) (.c 1)))))))
 (.ite (.eqI (.x 0) (.c 30))
 (.ret (.p (.one (.b (.or (.eqI (.x 4) (.c 12)) (.eqI (.x 4) (.c 13)))))))
 (.ite (.eqI (.x 0) (.c 31))
 (.ret (.p (.one (.b (.or (.or (.and (.le (.c 1) (.x 4)) (.le (.x 4) (.c 11))) (.eqI (.x 4) (.c 14))) (.eqI (.x 4) (.c 15)))))))
 (.ret (.p (.one (.b (.eqI (.x 4) (.c 0))))))))))))))))))))))
theorem JE:aU ⟨true,[1000005]⟩ Tryz.prog (fun l=>([]:List bG).getD l ⟨[],[],[]⟩) Tryz.f36=Ba:=by kernel_rfl
theorem Q4:az Tryz.prog .zero Tryz.f36.params.toList=some ([(.agg [.U 0,.J 1,.J 2,.J 3,.J 4,(.s (.x 0))])],⟨5,0,1,0,0,0⟩):=by kernel_rfl
def sortB (x:Ng):Int:=if x.k=14 then 48 else if 15<=x.k/\x.k<=20 then 116 else if 21<=x.k/\x.k<=32 then 101 else if 7<=x.k/\x.k<=13 then 115 else if x.k=6 then 98 else if x.k=5 then 112 else if x.k=3 then 102 else if x.k=2\/x.k=4 then 100 else 45
def MW:Ct Tryz.prog where
 f:=65
 spec:=fun args h φ=>∃ x:Ng,args=[.agg x.cs.toArray]/\φ (.int .u8 (sortB x)) h
 ok:=by
  rintro args h φ w ⟨x,rfl,hφ⟩ hH;refine aZ Tryz.func65 Qw VU [] φ (bJ) (aV) ⟨[x.k,x.l,x.c,x.z,x.n],[],[x.x],[],[],[],h,cu⟩ ⟨rfl,rfl,rfl,rfl,rfl,rfl⟩ af ?_ w hH rfl;generalize hE:(⟨aG _,_,_,_⟩:Env)=E;have ep:E.post=φ:=by rw[<- hE]
  clear hE;unfold GN;unfold sortB at hφ;by_cases c0:x.k=14
  . rw[if_pos c0] at hφ;rw[ak,if_pos (by simpa[go_sem] using c0),ae,au,ep];exact hφ
  rw[if_neg c0] at hφ;rw[ak,if_neg (by simpa[go_sem] using c0)];by_cases c1:15<=x.k/\x.k<=20
  . rw[if_pos c1] at hφ;rw[ah,if_pos (by simpa[go_sem] using c1),ae,au,ep];exact hφ
  rw[if_neg c1] at hφ;rw[ah,if_neg (by simpa[go_sem] using c1)];by_cases c2:21<=x.k/\x.k<=32
  . rw[if_pos c2] at hφ;rw[ah,if_pos (by simpa[go_sem] using c2),ae,au,ep];exact hφ
  rw[if_neg c2] at hφ;rw[ah,if_neg (by simpa[go_sem] using c2)];by_cases c3:7<=x.k/\x.k<=13
  . rw[if_pos c3] at hφ;rw[ah,if_pos (by simpa[go_sem] using c3),ae,au,ep];exact hφ
  rw[if_neg c3] at hφ;rw[ah,if_neg (by simpa[go_sem] using c3)];by_cases c4:x.k=6
  . rw[if_pos c4] at hφ;rw[ah,if_pos (by simpa[go_sem] using c4),ae,au,ep];exact hφ
  rw[if_neg c4] at hφ;rw[ah,if_neg (by simpa[go_sem] using c4)];by_cases c5:x.k=5
  . rw[if_pos c5] at hφ;rw[ah,if_pos (by simpa[go_sem] using c5),ae,au,ep];exact hφ
  rw[if_neg c5] at hφ;rw[ah,if_neg (by simpa[go_sem] using c5)];by_cases c6:x.k=3
  . rw[if_pos c6] at hφ;rw[ah,if_pos (by simpa[go_sem] using c6),ae,au,ep];exact hφ
  rw[if_neg c6] at hφ;rw[ah,if_neg (by simpa[go_sem] using c6)];by_cases c7:x.k=2\/x.k=4
  . rw[if_pos c7] at hφ;rw[ah,if_pos (by simpa[go_sem] using c7),ae,au,ep];exact hφ
  rw[if_neg c7] at hφ;rw[ah,if_neg (by simpa[go_sem] using c7)];rw[aj,ep];exact hφ
def onlyB (s:List UInt8) (c:Int):Bool:=s.all fun d=>decide ((d.toNat:Int)=c)
def Oz (h:Hp) (s:List UInt8) (c:Int) (_:Nat) (C:Ctx):Prop:=
 ∃ (j:Nat) (b:Bool),C=⟨[c,j],[b],[s],[],[],[],h,cu⟩/\j<=s.length/\onlyB s c=onlyB (s.drop j) c
def MR:Ct Tryz.prog where
 f:=66
 spec:=fun args h φ=>∃ s c,args=[.string (B s),.int .u8 c]/\s.length<=1000000/\φ (.bool (onlyB s c)) h
 ok:=by
  rintro args h φ w ⟨s,c,rfl,hl,hφ⟩ hH;refine bQ (aZ Tryz.func66 Qs VR [] (fun v k=>∃ k',bY k' k/\φ v k') (Oz h s c) (fun _ C=>((s.length:Int) - C.i.getD 1 0).toNat) ⟨[c],[],[s],[],[],[],h,cu⟩ ⟨rfl,rfl,rfl,rfl,rfl,rfl⟩ af ?_ w hH rfl);generalize hE:(⟨aG _,_,_,_⟩:Env)=E;have ep:E.post=(fun v k=>∃ k',bY k' k/\φ v k'):=by rw[<- hE]
  have ei:E.inv=(Oz h s c):=by rw[<- hE]
  have em:E.meas=(fun _ C=>((s.length:Int) - C.i.getD 1 0).toNat):=by rw[<- hE]
  clear hE;unfold GK;refine bH ?_ ?_
  . rw[ei];exact⟨0,false,rfl,Nat.zero_le _,by rw[List.drop_zero]⟩
  rw[ei,em];rintro i bbs ss v ll pp hh M ⟨j,b,hC,hj,hF⟩ hM;cases hC;have hM':M 0=((s.length:Int) - j).toNat:=hM;clear hM;by_cases hjl:j<s.length;rotate_left
  . rw[ak,if_neg (by simpa[go_sem] using hjl)];rw[aj,ep];rw[List.drop_eq_nil_of_le (by omega)] at hF;rw[hF] at hφ;exact⟨h,fun _ _ h=>h,hφ⟩
  rw[List.drop_eq_getElem_cons hjl] at hF;have hb:=mF s j hjl;rw[ak,if_pos (by simpa[go_sem] using hjl)];rw[ag];refine⟨by simp[go_sem]<;>omega,?_⟩;by_cases hc:bt s j=c;rotate_left
  . rw[ah,if_pos (by simpa[go_sem] using hc)];rw[aj,ep];rw[hF] at hφ;refine⟨h,fun _ _ h=>h,?_⟩;have e:onlyB (s[j]::s.drop (j+1)) c=false:=by
     unfold onlyB;rw[List.all_cons,decide_eq_false (by omega)];rfl
    rw[e] at hφ;exact hφ
  rw[ah,if_neg (by simpa[go_sem] using hc)];rw[ag];refine⟨by simp[go_sem]<;>omega,?_⟩;rw[ae,says_again,ei,em];refine⟨⟨j+1,b,rfl,hjl,?_⟩,?_⟩
  . rw[hF];unfold onlyB;rw[List.all_cons,decide_eq_true (by omega),Bool.true_and]
  . show (((s.length:Int) - (j+1:Nat)).toNat)<M 0;omega
def qy (x:Ng):Bool:=if x.k=4 then aS nH x.x else fieldsB x
theorem bV {E:Env} {C:Ctx} {b:BE} {t e:Fm} (h:b.den C=true) (k:Then E t C):Then E (.ite b t e) C:=by rw[ah,if_pos h];exact k
theorem bU {E:Env} {C:Ctx} {b:BE} {t e:Fm} (h:¬ b.den C=true) (k:Then E e C):Then E (.ite b t e) C:=by rw[ah,if_neg h];exact k
theorem U4 (k:Int):k=2\/k=19\/k=3\/k=5\/k=7\/k=26\/k=27\/k=29\/k=4\/k=21\/k=22\/k=23\/k=24\/k=30\/k=31\/(¬ k=2/\¬ k=19/\¬ k=3/\¬ k=5/\¬ k=7/\¬ k=26/\¬ k=27/\¬ k=29/\¬ k=4/\¬ k=21/\¬ k=22/\¬ k=23/\¬ k=24/\¬ k=30/\¬ k=31):=by omega
set_option maxHeartbeats 8000000 in
def FH:Ct Tryz.prog where
 f:=36
 spec:=fun args h φ=>∃ x:Ng,args=[.agg x.cs.toArray]/\x.x.length<=100000/\φ (.bool (qy x)) h
 ok:=by
  rintro args h φ w ⟨⟨k,l,c,z,n,s⟩,rfl,hl,hφ⟩ hH;refine aZ Tryz.func36 JE Q4 [MQ,FI] φ (bJ) (aV) ⟨[k,l,c,z,n],[],[s],[],[],[],h,cu⟩ ⟨rfl,rfl,rfl,rfl,rfl,rfl⟩ af ?_ w hH rfl;generalize hE:(⟨aG _,_,_,_⟩:Env)=E;have sbo:E.spec 64=(MQ).spec:=by rw[<- hE];rfl
  have sbp:E.spec 63=(FI).spec:=by rw[<- hE];rfl
  have ep:E.post=φ:=by rw[<- hE]
  clear hE;unfold Ba;unfold qy fieldsB at hφ;simp only at hφ hl;rw[<- ae];have fin:∀ (C:Ctx) (e:BE) (v:Bool),C.h=h->φ (.bool v) h->e.den C=v->Then E (.ret (.p (.one (.b e)))) C:=by
   intro C e v hC hv he;rw[aj,ep];simp only[VE.den,PE.den,CE.den];rw[hC,he];exact hv
  rcases U4 k with rfl | rfl | rfl | rfl | rfl | rfl | rfl | rfl | rfl | rfl | rfl | rfl | rfl | rfl | rfl | ⟨n2,n19,n3,n5,n7,n26,n27,n29,n4,n21,n22,n23,n24,n30,n31⟩
  . repeat (first | (refine bV ?_ ?_;focus (simp[go_sem]<;>fail)) | (refine bU ?_ ?_;focus (simp[go_sem]<;>fail)) | fail)
    rw[ai,sbp];refine⟨s,rfl,hl,?_⟩;refine rR ⟨[],[aS zW s],[],[],[],[]⟩ rfl af rfl ?_;refine fin _ _ _ rfl hφ ?_
    first | (simp[go_sem]<;>fail) | (simp[go_sem];rfl)
  . repeat (first | (refine bV ?_ ?_;focus (simp[go_sem]<;>fail)) | (refine bU ?_ ?_;focus (simp[go_sem]<;>fail)) | fail)
    rw[ai,sbp];refine⟨s,rfl,hl,?_⟩;refine rR ⟨[],[aS zW s],[],[],[],[]⟩ rfl af rfl ?_;refine fin _ _ _ rfl hφ ?_
    first | (simp[go_sem]<;>fail) | (simp[go_sem];rfl)
  . repeat (first | (refine bV ?_ ?_;focus (simp[go_sem]<;>fail)) | (refine bU ?_ ?_;focus (simp[go_sem]<;>fail)) | fail)
    rw[ai,sbo];refine⟨s,rfl,hl,?_⟩;refine rR ⟨[],[aS nH s],[],[],[],[]⟩ rfl af rfl ?_;refine fin _ _ _ rfl hφ ?_
    first | (simp[go_sem]<;>fail) | (simp[go_sem];rfl)
  . repeat (first | (refine bV ?_ ?_;focus (simp[go_sem]<;>fail)) | (refine bU ?_ ?_;focus (simp[go_sem]<;>fail)) | fail)
    rw[ai,sbo];refine⟨s,rfl,hl,?_⟩;refine rR ⟨[],[aS nH s],[],[],[],[]⟩ rfl af rfl ?_;refine fin _ _ _ rfl hφ ?_
    first | (simp[go_sem]<;>fail) | (simp[go_sem];rfl)
  . repeat (first | (refine bV ?_ ?_;focus (simp[go_sem]<;>fail)) | (refine bU ?_ ?_;focus (simp[go_sem]<;>fail)) | fail)
    rw[ai,sbo];refine⟨s,rfl,hl,?_⟩;refine rR ⟨[],[aS nH s],[],[],[],[]⟩ rfl af rfl ?_;refine fin _ _ _ rfl hφ ?_
    first | (simp[go_sem]<;>fail) | (simp[go_sem];rfl)
  . repeat (first | (refine bV ?_ ?_;focus (simp[go_sem]<;>fail)) | (refine bU ?_ ?_;focus (simp[go_sem]<;>fail)) | fail)
    rw[ai,sbo];refine⟨s,rfl,hl,?_⟩;refine rR ⟨[],[aS nH s],[],[],[],[]⟩ rfl af rfl ?_;refine fin _ _ _ rfl hφ ?_
    first | (simp[go_sem]<;>fail) | (simp[go_sem];rfl)
  . repeat (first | (refine bV ?_ ?_;focus (simp[go_sem]<;>fail)) | (refine bU ?_ ?_;focus (simp[go_sem]<;>fail)) | fail)
    rw[ai,sbo];refine⟨s,rfl,hl,?_⟩;refine rR ⟨[],[aS nH s],[],[],[],[]⟩ rfl af rfl ?_;refine fin _ _ _ rfl hφ ?_
    first | (simp[go_sem]<;>fail) | (simp[go_sem];rfl)
  . repeat (first | (refine bV ?_ ?_;focus (simp[go_sem]<;>fail)) | (refine bU ?_ ?_;focus (simp[go_sem]<;>fail)) | fail)
    rw[ai,sbo];refine⟨s,rfl,hl,?_⟩;refine rR ⟨[],[aS nH s],[],[],[],[]⟩ rfl af rfl ?_;refine fin _ _ _ rfl hφ ?_
    first | (simp[go_sem]<;>fail) | (simp[go_sem];rfl)
  . repeat (first | (refine bV ?_ ?_;focus (simp[go_sem]<;>fail)) | (refine bU ?_ ?_;focus (simp[go_sem]<;>fail)) | fail)
    rw[ai,sbo];refine⟨s,rfl,hl,?_⟩;refine rR ⟨[],[aS nH s],[],[],[],[]⟩ rfl af rfl ?_;refine fin _ _ _ rfl hφ ?_
    first | (simp[go_sem]<;>fail) | (simp[go_sem];rfl)
  . by_cases hs:s=[]
    . subst hs
      repeat (first | (refine bV ?_ ?_;focus (simp[go_sem]<;>fail)) | (refine bU ?_ ?_;focus (simp[go_sem]<;>fail)) | fail)
      refine fin _ _ _ rfl hφ ?_
      first | (simp[go_sem]<;>fail) | (simp[go_sem];rfl)
    . repeat (first | (refine bV ?_ ?_;focus (simp[go_sem,hs]<;>fail)) | (refine bU ?_ ?_;focus (simp[go_sem]<;>fail)) | fail)
      refine fin _ _ _ rfl hφ ?_
      first | (simp[go_sem,hs]<;>fail) | (simp[go_sem,hs];rfl)
  . by_cases hs:s=[]
    . subst hs
      repeat (first | (refine bV ?_ ?_;focus (simp[go_sem]<;>fail)) | (refine bU ?_ ?_;focus (simp[go_sem]<;>fail)) | fail)
      refine fin _ _ _ rfl hφ ?_
      first | (simp[go_sem]<;>fail) | (simp[go_sem];rfl)
    . repeat (first | (refine bV ?_ ?_;focus (simp[go_sem,hs]<;>fail)) | (refine bU ?_ ?_;focus (simp[go_sem]<;>fail)) | fail)
      refine fin _ _ _ rfl hφ ?_
      first | (simp[go_sem,hs]<;>fail) | (simp[go_sem,hs];rfl)
  . repeat (first | (refine bV ?_ ?_;focus (simp[go_sem]<;>fail)) | (refine bU ?_ ?_;focus (simp[go_sem]<;>fail)) | fail)
    refine fin _ _ _ rfl hφ ?_
    first | (simp[go_sem]<;>fail) | (simp[go_sem];rfl)
  . by_cases hs:s=[]
    . subst hs
      repeat (first | (refine bV ?_ ?_;focus (simp[go_sem]<;>fail)) | (refine bU ?_ ?_;focus (simp[go_sem]<;>fail)) | fail)
      refine fin _ _ _ rfl hφ ?_
      first | (simp[go_sem]<;>fail) | (simp[go_sem];rfl)
    . repeat (first | (refine bV ?_ ?_;focus (simp[go_sem,hs]<;>fail)) | (refine bU ?_ ?_;focus (simp[go_sem]<;>fail)) | fail)
      refine fin _ _ _ rfl hφ ?_
      first | (simp[go_sem,hs]<;>fail) | (simp[go_sem,hs];rfl)
  . by_cases hs:s=[]
    . subst hs
      repeat (first | (refine bV ?_ ?_;focus (simp[go_sem]<;>fail)) | (refine bU ?_ ?_;focus (simp[go_sem]<;>fail)) | fail)
      refine fin _ _ _ rfl hφ ?_
      first | (simp[go_sem]<;>fail) | (simp[go_sem];rfl)
    . repeat (first | (refine bV ?_ ?_;focus (simp[go_sem,hs]<;>fail)) | (refine bU ?_ ?_;focus (simp[go_sem]<;>fail)) | fail)
      refine fin _ _ _ rfl hφ ?_
      first | (simp[go_sem,hs]<;>fail) | (simp[go_sem,hs];rfl)
  . by_cases hs:s=[]
    . subst hs
      repeat (first | (refine bV ?_ ?_;focus (simp[go_sem]<;>fail)) | (refine bU ?_ ?_;focus (simp[go_sem]<;>fail)) | fail)
      refine fin _ _ _ rfl hφ ?_
      first | (simp[go_sem]<;>fail) | (simp[go_sem];rfl)
    . repeat (first | (refine bV ?_ ?_;focus (simp[go_sem,hs]<;>fail)) | (refine bU ?_ ?_;focus (simp[go_sem]<;>fail)) | fail)
      refine fin _ _ _ rfl hφ ?_
      first | (simp[go_sem,hs]<;>fail) | (simp[go_sem,hs];rfl)
  . by_cases hs:s=[]
    . subst hs
      repeat (first | (refine bV ?_ ?_;focus (simp[go_sem,n2,n19,n3,n5,n7,n26,n27,n29,n4,n21,n22,n23,n24,n30,n31]<;>fail)) | (refine bU ?_ ?_;focus (simp[go_sem,n2,n19,n3,n5,n7,n26,n27,n29,n4,n21,n22,n23,n24,n30,n31]<;>fail)) | fail)
      refine fin _ _ _ rfl hφ ?_
      first | (simp[go_sem,n2,n19,n3,n5,n7,n26,n27,n29,n4,n21,n22,n23,n24,n30,n31]<;>fail) | (simp[go_sem,n2,n19,n3,n5,n7,n26,n27,n29,n4,n21,n22,n23,n24,n30,n31];rfl)
    . repeat (first | (refine bV ?_ ?_;focus (simp[go_sem,hs,n2,n19,n3,n5,n7,n26,n27,n29,n4,n23]<;>fail)) | (refine bU ?_ ?_;focus (simp[go_sem,n2,n19,n3,n5,n7,n26,n27,n29,n4,n23]<;>fail)) | fail)
      refine fin _ _ _ rfl hφ ?_
      first | (simp[go_sem,hs,n2,n19,n3,n5,n7,n26,n27,n29,n4,n21,n22,n23,n24,n30,n31]<;>fail) | (simp[go_sem,hs,n2,n19,n3,n5,n7,n26,n27,n29,n4,n21,n22,n23,n24,n30,n31];rfl)
end
def su (x:Ng):UInt8:=ub (sortB x)
def bz (ks:List Ng):List UInt8:=ks.map su
theorem zJ (x:Ng):0<=sortB x/\sortB x<=255:=by
 unfold sortB
 repeat' split
 all_goals omega
theorem LU (x:Ng):((su x).toNat:Int)=sortB x:=by
 have h:=zJ x;have h2:=EI h.1 h.2;simpa[su] using h2
theorem aaB {x:Ng} {c:UInt8}:su x=c↔sortB x=(c.toNat:Int):=by
 rw[<- LU];constructor
 . rintro rfl;rfl
 . intro h;exact UInt8.toNat_inj.1 (by omega)
theorem IY (x:Ng):sortB x=116↔ES x=true:=by
 unfold sortB;simp only[sD,Bool.and_eq_true,decide_eq_true_eq]
 repeat' split
 all_goals omega
theorem IX (x:Ng):sortB x=101↔wE x=true:=by
 unfold sortB;simp only[sD,Bool.and_eq_true,decide_eq_true_eq]
 repeat' split
 all_goals omega
theorem WR (x:Ng):sortB x=115↔sD 7 13 x=true:=by
 unfold sortB;simp only[sD,Bool.and_eq_true,decide_eq_true_eq]
 repeat' split
 all_goals omega
theorem O6 (x:Ng):sortB x=98↔wB x=true:=by
 unfold sortB;simp only[decide_eq_true_eq]
 repeat' split
 all_goals (simp;omega)
theorem WQ (x:Ng):sortB x=112↔wO [5] x=true:=by
 unfold sortB
 repeat' split
 all_goals (simp;omega)
theorem WP (x:Ng):sortB x=102↔wO [3] x=true:=by
 unfold sortB
 repeat' split
 all_goals (simp;omega)
theorem WO (x:Ng):sortB x=100↔wO [2,4] x=true:=by
 unfold sortB
 repeat' split
 all_goals (simp;omega)
theorem Y3 (x:Ng):sortB x=48↔x.k=14:=by
 unfold sortB
 repeat' split
 all_goals omega
theorem mW {c:Int} {p:Ng->Bool} (h:∀ x,sortB x=c↔p x=true):∀ ks:List Ng,onlyB (bz ks) c=ks.all p
 | []=>rfl
 | x::ks=>by
   have ih:=mW h ks;unfold onlyB bz at ih⊢;rw[List.map_cons,List.all_cons,List.all_cons,ih,LU];congr 1;rw[Bool.eq_iff_iff,<- h];simp
theorem sQ:∀ (cs:List (UInt8×(Ng->Bool))) (ks:List Ng),(∀ c∈cs,∀ x,sortB x=(c.1.toNat:Int)↔c.2 x=true)->(bz ks==cs.map (·.1))=rowB (cs.map (·.2)) ks
 | [],[],_=>rfl
 | [],_::_,_=>rfl
 | _::_,[],_=>rfl
 | c::cs,x::ks,h=>by
   have ih:=sQ cs ks fun d hd=>h d (List.mem_cons_of_mem _ hd)
   rw[List.map_cons,List.map_cons,rowB,<- ih];show (su x==c.1&&(bz ks==cs.map (·.1)))=_;congr 1;rw[Bool.eq_iff_iff,beq_iff_eq,aaB];exact h c List.mem_cons_self x
def fJ (p:Nat) (k n:Int) (ks:List Ng):Bool:=if k=1 then decide (p=0)&&ks.all (wO [2,4]) else dR k n ks
theorem fs0 (ks:List Ng):(bz ks==[])=rowB [] ks:=sQ [] ks (by simp)
theorem XO {c:UInt8} {p:Ng->Bool} (h:∀ x,sortB x=(c.toNat:Int)↔p x=true) (ks:List Ng):(bz ks==[c])=rowB [p] ks:=sQ [(c,p)] ks (by simpa using h)
theorem ZY {c d:UInt8} {p q:Ng->Bool} (h:∀ x,sortB x=(c.toNat:Int)↔p x=true) (h2:∀ x,sortB x=(d.toNat:Int)↔q x=true) (ks:List Ng):(bz ks==[c,d])=rowB [p,q] ks:=
 sQ [(c,p),(d,q)] ks (by
  intro e he;simp only[List.mem_cons,List.not_mem_nil,or_false] at he;rcases he with rfl | rfl
  . exact h
  . exact h2)
theorem fs3 {c d e:UInt8} {p q r:Ng->Bool} (h:∀ x,sortB x=(c.toNat:Int)↔p x=true) (h2:∀ x,sortB x=(d.toNat:Int)↔q x=true) (h3:∀ x,sortB x=(e.toNat:Int)↔r x=true) (ks:List Ng):(bz ks==[c,d,e])=rowB [p,q,r] ks:=
 sQ [(c,p),(d,q),(e,r)] ks (by
  intro f hf;simp only[List.mem_cons,List.not_mem_nil,or_false] at hf;rcases hf with rfl | rfl | rfl
  . exact h
  . exact h2
  . exact h3)
theorem RZ:∀ x,sortB x=((116:UInt8).toNat:Int)↔ES x=true:=IY
theorem qL:∀ x,sortB x=((101:UInt8).toNat:Int)↔wE x=true:=IX
theorem s98:∀ x,sortB x=((98:UInt8).toNat:Int)↔wB x=true:=O6
section
variable (p:Nat) (n:Int) (ks:List Ng)
theorem rf1:fJ p 1 n ks=(decide (p=0)&&onlyB (bz ks) 100):=by rw[mW WO];rfl
theorem rf2:fJ p 2 n ks=onlyB (bz ks) 102:=by rw[mW WP];rfl
theorem rf3:fJ p 3 n ks=(bz ks==[116]):=by rw[XO RZ];rfl
theorem rf5:fJ p 5 n ks=(bz ks==[116]):=by rw[XO RZ];rfl
theorem abh:fJ p 20 n ks=(bz ks==[116]):=by rw[XO RZ];rfl
theorem rf6:fJ p 6 n ks=onlyB (bz ks) 115:=by rw[mW WR];rfl
theorem rf7:fJ p 7 n ks=(bz ks==[116,101]):=by rw[ZY RZ qL];rfl
theorem rf9:fJ p 9 n ks=(bz ks==[101,98]||bz ks==[101,98,98]):=by rw[ZY qL s98,fs3 qL s98 s98];rfl
theorem abd:fJ p 10 n ks=(bz ks==[101,98]):=by rw[ZY qL s98];rfl
theorem abe:fJ p 11 n ks=(bz ks==[]||bz ks==[101]):=by rw[fs0,XO qL];rfl
theorem abf:fJ p 12 n ks=(bz ks==[101]):=by rw[XO qL];rfl
theorem abl:fJ p 29 n ks=(bz ks==[101]):=by rw[XO qL];rfl
theorem abm:fJ p 30 n ks=(bz ks==[101]):=by rw[XO qL];rfl
theorem abj:fJ p 27 n ks=onlyB (bz ks) 101:=by rw[mW IX];rfl
theorem abk:fJ p 28 n ks=(bz ks==[101,101]):=by rw[ZY qL qL];rfl
theorem abn:fJ p 31 n ks=(bz ks==[101,101]):=by rw[ZY qL qL];rfl
theorem rf8:fJ p 8 n ks=(bz ks==[101,101]&&wO [26,28,29] (ks.getD 0 EQ)):=by
 rw[ZY qL qL];show rowB [wO [26,28,29],wE] ks=_
 match ks with
 | []=>rfl
 | [a]=>simp[rowB]
 | [a,b]=>
   simp only[rowB,Bool.and_true,List.getD_cons_zero];have h:wO [26,28,29] a=true->wE a=true:=by
    intro h;simp[sD] at h⊢;omega
   cases h1:wO [26,28,29] a with
   | false=>simp
   | true=>rw[h h1];simp
 | a::b::c::r=>simp[rowB]
theorem abg:fJ p 13 n ks=(bz ks==[101]&&wO [27] (ks.getD 0 EQ)):=by
 rw[XO qL];show rowB [wO [27]] ks=_
 match ks with
 | []=>rfl
 | [a]=>
   simp only[rowB,Bool.and_true,List.getD_cons_zero];have h:wO [27] a=true->wE a=true:=by
    intro h;simp[sD] at h⊢;omega
   cases h1:wO [27] a with
   | false=>simp
   | true=>rw[h h1];simp
 | a::b::r=>simp[rowB]
theorem abo:fJ p 32 n ks=((bz ks==[116]&&wO [19] (ks.getD 0 EQ))||(bz ks==[116,101]&&wO [20] (ks.getD 0 EQ))):=by
 rw[XO RZ,ZY RZ qL];show (rowB [wO [19]] ks||rowB [wO [20],wE] ks)=_
 match ks with
 | []=>rfl
 | [a]=>
   simp only[rowB,Bool.and_true,List.getD_cons_zero,Bool.and_false,Bool.false_and,Bool.or_false];have h:wO [19] a=true->ES a=true:=by
    intro h;simp[sD] at h⊢;omega
   cases h1:wO [19] a with
   | false=>simp
   | true=>rw[h h1];simp
 | [a,b]=>
   simp only[rowB,Bool.and_true,List.getD_cons_zero,Bool.and_false,Bool.false_and,Bool.false_or];have h:wO [20] a=true->ES a=true:=by
    intro h;simp[sD] at h⊢;omega
   cases h1:wO [20] a with
   | false=>simp
   | true=>rw[h h1];simp
 | a::b::c::r=>simp[rowB]
theorem rf4:fJ p 4 n ks=(decide (2<=(bz ks).length)&&decide (((bz ks).length:Int) - 2=n)&&onlyB (sub (bz ks) 0 ((bz ks).length - 2)) 112&&(decide (bt (bz ks) ((bz ks).length - 2)=116)||decide (bt (bz ks) ((bz ks).length - 2)=48))&&decide (bt (bz ks) ((bz ks).length - 1)=98)):=by
 have hl:(bz ks).length=ks.length:=List.length_map _;have hb:∀ i,i<ks.length->bt (bz ks) i=sortB (ks.getD i EQ):=by
  intro i hi;rw[mF _ i (by omega)];have e:(bz ks)[i]'(by omega)=su ks[i]:=by simp[bz]
  rw[e,LU];simp[List.getD_eq_getElem?_getD,hi]
 have ht:∀ m,sub (bz ks) 0 m=bz (ks.take m):=by
  intro m;unfold sub bz;rw[List.drop_zero,<- List.map_take]
 show XN n ks=_;unfold XN;rw[hl];by_cases h2:2<=ks.length
 . rw[decide_eq_true h2,hb _ (by omega),hb _ (by omega),ht,mW WQ];have e1:decide ((ks.getD (ks.length - 1) EQ).k=6)=decide (sortB (ks.getD (ks.length - 1) EQ)=98):=by
    rw[Bool.eq_iff_iff,decide_eq_true_eq (p:=sortB _=98),O6]
   have e2:(decide ((ks.getD (ks.length - 2) EQ).k=14)||ES (ks.getD (ks.length - 2) EQ))=(decide (sortB (ks.getD (ks.length - 2) EQ)=116)||decide (sortB (ks.getD (ks.length - 2) EQ)=48)):=by
    rw[Bool.eq_iff_iff,Bool.or_eq_true,Bool.or_eq_true,decide_eq_true_eq,decide_eq_true_eq,decide_eq_true_eq,IY,Y3];exact or_comm
   rw[e1,e2];generalize decide (sortB (ks.getD (ks.length - 1) EQ)=98)=a;generalize (decide (sortB (ks.getD (ks.length - 2) EQ)=116)||decide (sortB (ks.getD (ks.length - 2) EQ)=48))=b;generalize (ks.take (ks.length - 2)).all (wO [5])=c;generalize decide ((ks.length:Int) - 2=n)=d;cases a<;>cases b<;>cases c<;>cases d<;>rfl
 . rw[decide_eq_false h2];rfl
theorem rfD {k:Int} (h1:k<=0\/14<=k) (h2:k≠20) (h3:k<=26\/33<=k):fJ p k n ks=(bz ks==[]&&decide (14<=k)&&decide (k<=26)):=by
 by_cases h:14<=k/\k<=26
 . rw[decide_eq_true h.1,decide_eq_true h.2,Bool.and_true,Bool.and_true,fs0];have:k=14\/k=15\/k=16\/k=17\/k=18\/k=19\/k=21\/k=22\/k=23\/k=24\/k=25\/k=26:=by omega
   rcases this with rfl | rfl | rfl | rfl | rfl | rfl | rfl | rfl | rfl | rfl | rfl | rfl<;>rfl
 . have e:(decide (14<=k)&&decide (k<=26))=false:=by
    rw[Bool.and_eq_false_iff,decide_eq_false_iff_not,decide_eq_false_iff_not];omega
   rw[Bool.and_assoc,e,Bool.and_false];unfold fJ dR
   repeat rw[if_neg (by omega)]
end
section
attribute [local go_sem] aY aX aA ak ax aF aT aJ au says_again
def yx:Fm:=(.C 30 [.L 0,.J 0] (.p (.L 1)) ⟨0,0,0,0,1,0⟩
 (.mk [] 5 0
 (.loop 0 ⟨[(.c 0)],[],[],[],[(.x 2)],[]⟩
 (.ite (.lt (.x 1) (.cnt (.x 1)))
 (.N (.X (.x 1) (.x 1))
 (.O (.el (.x 1) (.x 1) 1 0) 1 [.J 2] ⟨1,0,0,0,0,0⟩
 (.N (.X (.x 2) (.x 0))
 (.O (.el (.x 0) (.x 2) 6 0) 6 [.U 3,.J 4,.J 5,.J 6,.J 7,(.s (.x 0))] ⟨5,0,1,0,0,0⟩
 (.C 65 [(.agg [.U 3,.J 4,.J 5,.J 6,.J 7,(.s (.x 0))])] (.p (.one (.U 8))) ⟨1,0,0,0,0,0⟩
 (.mk [.U 8] 5 1
 (.app (.x 3) (.x 4) 1 1 5
 (.N (.R (.add (.x 1) (.c 1)))
 (.again 0 ⟨1,0,0,0,3,0⟩ ⟨2,0,0,0,4,0⟩ ⟨[(.add (.x 1) (.c 1))],[],[],[],[(.x 5)],[]⟩)))))))))
 (.str (.x 3)
 (.ite (.lt (.c 0) (.cnt (.x 1)))
 (.N (.X (.c 0) (.x 1))
 (.O (.el (.x 1) (.c 0) 1 0) 1 [.J 2] ⟨1,0,0,0,0,0⟩
 (.N (.X (.x 2) (.x 0))
 (.O (.el (.x 0) (.x 2) 6 0) 6 [.U 3,.J 4,.J 5,.J 6,.J 7,(.s (.x 1))] ⟨5,0,1,0,0,0⟩
 (.N (.X (.x 0) (.x 0))
 (.N (.nns (.x 0))
 (.O (.el (.x 0) (.x 0) 6 0) 1 [.U 8] ⟨1,0,0,0,0,0⟩
 (.ite (.eqI (.x 8) (.c 1))
 (.call (.eqI (.x 0) (.c 0)) false 66 [.S 0,(.one (.i .u8 (.c 100)))] (.p (.B 0)) ⟨0,1,0,0,0,0⟩
 (.ret (.p (.one (.b (.and (.eqI (.x 0) (.c 0)) (.x 0)))))))
 (.ite (.eqI (.x 8) (.c 2))
 (.C 66 [.S 0,(.one (.i .u8 (.c 102)))] (.p (.B 0)) ⟨0,1,0,0,0,0⟩
 (.ret (.p (.B 0))))
 (.ite (.eqI (.x 8) (.c 3))
 (.ret (.p (.one (.b (.eqS (.x 0) (.c [116]))))))
 (.ite (.eqI (.x 8) (.c 5))
 (.ret (.p (.one (.b (.eqS (.x 0) (.c [116]))))))
 (.ite (.eqI (.x 8) (.c 20))
 (.ret (.p (.one (.b (.eqS (.x 0) (.c [116]))))))
 (.ite (.eqI (.x 8) (.c 4))
 (.need (.le (.c 2) (.len (.x 0))) (.R (.sub (.len (.x 0)) (.c 2)))
 (.need (.le (.c 2) (.len (.x 0))) (.X (.x 0) (.x 0))
 (.need (.le (.c 2) (.len (.x 0))) (.nns (.x 0))
 (.load (.le (.c 2) (.len (.x 0))) (.el (.x 0) (.x 0) 6 4) 1 [.J 9] ⟨1,0,0,0,0,0⟩
 (.need (.and (.le (.c 2) (.len (.x 0))) (.eqI (.sub (.len (.x 0)) (.c 2)) (.x 9))) (.R (.sub (.len (.x 0)) (.c 2)))
 (.need (.and (.le (.c 2) (.len (.x 0))) (.eqI (.sub (.len (.x 0)) (.c 2)) (.x 9))) (.and (.le (.c 0) (.sub (.len (.x 0)) (.c 2))) (.le (.sub (.len (.x 0)) (.c 2)) (.len (.x 0))))
 (.call (.and (.le (.c 2) (.len (.x 0))) (.eqI (.sub (.len (.x 0)) (.c 2)) (.x 9))) false 66 [(.one (.s (.sub (.x 0) (.c 0) (.sub (.len (.x 0)) (.c 2))))),(.one (.i .u8 (.c 112)))] (.p (.B 0)) ⟨0,1,0,0,0,0⟩
 (.need (.and (.and (.le (.c 2) (.len (.x 0))) (.eqI (.sub (.len (.x 0)) (.c 2)) (.x 9))) (.x 0)) (.R (.sub (.len (.x 0)) (.c 2)))
 (.need (.and (.and (.le (.c 2) (.len (.x 0))) (.eqI (.sub (.len (.x 0)) (.c 2)) (.x 9))) (.x 0)) (.and (.le (.c 0) (.sub (.len (.x 0)) (.c 2))) (.lt (.sub (.len (.x 0)) (.c 2)) (.len (.x 0))))
 (.need (.and (.and (.and (.le (.c 2) (.len (.x 0))) (.eqI (.sub (.len (.x 0)) (.c 2)) (.x 9))) (.x 0)) (.not (.eqI (.at (.x 0) (.sub (.len (.x 0)) (.c 2))) (.c 116)))) (.R (.sub (.len (.x 0)) (.c 2)))
 (.need (.and (.and (.and (.le (.c 2) (.len (.x 0))) (.eqI (.sub (.len (.x 0)) (.c 2)) (.x 9))) (.x 0)) (.not (.eqI (.at (.x 0) (.sub (.len (.x 0)) (.c 2))) (.c 116)))) (.and (.le (.c 0) (.sub (.len (.x 0)) (.c 2))) (.lt (.sub (.len (.x 0)) (.c 2)) (.len (.x 0))))
 (.need (.and (.and (.and (.le (.c 2) (.len (.x 0))) (.eqI (.sub (.len (.x 0)) (.c 2)) (.x 9))) (.x 0)) (.or (.eqI (.at (.x 0) (.sub (.len (.x 0)) (.c 2))) (.c 116)) (.eqI (.at (.x 0) (.sub (.len (.x 0)) (.c 2))) (.c 48)))) (.R (.sub (.len (.x 0)) (.c 1)))
 (.need (.and (.and (.and (.le (.c 2) (.len (.x 0))) (.eqI (.sub (.len (.x 0)) (.c 2)) (.x 9))) (.x 0)) (.or (.eqI (.at (.x 0) (.sub (.len (.x 0)) (.c 2))) (.c 116)) (.eqI (.at (.x 0) (.sub (.len (.x 0)) (.c 2))) (.c 48)))) (.and (.le (.c 0) (.sub (.len (.x 0)) (.c 1))) (.lt (.sub (.len (.x 0)) (.c 1)) (.len (.x 0))))
 (.ret (.p (.one (.b (.and (.and (.and (.and (.le (.c 2) (.len (.x 0))) (.eqI (.sub (.len (.x 0)) (.c 2)) (.x 9))) (.x 0)) (.or (.eqI (.at (.x 0) (.sub (.len (.x 0)) (.c 2))) (.c 116)) (.eqI (.at (.x 0) (.sub (.len (.x 0)) (.c 2))) (.c 48)))) (.eqI (.at (.x 0) (.sub (.len (.x 0)) (.c 1))) (.c 98))))))))))))))))))))
 (.ite (.eqI (.x 8) (.c 6))
 (.C 66 [.S 0,(.one (.i .u8 (.c 115)))] (.p (.B 0)) ⟨0,1,0,0,0,0⟩
 (.ret (.p (.B 0))))
 (.ite (.eqI (.x 8) (.c 7))
 (.ret (.p (.one (.b (.eqS (.x 0) (.c [116,101]))))))
 (.ite (.eqI (.x 8) (.c 8))
 (.ret (.p (.one (.b (.and (.eqS (.x 0) (.c [101,101])) (.or (.or (.eqI (.x 3) (.c 26)) (.eqI (.x 3) (.c 28))) (.eqI (.x 3) (.c 29))))))))
 (.ite (.eqI (.x 8) (.c 9))
 (.ret (.p (.one (.b (.or (.eqS (.x 0) (.c [101,98])) (.eqS (.x 0) (.c [101,98,98])))))))
 (.ite (.eqI (.x 8) (.c 10))
 (.ret (.p (.one (.b (.eqS (.x 0) (.c [101,98]))))))
 (.ite (.eqI (.x 8) (.c 11))
 (.ret (.p (.one (.b (.or (.eqS (.x 0) (.c [])) (.eqS (.x 0) (.c [101])))))))
 (.ite (.eqI (.x 8) (.c 12))
 (.ret (.p (.one (.b (.eqS (.x 0) (.c [101]))))))
 (.ite (.eqI (.x 8) (.c 29))
 (.ret (.p (.one (.b (.eqS (.x 0) (.c [101]))))))
 (.ite (.eqI (.x 8) (.c 30))
 (.ret (.p (.one (.b (.eqS (.x 0) (.c [101]))))))
 (.ite (.eqI (.x 8) (.c 13))
 (.ret (.p (.one (.b (.and (.eqS (.x 0) (.c [101])) (.eqI (.x 3) (.c 27)))))))
 (.ite (.eqI (.x 8) (.c 27))
 (.C 66 [.S 0,(.one (.i .u8 (.c 101)))] (.p (.B 0)) ⟨0,1,0,0,0,0⟩
 (.ret (.p (.B 0))))
 (.ite (.eqI (.x 8) (.c 28))
 (.ret (.p (.one (.b (.eqS (.x 0) (.c [101,101]))))))
 (.ite (.eqI (.x 8) (.c 31))
 (.ret (.p (.one (.b (.eqS (.x 0) (.c [101,101]))))))
 (.ite (.eqI (.x 8) (.c 32))
 (.ret (.p (.one (.b (.or (.and (.eqS (.x 0) (.c [116])) (.eqI (.x 3) (.c 19))) (.and (.eqS (.x 0) (.c [116,101])) (.eqI (.x 3) (.c 20))))))))
 (.need (.eqS (.x 0) (.c [])) (.X (.x 0) (.x 0))
 (.need (.eqS (.x 0) (.c [])) (.nns (.x 0))
 (.load (.eqS (.x 0) (.c [])) (.el (.x 0) (.x 0) 6 0) 1 [.U 9] ⟨1,0,0,0,0,0⟩
 (.need (.and (.eqS (.x 0) (.c [])) (.le (.c 14) (.x 9))) (.X (.x 0) (.x 0))
 (.need (.and (.eqS (.x 0) (.c [])) (.le (.c 14) (.x 9))) (.nns (.x 0))
 (.load (.and (.eqS (.x 0) (.c [])) (.le (.c 14) (.x 9))) (.el (.x 0) (.x 0) 6 0) 1 [.U 10] ⟨1,0,0,0,0,0⟩
 (.ret (.p (.one (.b (.and (.and (.eqS (.x 0) (.c [])) (.le (.c 14) (.x 9))) (.le (.x 10) (.c 26))))))))))))))))))))))))))))))))))))))))
 (.N (.X (.x 0) (.x 0))
 (.N (.nns (.x 0))
 (.O (.el (.x 0) (.x 0) 6 0) 1 [.U 2] ⟨1,0,0,0,0,0⟩
 (.ite (.eqI (.x 2) (.c 1))
 (.call (.eqI (.x 0) (.c 0)) false 66 [.S 0,(.one (.i .u8 (.c 100)))] (.p (.B 0)) ⟨0,1,0,0,0,0⟩
 (.ret (.p (.one (.b (.and (.eqI (.x 0) (.c 0)) (.x 0)))))))
 (.ite (.eqI (.x 2) (.c 2))
 (.C 66 [.S 0,(.one (.i .u8 (.c 102)))] (.p (.B 0)) ⟨0,1,0,0,0,0⟩
 (.ret (.p (.B 0))))
 (.ite (.eqI (.x 2) (.c 3))
 (.ret (.p (.one (.b (.eqS (.x 0) (.c [116]))))))
 (.ite (.eqI (.x 2) (.c 5))
 (.ret (.p (.one (.b (.eqS (.x 0) (.c [116]))))))
 (.ite (.eqI (.x 2) (.c 20))
 (.ret (.p (.one (.b (.eqS (.x 0) (.c [116]))))))
 (.ite (.eqI (.x 2) (.c 4))
 (.need (.le (.c 2) (.len (.x 0))) (.R (.sub (.len (.x 0)) (.c 2)))
 (.need (.le (.c 2) (.len (.x 0))) (.X (.x 0) (.x 0))
 (.need (.le (.c 2) (.len (.x 0))) (.nns (.x 0))
 (.load (.le (.c 2) (.len (.x 0))) (.el (.x 0) (.x 0) 6 4) 1 [.J 3] ⟨1,0,0,0,0,0⟩
 (.need (.and (.le (.c 2) (.len (.x 0))) (.eqI (.sub (.len (.x 0)) (.c 2)) (.x 3))) (.R (.sub (.len (.x 0)) (.c 2)))
 (.need (.and (.le (.c 2) (.len (.x 0))) (.eqI (.sub (.len (.x 0)) (.c 2)) (.x 3))) (.and (.le (.c 0) (.sub (.len (.x 0)) (.c 2))) (.le (.sub (.len (.x 0)) (.c 2)) (.len (.x 0))))
 (.call (.and (.le (.c 2) (.len (.x 0))) (.eqI (.sub (.len (.x 0)) (.c 2)) (.x 3))) false 66 [(.one (.s (.sub (.x 0) (.c 0) (.sub (.len (.x 0)) (.c 2))))),(.one (.i .u8 (.c 112)))] (.p (.B 0)) ⟨0,1,0,0,0,0⟩
 (.need (.and (.and (.le (.c 2) (.len (.x 0))) (.eqI (.sub (.len (.x 0)) (.c 2)) (.x 3))) (.x 0)) (.R (.sub (.len (.x 0)) (.c 2)))
 (.need (.and (.and (.le (.c 2) (.len (.x 0))) (.eqI (.sub (.len (.x 0)) (.c 2)) (.x 3))) (.x 0)) (.and (.le (.c 0) (.sub (.len (.x 0)) (.c 2))) (.lt (.sub (.len (.x 0)) (.c 2)) (.len (.x 0))))
 (.need (.and (.and (.and (.le (.c 2) (.len (.x 0))) (.eqI (.sub (.len (.x 0)) (.c 2)) (.x 3))) (.x 0)) (.not (.eqI (.at (.x 0) (.sub (.len (.x 0)) (.c 2))) (.c 116)))) (.R (.sub (.len (.x 0)) (.c 2)))
 (.need (.and (.and (.and (.le (.c 2) (.len (.x 0))) (.eqI (.sub (.len (.x 0)) (.c 2)) (.x 3))) (.x 0)) (.not (.eqI (.at (.x 0) (.sub (.len (.x 0)) (.c 2))) (.c 116)))) (.and (.le (.c 0) (.sub (.len (.x 0)) (.c 2))) (.lt (.sub (.len (.x 0)) (.c 2)) (.len (.x 0))))
 (.need (.and (.and (.and (.le (.c 2) (.len (.x 0))) (.eqI (.sub (.len (.x 0)) (.c 2)) (.x 3))) (.x 0)) (.or (.eqI (.at (.x 0) (.sub (.len (.x 0)) (.c 2))) (.c 116)) (.eqI (.at (.x 0) (.sub (.len (.x 0)) (.c 2))) (.c 48)))) (.R (.sub (.len (.x 0)) (.c 1)))
 (.need (.and (.and (.and (.le (.c 2) (.len (.x 0))) (.eqI (.sub (.len (.x 0)) (.c 2)) (.x 3))) (.x 0)) (.or (.eqI (.at (.x 0) (.sub (.len (.x 0)) (.c 2))) (.c 116)) (.eqI (.at (.x 0) (.sub (.len (.x 0)) (.c 2))) (.c 48)))) (.and (.le (.c 0) (.sub (.len (.x 0)) (.c 1))) (.lt (.sub (.len (.x 0)) (.c 1)) (.len (.x 0))))
 (.ret (.p (.one (.b (.and (.and (.and (.and (.le (.c 2) (.len (.x 0))) (.eqI (.sub (.len (.x 0)) (.c 2)) (.x 3))) (.x 0)) (.or (.eqI (.at (.x 0) (.sub (.len (.x 0)) (.c 2))) (.c 116)) (.eqI (.at (.x 0) (.sub (.len (.x 0)) (.c 2))) (.c 48)))) (.eqI (.at (.x 0) (.sub (.len (.x 0)) (.c 1))) (.c 98))))))))))))))))))))
 (.ite (.eqI (.x 2) (.c 6))
 (.C 66 [.S 0,(.one (.i .u8 (.c 115)))] (.p (.B 0)) ⟨0,1,0,0,0,0⟩
 (.ret (.p (.B 0))))
 (.ite (.eqI (.x 2) (.c 7))
 (.ret (.p (.one (.b (.eqS (.x 0) (.c [116,101]))))))
 (.ite (.eqI (.x 2) (.c 8))
 (.ret (.p (.one (.b (.and (.eqS (.x 0) (.c [101,101])) (.or (.or (.eqI (.c 0) (.c 26)) (.eqI (.c 0) (.c 28))) (.eqI (.c 0) (.c 29))))))))
 (.ite (.eqI (.x 2) (.c 9))
 (.ret (.p (.one (.b (.or (.eqS (.x 0) (.c [101,98])) (.eqS (.x 0) (.c [101,98,98])))))))
 (.ite (.eqI (.x 2) (.c 10))
 (.ret (.p (.one (.b (.eqS (.x 0) (.c [101,98]))))))
 (.ite (.eqI (.x 2) (.c 11))
 (.ret (.p (.one (.b (.or (.eqS (.x 0) (.c [])) (.eqS (.x 0) (.c [101])))))))
 (.ite (.eqI (.x 2) (.c 12))
 (.ret (.p (.one (.b (.eqS (.x 0) (.c [101]))))))
 (.ite (.eqI (.x 2) (.c 29))
 (.ret (.p (.one (.b (.eqS (.x 0) (.c [101]))))))
 (.ite (.eqI (.x 2) (.c 30))
 (.ret (.p (.one (.b (.eqS (.x 0) (.c [101]))))))
 (.ite (.eqI (.x 2) (.c 13))
 (.ret (.p (.one (.b (.and (.eqS (.x 0) (.c [101])) (.eqI (.c 0) (.c 27)))))))
 (.ite (.eqI (.x 2) (.c 27))
 (.C 66 [.S 0,(.one (.i .u8 (.c 101)))] (.p (.B 0)) ⟨0,1,0,0,0,0⟩
 (.ret (.p (.B 0))))
 (.ite (.eqI (.x 2) (.c 28))
 (.ret (.p (.one (.b (.eqS (.x 0) (.c [101,101]))))))
 (.ite (.eqI (.x 2) (.c 31))
 (.ret (.p (.one (.b (.eqS (.x 0) (.c [101,101]))))))
 (.ite (.eqI (.x 2) (.c 32))
 (.ret (.p (.one (.b (.or (.and (.eqS (.x 0) (.c [116])) (.eqI (.c 0) (.c 19))) (.and (.eqS (.x 0) (.c [116,101])) (.eqI (.c 0) (.c 20))))))))
 (.need (.eqS (.x 0) (.c [])) (.X (.x 0) (.x 0))
 (.need (.eqS (.x 0) (.c [])) (.nns (.x 0))
 (.load (.eqS (.x 0) (.c [])) (.el (.x 0) (.x 0) 6 0) 1 [.U 3] ⟨1,0,0,0,0,0⟩
 (.need (.and (.eqS (.x 0) (.c [])) (.le (.c 14) (.x 3))) (.X (.x 0) (.x 0))
 (.need (.and (.eqS (.x 0) (.c [])) (.le (.c 14) (.x 3))) (.nns (.x 0))
 (.load (.and (.eqS (.x 0) (.c [])) (.le (.c 14) (.x 3))) (.el (.x 0) (.x 0) 6 0) 1 [.U 4] ⟨1,0,0,0,0,0⟩
 (.ret (.p (.one (.b (.and (.and (.eqS (.x 0) (.c [])) (.le (.c 14) (.x 3))) (.le (.x 4) (.c 26))))))))))))))))))))))))))))))))))))))))))
theorem Ht:aU ⟨true,[1000005]⟩ Tryz.prog (fun l=>([⟨[6,17],[18,19,7,20,21,22,23,24,25,26,27,28,29,30,31],[]⟩]:List bG).getD l ⟨[],[],[]⟩) Tryz.f37=yx:=by kernel_rfl
theorem Lh:az Tryz.prog .zero Tryz.f37.params.toList=some ([.L 0,.J 0],⟨1,0,0,0,1,0⟩):=by kernel_rfl
def Uf (p:Nat) (sl:bM) (h:Hp) (ks:List Tr) (_:Nat) (C:Ctx):Prop:=
 ∃ (j:Nat) (kl lit out:bM) (k0 hh:Hp),C=⟨[p,j],[],[],[],[sl,kl,lit,out],[],hh,cu⟩/\j<=ks.length/\bY h k0/\iy k0 kl (places ((p+1:Nat):Int) ks)/\kl.n=ks.length/\BI k0 out (bz ((ks.take j).map Tr.g)) hh
theorem rq.pss {l:List Ng} {p:Nat} {x:Ng} {ks:List Tr} (H:rq l p x ks):EO l (p+1) ks:=by
 have hf:=H.fit;obtain⟨_,_,r,hr⟩:=H;exact⟨l.take (p+1),r,by rw[List.append_assoc,<- hr,List.take_append_drop],by rw[List.length_take];omega⟩
theorem BO (k:Int):k=1\/k=2\/k=3\/k=4\/k=5\/k=20\/k=6\/k=7\/k=8\/k=9\/k=10\/k=11\/k=12\/k=13\/k=27\/k=28\/k=29\/k=30\/k=31\/k=32\/(¬ k=1/\¬ k=2/\¬ k=3/\¬ k=4/\¬ k=5/\¬ k=20/\¬ k=6/\¬ k=7/\¬ k=8/\¬ k=9/\¬ k=10/\¬ k=11/\¬ k=12/\¬ k=13/\¬ k=27/\¬ k=28/\¬ k=29/\¬ k=30/\¬ k=31/\¬ k=32):=by omega
set_option maxRecDepth 100000 in
set_option maxHeartbeats 16000000 in
def AA:Ct Tryz.prog where
 f:=37
 spec:=fun args h φ=>∃ sl l p x ks,args=[bM.val sl,.int .i64 ((p:Nat):Int)]/\NG h sl l/\l.length<=1000000/\rq l p x ks/\φ (.bool (fJ p x.k x.n (ks.map Tr.g))) h
 ok:=by
  rintro args h φ w ⟨sl,l,p,x,ks,rfl,R,hl,H,hφ⟩ hH;refine bQ (aZ Tryz.func37 Ht Lh [wQ,MW,MR] (fun v k=>∃ k',bY k' k/\φ v k') (Uf p sl h ks) (fun _ C=>((ks.length:Int) - C.i.getD 1 0).toNat) ⟨[((p:Nat):Int)],[],[],[],[sl],[],h,cu⟩ ⟨rfl,rfl,rfl,rfl,rfl,rfl⟩ af ?_ w hH rfl);generalize hE:(⟨aG _,_,_,_⟩:Env)=E;have sbq:E.spec 30=(wQ).spec:=by rw[<- hE];rfl
  have sbr:E.spec 65=(MW).spec:=by rw[<- hE];rfl
  have sbs:E.spec 66=(MR).spec:=by rw[<- hE];rfl
  have ep:E.post=(fun v k=>∃ k',bY k' k/\φ v k'):=by rw[<- hE]
  have ei:E.inv=(Uf p sl h ks):=by rw[<- hE]
  have em:E.meas=(fun _ C=>((ks.length:Int) - C.i.getD 1 0).toNat):=by rw[<- hE]
  clear hE;unfold yx;have hn:=NG.n R;have hfit:=H.fit;have hps:=H.pss;obtain⟨hp,hpx⟩:=List.getElem?_eq_some_iff.1 H.1;have hkl:ks.length<=1000000:=by
   have h1:∀ ts:List Tr,ts.length<=Tr.ns ts:=fun ts=>by
    induction ts with
    | nil=>exact Nat.le_refl _
    | cons a d ih=>have:=oq a;rw[aI,List.length_cons];omega
   have:=h1 ks;omega
  obtain⟨b,o,ha⟩:=Rows.nn R (j:=p) (by omega);have hre:∀ {k:Hp} {q:Nat},bY h k->(hq:q<l.length)->hread k (some (b,o+q*6+0)) 6=some l[q].cs:=fun hk hq=>NG.node (NG.le R hk) hq ha
  have hr1:∀ {k:Hp} (off:Nat) (v:Value),bY h k->off<6->(x.cs.drop off).take 1=[v]->hread k (some (b,o+p*6+off)) 1=some [v]:=by
   intro k off v hk ho hv;have:=Rows.read (off:=off) (m:=1) (NG.le R hk) (j:=p) (by omega) (by omega) ha;rw[<- List.drop_drop,eP hp,hpx] at this;rw[this];obtain⟨k1,l1,c1,z1,n1,s1⟩:=x;congr 1;rw[<- hv]
   match off,ho with
   | 0,_ | 1,_ | 2,_ | 3,_ | 4,_ | 5,_=>rfl
  rw[ax,if_pos (by rfl),sbq];refine⟨sl,l,p,x,ks,rfl,R,hl,H,fun kl k0 hle0 hI hkn=>?_⟩;refine rR ⟨[],[],[],[],[kl],[]⟩ rfl af rfl ?_;rw[ae,aW];intro b0 hb0;have hb0':k0 b0=none:=hb0;rw[ae];refine bH ?_ ?_
  . rw[ei];exact⟨0,kl,⟨some (b0,0),0,0⟩,⟨some (b0,0),0,0⟩,k0,k0.set b0 ⟨[],5⟩,rfl,Nat.zero_le _,hle0,hI,hkn,⟨.inr ⟨b0,⟨[],5⟩,rfl,ay _ _ _,rfl,rfl,Nat.le_refl _,Nat.zero_le _,rfl⟩,rfl,by simp,fun z hz=>by cases hz;exact hb0',dU hb0' _⟩⟩
  clear hb0 hb0' hI hkn hle0 kl k0;rw[ei,em];rintro i bbs ss v ll pp hh M ⟨j,kl,lit,out,k0,hh1,hC,hj,hle0,hI,hkn,X⟩ hM;cases hC;have hM':M 0=((ks.length:Int) - j).toNat:=hM;clear hM;have hleh:bY h hh:=fun c oo hc=>X.kept c oo (hle0 c oo hc)
  by_cases hjl:j<ks.length
  . have hz:(j:Int)<kl.n:=by omega
    obtain⟨q,hq,hP⟩:=uO ks (p+1) hps j hjl;obtain⟨hqi,hqe⟩:=List.getElem?_eq_some_iff.1 hq;obtain⟨b2,o2,ha2,hr2⟩:=(hI.le X.kept).read (j:=j) (by rw[dn];exact hjl);rw[hqe] at hr2;obtain⟨hql,hqx⟩:=hP.node;have hrn:=hre hleh hql;rw[hqx] at hrn;have htk:(ks.take (j+1)).map Tr.g=(ks.take j).map Tr.g++[ks[j].g]:=by
     rw[List.take_succ_eq_append_getElem hjl,List.map_append];rfl
    generalize ks[j].g=y at *;rw[ak,if_pos (by simpa[go_sem] using hz)];rw[ag];refine⟨by simp[go_sem,ha2];omega,?_⟩;refine rL ⟨[(q:Int)],[],[],[],[],[]⟩ rfl af (by simpa[go_sem,ha2] using hr2) ?_;rw[ag];refine⟨by simp[go_sem,ha];omega,?_⟩;refine rL ⟨[y.k,y.l,y.c,y.z,y.n],[],[y.x],[],[],[]⟩ rfl af (by simpa[go_sem,ha,Ng.cs] using hrn) ?_;rw[ai,sbr];refine⟨y,rfl,?_⟩;refine rR ⟨[sortB y],[],[],[],[],[]⟩ rfl af rfl ?_;rw[ae,aW];intro bb hbb;have hbb':hh bb=none:=hbb;rw[ae];refine ry X (by rw[bz,List.length_map,List.length_map,List.length_take];omega) hbb' (c:=sortB y) (zJ y).1 (zJ y).2 rfl rfl rfl fun s' k' X'=>?_
    rw[aA];refine⟨by simp[go_sem]<;>omega,?_⟩;rw[ae,says_again,ei,em];refine⟨⟨j+1,kl,lit,s',k0,k',rfl,hjl,hle0,hI,hkn,?_⟩,?_⟩
    . rw[htk];unfold bz at X'⊢;rw[List.map_append];exact X'
    . show (((ks.length:Int) - (j+1:Nat)).toNat)<M 0;omega
  have hjk:j=ks.length:=by omega
  subst hjk;have hz:¬ (ks.length:Int)<kl.n:=by omega
  rw[List.take_length] at X;rw[ak,if_neg (by simpa[go_sem] using hz)];rw[ae,eQ];refine⟨bz (ks.map Tr.g),X.bytes,?_⟩;have hgl:(bz (ks.map Tr.g)).length=ks.length:=by rw[bz,List.length_map,List.length_map]
  have hfl:(bz (ks.map Tr.g)).length<=1000000:=by omega
  have rk:=hr1 (k:=hh) 0 (.int .u8 x.k) hleh (by omega) rfl;have rn:=hr1 (k:=hh) 4 (.int .i64 x.n) hleh (by omega) rfl;have fin:∀ (C:Ctx) (e:BE) (v:Bool),bY h C.h->φ (.bool v) h->e.den C=v->Then E (.ret (.p (.one (.b e)))) C:=by
   intro C e v hC hv he;rw[aj,ep];refine⟨h,hC,?_⟩;simp only[VE.den,PE.den,CE.den];rw[he];exact hv
  obtain⟨k,x1,x2,x3,n,x5⟩:=x;simp only at hφ rk rn;have hIh:=hI.le X.kept;clear H hr1 hpx hM' hz hI X;by_cases hks:ks=[]
  . subst hks;have hz:¬ (0:Int)<kl.n:=by rw[hkn];simp
    rw[ah,if_neg (by simpa[go_sem] using hz)];rw[ag];refine⟨by simp[go_sem,ha]<;>omega,?_⟩;rw[ag];refine⟨by simp[go_sem,ha],?_⟩;refine rL ⟨[k],[],[],[],[],[]⟩ rfl af (by simpa[go_sem,ha] using rk) ?_;rcases BO k with rfl | rfl | rfl | rfl | rfl | rfl | rfl | rfl | rfl | rfl | rfl | rfl | rfl | rfl | rfl | rfl | rfl | rfl | rfl | rfl | ⟨n1,n2,n3,n4,n5,n20,n6,n7,n8,n9,n10,n11,n12,n13,n27,n28,n29,n30,n31,n32⟩
    . repeat (first | (refine bV ?_ ?_;focus (simp[go_sem]<;>fail)) | (refine bU ?_ ?_;focus (simp[go_sem]<;>fail)) | fail)
      rw[rf1] at hφ;rw[bD];by_cases hp0:p=0
      . rw[if_pos (by simp[go_sem,hp0]),sbs];refine⟨_,100,rfl,hfl,?_⟩;refine rR ⟨[],[onlyB (bz (List.map Tr.g [])) 100],[],[],[],[]⟩ rfl af rfl ?_;refine fin _ _ _ hleh hφ ?_;simp[go_sem,hp0]
      . rw[if_neg (by simp[go_sem,hp0])];refine fin _ _ _ hleh hφ ?_;simp[go_sem,hp0]
    . repeat (first | (refine bV ?_ ?_;focus (simp[go_sem]<;>fail)) | (refine bU ?_ ?_;focus (simp[go_sem]<;>fail)) | fail)
      rw[rf2] at hφ;rw[ai,sbs];refine⟨_,102,rfl,hfl,?_⟩;refine rR ⟨[],[onlyB (bz (List.map Tr.g [])) 102],[],[],[],[]⟩ rfl af rfl ?_;refine fin _ _ _ hleh hφ ?_
      first | (simp[go_sem]<;>fail) | (simp[go_sem];rfl) | (simp[go_sem];done)
    . repeat (first | (refine bV ?_ ?_;focus (simp[go_sem]<;>fail)) | (refine bU ?_ ?_;focus (simp[go_sem]<;>fail)) | fail)
      rw[rf3] at hφ;refine fin _ _ _ hleh hφ ?_
      first | (simp[go_sem,bz]<;>fail) | (simp[go_sem,bz];rfl) | (simp[go_sem,bz];done)
    . repeat (first | (refine bV ?_ ?_;focus (simp[go_sem]<;>fail)) | (refine bU ?_ ?_;focus (simp[go_sem]<;>fail)) | fail)
      rw[rf4] at hφ;rw[ag];refine⟨by simp[go_sem,bz],?_⟩;rw[ag];refine⟨by simp[go_sem,bz],?_⟩;rw[ag];refine⟨by simp[go_sem,bz],?_⟩;rw[bP,if_neg (by simp[go_sem,bz])];rw[ag];refine⟨by simp[go_sem,bz],?_⟩;rw[ag];refine⟨by simp[go_sem,bz],?_⟩;rw[bD,if_neg (by simp[go_sem,bz])];rw[ag];refine⟨by simp[go_sem,bz],?_⟩;rw[ag];refine⟨by simp[go_sem,bz],?_⟩;rw[ag];refine⟨by simp[go_sem,bz],?_⟩;rw[ag];refine⟨by simp[go_sem,bz],?_⟩;rw[ag];refine⟨by simp[go_sem,bz],?_⟩;rw[ag];refine⟨by simp[go_sem,bz],?_⟩;refine fin _ _ _ hleh hφ ?_;simp[go_sem,bz]
    . repeat (first | (refine bV ?_ ?_;focus (simp[go_sem]<;>fail)) | (refine bU ?_ ?_;focus (simp[go_sem]<;>fail)) | fail)
      rw[rf5] at hφ;refine fin _ _ _ hleh hφ ?_
      first | (simp[go_sem,bz]<;>fail) | (simp[go_sem,bz];rfl) | (simp[go_sem,bz];done)
    . repeat (first | (refine bV ?_ ?_;focus (simp[go_sem]<;>fail)) | (refine bU ?_ ?_;focus (simp[go_sem]<;>fail)) | fail)
      rw[abh] at hφ;refine fin _ _ _ hleh hφ ?_
      first | (simp[go_sem,bz]<;>fail) | (simp[go_sem,bz];rfl) | (simp[go_sem,bz];done)
    . repeat (first | (refine bV ?_ ?_;focus (simp[go_sem]<;>fail)) | (refine bU ?_ ?_;focus (simp[go_sem]<;>fail)) | fail)
      rw[rf6] at hφ;rw[ai,sbs];refine⟨_,115,rfl,hfl,?_⟩;refine rR ⟨[],[onlyB (bz (List.map Tr.g [])) 115],[],[],[],[]⟩ rfl af rfl ?_;refine fin _ _ _ hleh hφ ?_
      first | (simp[go_sem]<;>fail) | (simp[go_sem];rfl) | (simp[go_sem];done)
    . repeat (first | (refine bV ?_ ?_;focus (simp[go_sem]<;>fail)) | (refine bU ?_ ?_;focus (simp[go_sem]<;>fail)) | fail)
      rw[rf7] at hφ;refine fin _ _ _ hleh hφ ?_
      first | (simp[go_sem,bz]<;>fail) | (simp[go_sem,bz];rfl) | (simp[go_sem,bz];done)
    . repeat (first | (refine bV ?_ ?_;focus (simp[go_sem]<;>fail)) | (refine bU ?_ ?_;focus (simp[go_sem]<;>fail)) | fail)
      rw[rf8] at hφ;refine fin _ _ _ hleh hφ ?_
      first | (simp[go_sem,bz]<;>fail) | (simp[go_sem,bz];rfl) | (simp[go_sem,bz];done)
    . repeat (first | (refine bV ?_ ?_;focus (simp[go_sem]<;>fail)) | (refine bU ?_ ?_;focus (simp[go_sem]<;>fail)) | fail)
      rw[rf9] at hφ;refine fin _ _ _ hleh hφ ?_
      first | (simp[go_sem,bz]<;>fail) | (simp[go_sem,bz];rfl) | (simp[go_sem,bz];done)
    . repeat (first | (refine bV ?_ ?_;focus (simp[go_sem]<;>fail)) | (refine bU ?_ ?_;focus (simp[go_sem]<;>fail)) | fail)
      rw[abd] at hφ;refine fin _ _ _ hleh hφ ?_
      first | (simp[go_sem,bz]<;>fail) | (simp[go_sem,bz];rfl) | (simp[go_sem,bz];done)
    . repeat (first | (refine bV ?_ ?_;focus (simp[go_sem]<;>fail)) | (refine bU ?_ ?_;focus (simp[go_sem]<;>fail)) | fail)
      rw[abe] at hφ;refine fin _ _ _ hleh hφ ?_
      first | (simp[go_sem,bz]<;>fail) | (simp[go_sem,bz];rfl) | (simp[go_sem,bz];done)
    . repeat (first | (refine bV ?_ ?_;focus (simp[go_sem]<;>fail)) | (refine bU ?_ ?_;focus (simp[go_sem]<;>fail)) | fail)
      rw[abf] at hφ;refine fin _ _ _ hleh hφ ?_
      first | (simp[go_sem,bz]<;>fail) | (simp[go_sem,bz];rfl) | (simp[go_sem,bz];done)
    . repeat (first | (refine bV ?_ ?_;focus (simp[go_sem]<;>fail)) | (refine bU ?_ ?_;focus (simp[go_sem]<;>fail)) | fail)
      rw[abg] at hφ;refine fin _ _ _ hleh hφ ?_
      first | (simp[go_sem,bz]<;>fail) | (simp[go_sem,bz];rfl) | (simp[go_sem,bz];done)
    . repeat (first | (refine bV ?_ ?_;focus (simp[go_sem]<;>fail)) | (refine bU ?_ ?_;focus (simp[go_sem]<;>fail)) | fail)
      rw[abj] at hφ;rw[ai,sbs];refine⟨_,101,rfl,hfl,?_⟩;refine rR ⟨[],[onlyB (bz (List.map Tr.g [])) 101],[],[],[],[]⟩ rfl af rfl ?_;refine fin _ _ _ hleh hφ ?_
      first | (simp[go_sem]<;>fail) | (simp[go_sem];rfl) | (simp[go_sem];done)
    . repeat (first | (refine bV ?_ ?_;focus (simp[go_sem]<;>fail)) | (refine bU ?_ ?_;focus (simp[go_sem]<;>fail)) | fail)
      rw[abk] at hφ;refine fin _ _ _ hleh hφ ?_
      first | (simp[go_sem,bz]<;>fail) | (simp[go_sem,bz];rfl) | (simp[go_sem,bz];done)
    . repeat (first | (refine bV ?_ ?_;focus (simp[go_sem]<;>fail)) | (refine bU ?_ ?_;focus (simp[go_sem]<;>fail)) | fail)
      rw[abl] at hφ;refine fin _ _ _ hleh hφ ?_
      first | (simp[go_sem,bz]<;>fail) | (simp[go_sem,bz];rfl) | (simp[go_sem,bz];done)
    . repeat (first | (refine bV ?_ ?_;focus (simp[go_sem]<;>fail)) | (refine bU ?_ ?_;focus (simp[go_sem]<;>fail)) | fail)
      rw[abm] at hφ;refine fin _ _ _ hleh hφ ?_
      first | (simp[go_sem,bz]<;>fail) | (simp[go_sem,bz];rfl) | (simp[go_sem,bz];done)
    . repeat (first | (refine bV ?_ ?_;focus (simp[go_sem]<;>fail)) | (refine bU ?_ ?_;focus (simp[go_sem]<;>fail)) | fail)
      rw[abn] at hφ;refine fin _ _ _ hleh hφ ?_
      first | (simp[go_sem,bz]<;>fail) | (simp[go_sem,bz];rfl) | (simp[go_sem,bz];done)
    . repeat (first | (refine bV ?_ ?_;focus (simp[go_sem]<;>fail)) | (refine bU ?_ ?_;focus (simp[go_sem]<;>fail)) | fail)
      rw[abo] at hφ;refine fin _ _ _ hleh hφ ?_
      first | (simp[go_sem,bz]<;>fail) | (simp[go_sem,bz];rfl) | (simp[go_sem,bz];done)
    . repeat (first | (refine bV ?_ ?_;focus (simp[go_sem,n1,n2,n3,n4,n5,n20,n6,n7,n8,n9,n10,n11,n12,n13,n27,n28,n29,n30,n31,n32]<;>fail)) | (refine bU ?_ ?_;focus (simp[go_sem,n1,n2,n3,n4,n5,n20,n6,n7,n8,n9,n10,n11,n12,n13,n27,n28,n29,n30,n31,n32]<;>fail)) | fail)
      rw[rfD _ _ _ (by omega) (by omega) (by omega)] at hφ;rw[ag];refine⟨by simp[go_sem,bz,ha]<;>omega,?_⟩;rw[ag];refine⟨by simp[go_sem,ha],?_⟩;rw[bP,if_pos (by simp[go_sem,bz])];refine (bn _ _).2 ⟨⟨[k],[],[],[],[],[]⟩,rfl,af,by simpa[go_sem,ha] using rk,?_⟩;rw[ag];refine⟨by simp[go_sem,bz,ha]<;>omega,?_⟩;rw[ag];refine⟨by simp[go_sem,ha],?_⟩;by_cases h14:14<=k
      . rw[bP,if_pos (by simp[go_sem,bz,h14])];refine (bn _ _).2 ⟨⟨[k],[],[],[],[],[]⟩,rfl,af,by simpa[go_sem,ha] using rk,?_⟩;refine fin _ _ _ hleh hφ ?_;simp[go_sem,bz,h14,leB]
      . rw[bP,if_neg (by simp[go_sem,bz];omega)];refine fin _ _ _ hleh hφ ?_;simp[go_sem,bz,h14]
  have hpos:0<ks.length:=List.length_pos_iff.2 hks;have hz:(0:Int)<kl.n:=by omega
  obtain⟨t0,kr,rfl⟩:∃ t r,ks=t::r:=by
   cases ks with
   | nil=>exact absurd rfl hks
   | cons t r=>exact⟨t,r,rfl⟩
  obtain⟨b2,o2,ha2,hr2⟩:=hIh.read (j:=0) (by rw[dn];exact hpos);have hr2':hread hh (some (b2,o2+0*1+0)) 1=some [.int .i64 ((p+1:Nat):Int)]:=hr2;obtain⟨hql,hqx⟩:=hps.cons.1.node;have hrn:=hre hleh hql;rw[hqx] at hrn;have hfst:(List.map Tr.g (t0::kr)).getD 0 EQ=t0.g:=rfl;have hS0:¬ bz (List.map Tr.g (t0::kr))=[]:=by simp[bz]
  generalize t0::kr=ks at *;generalize t0.g=y at *;rw[ah,if_pos (by simpa[go_sem] using hz)];rw[ag];refine⟨by simp[go_sem,ha2]<;>omega,?_⟩;refine rL ⟨[((p+1:Nat):Int)],[],[],[],[],[]⟩ rfl af (by simpa[go_sem,ha2] using hr2') ?_;rw[ag];refine⟨by simp[go_sem,ha]<;>omega,?_⟩;refine rL ⟨[y.k,y.l,y.c,y.z,y.n],[],[y.x],[],[],[]⟩ rfl af (by simpa[go_sem,ha,Ng.cs] using hrn) ?_;rw[ag];refine⟨by simp[go_sem,ha]<;>omega,?_⟩;rw[ag];refine⟨by simp[go_sem,ha],?_⟩;refine rL ⟨[k],[],[],[],[],[]⟩ rfl af (by simpa[go_sem,ha] using rk) ?_;rcases BO k with rfl | rfl | rfl | rfl | rfl | rfl | rfl | rfl | rfl | rfl | rfl | rfl | rfl | rfl | rfl | rfl | rfl | rfl | rfl | rfl | ⟨n1,n2,n3,n4,n5,n20,n6,n7,n8,n9,n10,n11,n12,n13,n27,n28,n29,n30,n31,n32⟩
  . repeat (first | (refine bV ?_ ?_;focus (simp[go_sem]<;>fail)) | (refine bU ?_ ?_;focus (simp[go_sem]<;>fail)) | fail)
    rw[rf1] at hφ;rw[bD];by_cases hp0:p=0
    . rw[if_pos (by simp[go_sem,hp0]),sbs];refine⟨_,100,rfl,hfl,?_⟩;refine rR ⟨[],[onlyB (bz (List.map Tr.g ks)) 100],[],[],[],[]⟩ rfl af rfl ?_;refine fin _ _ _ hleh hφ ?_;simp[go_sem,hp0]
    . rw[if_neg (by simp[go_sem,hp0])];refine fin _ _ _ hleh hφ ?_;simp[go_sem,hp0]
  . repeat (first | (refine bV ?_ ?_;focus (simp[go_sem]<;>fail)) | (refine bU ?_ ?_;focus (simp[go_sem]<;>fail)) | fail)
    rw[rf2] at hφ;rw[ai,sbs];refine⟨_,102,rfl,hfl,?_⟩;refine rR ⟨[],[onlyB (bz (List.map Tr.g ks)) 102],[],[],[],[]⟩ rfl af rfl ?_;refine fin _ _ _ hleh hφ ?_
    first | (simp[go_sem]<;>fail) | (simp[go_sem];rfl) | (simp[go_sem];done)
  . repeat (first | (refine bV ?_ ?_;focus (simp[go_sem]<;>fail)) | (refine bU ?_ ?_;focus (simp[go_sem]<;>fail)) | fail)
    rw[rf3] at hφ;refine fin _ _ _ hleh hφ ?_
    first | (simp[go_sem]<;>fail) | (simp[go_sem];rfl) | (simp[go_sem];done)
  . repeat (first | (refine bV ?_ ?_;focus (simp[go_sem]<;>fail)) | (refine bU ?_ ?_;focus (simp[go_sem]<;>fail)) | fail)
    rw[rf4] at hφ;generalize bz (List.map Tr.g ks)=S at *;have e2:((S.length:Int) - 2).toNat=S.length - 2:=by omega
    have e1:((S.length:Int) - 1).toNat=S.length - 1:=by omega
    have e3:sub S 0 (S.length - 2)=S.take (S.length - 2):=by unfold sub;rw[List.drop_zero]
    by_cases hA:2<=S.length;rotate_left
    . have hA':¬ (2:Int)<=S.length:=by omega
      rw[ag];refine⟨by simp[go_sem,hA'],?_⟩;rw[ag];refine⟨by simp[go_sem,hA'],?_⟩;rw[ag];refine⟨by simp[go_sem,hA'],?_⟩;rw[bP,if_neg (by simp[go_sem,hA'])];rw[ag];refine⟨by simp[go_sem,hA'],?_⟩;rw[ag];refine⟨by simp[go_sem,hA'],?_⟩;rw[bD,if_neg (by simp[go_sem,hA'])];rw[ag];refine⟨by simp[go_sem],?_⟩;rw[ag];refine⟨by simp[go_sem],?_⟩;rw[ag];refine⟨by simp[go_sem],?_⟩;rw[ag];refine⟨by simp[go_sem],?_⟩;rw[ag];refine⟨by simp[go_sem],?_⟩;rw[ag];refine⟨by simp[go_sem],?_⟩;refine fin _ _ _ hleh hφ ?_;simp[go_sem,hA]
    have hA':(2:Int)<=S.length:=by omega
    rw[ag];refine⟨by split;(simp[go_sem];omega);trivial,?_⟩;rw[ag];refine⟨by split;(simp[go_sem,ha];omega);trivial,?_⟩;rw[ag];refine⟨by simp[go_sem,ha],?_⟩;rw[bP,if_pos (by simp[go_sem];omega)];refine (bn _ _).2 ⟨⟨[n],[],[],[],[],[]⟩,rfl,af,by simpa[go_sem,ha] using rn,?_⟩;rw[ag];refine⟨by split;(simp[go_sem];omega);trivial,?_⟩;rw[ag];refine⟨by split;(simp[go_sem];omega);trivial,?_⟩;by_cases hB:(S.length:Int) - 2=n;rotate_left
    . rw[bD,if_neg (by simp[go_sem,hB])];rw[ag];refine⟨by simp[go_sem],?_⟩;rw[ag];refine⟨by simp[go_sem],?_⟩;rw[ag];refine⟨by simp[go_sem],?_⟩;rw[ag];refine⟨by simp[go_sem],?_⟩;rw[ag];refine⟨by simp[go_sem],?_⟩;rw[ag];refine⟨by simp[go_sem],?_⟩;refine fin _ _ _ hleh hφ ?_;simp[go_sem,hB]
    rw[bD,if_pos (by simp[go_sem,hB,(fO 2 _).mpr hA']),sbs];refine⟨sub S 0 (S.length - 2),112,by simp[go_sem,e2,e3],by unfold sub;rw[List.length_drop,List.length_take];omega,?_⟩;refine rR ⟨[],[onlyB (sub S 0 (S.length - 2)) 112],[],[],[],[]⟩ rfl af rfl ?_;rw[ag];refine⟨by split;(simp[go_sem];omega);trivial,?_⟩;rw[ag];refine⟨by split;(simp[go_sem];omega);trivial,?_⟩;rw[ag];refine⟨by split;(simp[go_sem];omega);trivial,?_⟩;rw[ag];refine⟨by split;(simp[go_sem];omega);trivial,?_⟩;rw[ag];refine⟨by split;(simp[go_sem];omega);trivial,?_⟩;rw[ag];refine⟨by split;(simp[go_sem];omega);trivial,?_⟩;refine fin _ _ _ hleh hφ ?_;have e4:n.toNat=S.length - 2:=by omega
    first | (simp[go_sem,e1,e4,hA,hB,(fO 2 _).mpr hA']<;>fail) | (simp[go_sem,e1,e4,hA,hB,(fO 2 _).mpr hA'];rfl)
  . repeat (first | (refine bV ?_ ?_;focus (simp[go_sem]<;>fail)) | (refine bU ?_ ?_;focus (simp[go_sem]<;>fail)) | fail)
    rw[rf5] at hφ;refine fin _ _ _ hleh hφ ?_
    first | (simp[go_sem]<;>fail) | (simp[go_sem];rfl) | (simp[go_sem];done)
  . repeat (first | (refine bV ?_ ?_;focus (simp[go_sem]<;>fail)) | (refine bU ?_ ?_;focus (simp[go_sem]<;>fail)) | fail)
    rw[abh] at hφ;refine fin _ _ _ hleh hφ ?_
    first | (simp[go_sem]<;>fail) | (simp[go_sem];rfl) | (simp[go_sem];done)
  . repeat (first | (refine bV ?_ ?_;focus (simp[go_sem]<;>fail)) | (refine bU ?_ ?_;focus (simp[go_sem]<;>fail)) | fail)
    rw[rf6] at hφ;rw[ai,sbs];refine⟨_,115,rfl,hfl,?_⟩;refine rR ⟨[],[onlyB (bz (List.map Tr.g ks)) 115],[],[],[],[]⟩ rfl af rfl ?_;refine fin _ _ _ hleh hφ ?_
    first | (simp[go_sem]<;>fail) | (simp[go_sem];rfl) | (simp[go_sem];done)
  . repeat (first | (refine bV ?_ ?_;focus (simp[go_sem]<;>fail)) | (refine bU ?_ ?_;focus (simp[go_sem]<;>fail)) | fail)
    rw[rf7] at hφ;refine fin _ _ _ hleh hφ ?_
    first | (simp[go_sem]<;>fail) | (simp[go_sem];rfl) | (simp[go_sem];done)
  . repeat (first | (refine bV ?_ ?_;focus (simp[go_sem]<;>fail)) | (refine bU ?_ ?_;focus (simp[go_sem]<;>fail)) | fail)
    rw[rf8,hfst] at hφ;refine fin _ _ _ hleh hφ ?_
    first | (simp[go_sem,Bool.or_assoc]<;>fail) | (simp[go_sem,Bool.or_assoc];rfl) | (simp[go_sem,Bool.or_assoc];done)
  . repeat (first | (refine bV ?_ ?_;focus (simp[go_sem]<;>fail)) | (refine bU ?_ ?_;focus (simp[go_sem]<;>fail)) | fail)
    rw[rf9] at hφ;refine fin _ _ _ hleh hφ ?_
    first | (simp[go_sem]<;>fail) | (simp[go_sem];rfl) | (simp[go_sem];done)
  . repeat (first | (refine bV ?_ ?_;focus (simp[go_sem]<;>fail)) | (refine bU ?_ ?_;focus (simp[go_sem]<;>fail)) | fail)
    rw[abd] at hφ;refine fin _ _ _ hleh hφ ?_
    first | (simp[go_sem]<;>fail) | (simp[go_sem];rfl) | (simp[go_sem];done)
  . repeat (first | (refine bV ?_ ?_;focus (simp[go_sem]<;>fail)) | (refine bU ?_ ?_;focus (simp[go_sem]<;>fail)) | fail)
    rw[abe] at hφ;refine fin _ _ _ hleh hφ ?_
    first | (simp[go_sem]<;>fail) | (simp[go_sem];rfl) | (simp[go_sem];done)
  . repeat (first | (refine bV ?_ ?_;focus (simp[go_sem]<;>fail)) | (refine bU ?_ ?_;focus (simp[go_sem]<;>fail)) | fail)
    rw[abf] at hφ;refine fin _ _ _ hleh hφ ?_
    first | (simp[go_sem]<;>fail) | (simp[go_sem];rfl) | (simp[go_sem];done)
  . repeat (first | (refine bV ?_ ?_;focus (simp[go_sem]<;>fail)) | (refine bU ?_ ?_;focus (simp[go_sem]<;>fail)) | fail)
    rw[abg,hfst] at hφ;refine fin _ _ _ hleh hφ ?_
    first | (simp[go_sem]<;>fail) | (simp[go_sem];rfl) | (simp[go_sem,Bool.or_assoc];done)
  . repeat (first | (refine bV ?_ ?_;focus (simp[go_sem]<;>fail)) | (refine bU ?_ ?_;focus (simp[go_sem]<;>fail)) | fail)
    rw[abj] at hφ;rw[ai,sbs];refine⟨_,101,rfl,hfl,?_⟩;refine rR ⟨[],[onlyB (bz (List.map Tr.g ks)) 101],[],[],[],[]⟩ rfl af rfl ?_;refine fin _ _ _ hleh hφ ?_
    first | (simp[go_sem]<;>fail) | (simp[go_sem];rfl) | (simp[go_sem];done)
  . repeat (first | (refine bV ?_ ?_;focus (simp[go_sem]<;>fail)) | (refine bU ?_ ?_;focus (simp[go_sem]<;>fail)) | fail)
    rw[abk] at hφ;refine fin _ _ _ hleh hφ ?_
    first | (simp[go_sem]<;>fail) | (simp[go_sem];rfl) | (simp[go_sem];done)
  . repeat (first | (refine bV ?_ ?_;focus (simp[go_sem]<;>fail)) | (refine bU ?_ ?_;focus (simp[go_sem]<;>fail)) | fail)
    rw[abl] at hφ;refine fin _ _ _ hleh hφ ?_
    first | (simp[go_sem]<;>fail) | (simp[go_sem];rfl) | (simp[go_sem];done)
  . repeat (first | (refine bV ?_ ?_;focus (simp[go_sem]<;>fail)) | (refine bU ?_ ?_;focus (simp[go_sem]<;>fail)) | fail)
    rw[abm] at hφ;refine fin _ _ _ hleh hφ ?_
    first | (simp[go_sem]<;>fail) | (simp[go_sem];rfl) | (simp[go_sem];done)
  . repeat (first | (refine bV ?_ ?_;focus (simp[go_sem]<;>fail)) | (refine bU ?_ ?_;focus (simp[go_sem]<;>fail)) | fail)
    rw[abn] at hφ;refine fin _ _ _ hleh hφ ?_
    first | (simp[go_sem]<;>fail) | (simp[go_sem];rfl) | (simp[go_sem];done)
  . repeat (first | (refine bV ?_ ?_;focus (simp[go_sem]<;>fail)) | (refine bU ?_ ?_;focus (simp[go_sem]<;>fail)) | fail)
    rw[abo,hfst] at hφ;refine fin _ _ _ hleh hφ ?_
    first | (simp[go_sem]<;>fail) | (simp[go_sem];rfl) | (simp[go_sem,Bool.or_assoc];done)
  . repeat (first | (refine bV ?_ ?_;focus (simp[go_sem,n1,n2,n3,n4,n5,n20,n6,n7,n8,n9,n10,n11,n12,n13,n27,n28,n29,n30,n31,n32]<;>fail)) | (refine bU ?_ ?_;focus (simp[go_sem,n1,n2,n3,n4,n5,n20,n6,n7,n8,n9,n10,n11,n12,n13,n27,n28,n29,n30,n31,n32]<;>fail)) | fail)
    rw[rfD _ _ _ (by omega) (by omega) (by omega)] at hφ;rw[ag];refine⟨by simp[go_sem,hS0],?_⟩;rw[ag];refine⟨by simp[go_sem,hS0],?_⟩;rw[bP,if_neg (by simp[go_sem,hS0])];rw[ag];refine⟨by simp[go_sem,hS0],?_⟩;rw[ag];refine⟨by simp[go_sem,hS0],?_⟩;rw[bP,if_neg (by simp[go_sem,hS0])];have hS1:(bz (List.map Tr.g ks)).isEmpty=false:=by rw[List.isEmpty_eq_false_iff];exact hS0
    refine fin _ _ _ hleh hφ ?_;simp[go_sem,hS1]
def GI:Fm:=(.loop 0 ⟨[(.c 0),(.c 0)],[(.c false)],[],[],[],[]⟩
 (.ite (.lt (.x 1) (.cnt (.x 0)))
 (.N (.X (.x 1) (.x 0))
 (.N (.nns (.x 0))
 (.O (.el (.x 0) (.x 1) 6 5) 1 [(.s (.x 0))] ⟨0,0,1,0,0,0⟩
 (.N (.and (.le (.c (-9223372036854775808)) (.add (.c 1) (.ite (.lt (.c 5000) (.len (.x 0))) (.c 5000) (.len (.x 0))))) (.le (.add (.c 1) (.ite (.lt (.c 5000) (.len (.x 0))) (.c 5000) (.len (.x 0)))) (.c 9223372036854775807)))
 (.N (.and (.le (.c (-9223372036854775808)) (.add (.x 0) (.add (.c 1) (.ite (.lt (.c 5000) (.len (.x 0))) (.c 5000) (.len (.x 0)))))) (.le (.add (.x 0) (.add (.c 1) (.ite (.lt (.c 5000) (.len (.x 0))) (.c 5000) (.len (.x 0))))) (.c 9223372036854775807)))
 (.ite (.lt (.c 4000) (.add (.x 0) (.add (.c 1) (.ite (.lt (.c 5000) (.len (.x 0))) (.c 5000) (.len (.x 0))))))
 (.ret (.p (.one (.b (.c true)))))
 (.N (.R (.add (.x 1) (.c 1)))
 (.again 0 ⟨0,0,0,0,1,0⟩ ⟨2,1,0,0,1,0⟩ ⟨[(.add (.x 0) (.add (.c 1) (.ite (.lt (.c 5000) (.len (.x 0))) (.c 5000) (.len (.x 0))))),(.add (.x 1) (.c 1))],[(.x 0)],[],[],[],[]⟩))))))))
 (.ret (.p (.one (.b (.c false)))))))
theorem Qr:aU ⟨true,[]⟩ Tryz.prog (fun l=>([⟨[3,2,7],[8,9,4,10,11,12,13,14,15,16,17,18,19,20,21,22],[]⟩]:List bG).getD l ⟨[],[],[]⟩) Tryz.f11=GI:=by kernel_rfl
theorem VQ:az Tryz.prog .zero Tryz.f11.params.toList=some ([.L 0],⟨0,0,0,0,1,0⟩):=by kernel_rfl
def oH:Nat->List Ng->Bool
 | _,[]=>false
 | n,x::l=>if 4000<n+(1+min x.x.length 5000) then true else oH (n+(1+min x.x.length 5000)) l
theorem Oe:∀ {l:List Ng} {n:Nat},n<=4000->oH n l=false->n+l.length<=4000/\∀ x∈l,x.x.length<=4000
 | [],n,hn,_=>⟨by simpa using hn,fun x hx=>by cases hx⟩
 | x::l,n,hn,h=>by
   rw[oH] at h;split at h
   . cases h
   . rename_i hlt;obtain⟨h1,h2⟩:=Oe (by omega) h;refine⟨by rw[List.length_cons];omega,fun y hy=>?_⟩;rcases List.mem_cons.1 hy with rfl | hy
     . omega
     . exact h2 y hy
def Oc (h:Hp) (sl:bM) (l:List Ng) (_:Nat) (C:Ctx):Prop:=
 ∃ (j n:Nat) (b:Bool),C=⟨[n,j],[b],[],[],[sl],[],h,cu⟩/\j<=l.length/\j<=n/\n<=4000/\oH 0 l=oH n (l.drop j)
set_option maxHeartbeats 4000000 in
def MP:Ct Tryz.prog where
 f:=11
 spec:=fun args h φ=>∃ sl l,args=[bM.val sl]/\NG h sl l/\l.length<=9223372036854775807/\φ (.bool (oH 0 l)) h
 ok:=by
  rintro args h φ w ⟨sl,l,rfl,R,hl,hφ⟩ hH;refine aZ Tryz.func11 Qr VQ [] φ (Oc h sl l) (fun _ C=>((l.length:Int) - C.i.getD 1 0).toNat) ⟨[],[],[],[],[sl],[],h,cu⟩ ⟨rfl,rfl,rfl,rfl,rfl,rfl⟩ af ?_ w hH rfl;generalize hE:(⟨aG _,_,_,_⟩:Env)=E;have ep:E.post=φ:=by rw[<- hE]
  have ei:E.inv=(Oc h sl l):=by rw[<- hE]
  have em:E.meas=(fun _ C=>((l.length:Int) - C.i.getD 1 0).toNat):=by rw[<- hE]
  clear hE;unfold GI;have hn:=NG.n R;refine bH ?_ ?_
  . rw[ei];exact⟨0,0,false,rfl,Nat.zero_le _,Nat.zero_le _,Nat.zero_le _,by rw[List.drop_zero]⟩
  rw[ei,em];rintro i bbs ss v ll pp hh M ⟨j,n,b,hC,hj,hjn,hn4,hF⟩ hM;cases hC;have hM':M 0=((l.length:Int) - j).toNat:=hM;clear hM;by_cases hjl:j<l.length;rotate_left
  . have hz:¬ ((j:Int)<sl.n):=by omega
    rw[ak,if_neg (by simpa[go_sem] using hz)];rw[aj,ep];rw[List.drop_eq_nil_of_le (by omega),oH] at hF;rw[hF] at hφ;exact hφ
  have hz:(j:Int)<sl.n:=by omega
  obtain⟨b2,o,ha⟩:=Rows.nn R (j:=j) (by omega);have rz:=Rows.read (off:=5) (m:=1) R (j:=j) (by omega) (by omega) ha;rw[<- List.drop_drop,eP hjl] at rz;rw[List.drop_eq_getElem_cons hjl,oH] at hF;generalize l[j]=x at *;rw[ak,if_pos (by simpa[go_sem] using hz)];rw[ag];refine⟨by simp[go_sem,ha]<;>omega,?_⟩;rw[ag];refine⟨by simp[go_sem,ha],?_⟩;refine rL ⟨[],[],[x.x],[],[],[]⟩ rfl af (by simpa[go_sem,ha,Ng.cs] using rz) ?_;have hmin:(bif Ob 5000 (x.x.length:Int) then (5000:Int) else (x.x.length:Int))=((min x.x.length 5000:Nat):Int):=by
   by_cases hq:(5000:Int)<(x.x.length:Int)
   . rw[(kJ _ _).mpr hq];simp only[cond_true];omega
   . rw[(U8 _ _).mpr (by omega)];simp only[cond_false];omega
  generalize hm:min x.x.length 5000=m at *;have hm5:m<=5000:=by omega
  rw[ag];refine⟨by simp[go_sem,hmin]<;>omega,?_⟩;rw[ag];refine⟨by simp[go_sem,hmin]<;>omega,?_⟩;by_cases hbig:4000<n+(1+m)
  . rw[if_pos hbig] at hF;rw[ah,if_pos (by simp[go_sem,hmin];omega)];rw[aj,ep];rw[hF] at hφ;exact hφ
  rw[if_neg hbig] at hF;rw[ah,if_neg (by simp[go_sem,hmin];omega)];rw[ag];refine⟨by simp[go_sem]<;>omega,?_⟩;rw[ae,says_again,ei,em];refine⟨⟨j+1,n+(1+m),b,?_,hjl,by omega,by omega,hF⟩,?_⟩
  . simp[go_sem,hmin]
  . show (((l.length:Int) - (j+1:Nat)).toNat)<M 0;omega
def NM:Fm:=(.C 29 [.L 0] (.p (.B 0)) ⟨0,1,0,0,0,0⟩
 (.need (.x 0) (.X (.c 0) (.x 0))
 (.need (.x 0) (.nns (.x 0))
 (.load (.x 0) (.el (.x 0) (.c 0) 6 0) 1 [.U 0] ⟨1,0,0,0,0,0⟩
 (.ite (.or (.not (.x 0)) (.not (.eqI (.x 0) (.c 1))))
 (.ret (.p (.one (.b (.c false)))))
 (.loop 0 ⟨[(.c 0)],[(.c false)],[],[],[],[]⟩
 (.ite (.lt (.x 1) (.cnt (.x 0)))
 (.N (.X (.x 1) (.x 0))
 (.O (.el (.x 0) (.x 1) 6 0) 6 [.U 2,.J 3,.J 4,.J 5,.J 6,(.s (.x 0))] ⟨5,0,1,0,0,0⟩
 (.C 36 [(.agg [.U 2,.J 3,.J 4,.J 5,.J 6,(.s (.x 0))])] (.p (.B 2)) ⟨0,1,0,0,0,0⟩
 (.call (.x 2) false 37 [.L 0,.J 1] (.p (.B 3)) ⟨0,1,0,0,0,0⟩
 (.ite (.or (.not (.x 2)) (.not (.x 3)))
 (.ret (.p (.one (.b (.c false)))))
 (.N (.R (.add (.x 1) (.c 1)))
 (.again 0 ⟨1,1,0,0,1,0⟩ ⟨2,2,0,0,1,0⟩ ⟨[(.add (.x 1) (.c 1))],[(.x 1)],[],[],[],[]⟩)))))))
 (.ret (.p (.one (.b (.c true))))))))))))
theorem UL:aU ⟨true,[]⟩ Tryz.prog (fun l=>([⟨[2,16],[17,18,3,19,20,21,22,23,24,25,26,27,28,29,30,31],[]⟩]:List bG).getD l ⟨[],[],[]⟩) Tryz.f17=NM:=by kernel_rfl
theorem YF:az Tryz.prog .zero Tryz.f17.params.toList=some ([.L 0],⟨0,0,0,0,1,0⟩):=by kernel_rfl
def okW (i:Nat) (s:Tr):Bool:=qy s.g&&fJ i s.g.k s.g.n (s.kl.map Tr.g)
def Eg:Nat->List Tr->Bool
 | _,[]=>true
 | i,s::l=>okW i s&&Eg (i+1) l
theorem XK {x:Ng} (h:x.k=4):fieldsB x=(aS nH x.x&&leB 0 x.n):=by
 unfold fieldsB;rw[h];rfl
theorem aae {i:Nat} {s:Tr} (hi:i≠0):okW i s=okI i s:=by
 unfold okW okI;rw[if_neg hi];unfold qy fJ;by_cases h1:s.g.k=1
 . rw[if_pos h1,decide_eq_false hi,if_neg (by omega)];have:dR s.g.k s.g.n (s.kl.map Tr.g)=false:=by rw[h1];rfl
   rw[this,Bool.false_and]
 . rw[if_neg h1];by_cases h4:s.g.k=4
   . rw[if_pos h4,XK h4,h4];show (_&&XN _ _)=(_&&XN _ _);unfold XN;by_cases h2:2<=(s.kl.map Tr.g).length
     . by_cases hn:((s.kl.map Tr.g).length:Int) - 2=s.g.n
       . rw[(fO _ _).mpr (show (0:Int)<=s.g.n by omega),Bool.and_true]
       . rw[decide_eq_false hn];simp
     . rw[decide_eq_false h2];simp
   . rw[if_neg h4]
theorem Ov:∀ (l:List Tr) (i:Nat),i≠0->Eg i l=tN i l
 | [],_,_=>rfl
 | s::l,i,hi=>by rw[Eg,tN,aae hi,Ov l (i+1) (by omega)]
theorem Z9 {t:Tr} (h1:t.g.k=1):Eg 0 t.subs=gJ t:=by
 obtain⟨k,l,c,n,x,ks⟩:=t;have hk:k=1:=h1;subst hk;unfold gJ;rw[Tr.subs,Eg,tN,Ov _ _ (by omega),decide_eq_true h1,Bool.true_and,<- Bool.and_assoc];congr 1
def Oi (h:Hp) (sl:bM) (t:Tr) (_:Nat) (C:Ctx):Prop:=
 ∃ (j:Nat) (b:Bool) (k:Int),C=⟨[k,j],[true,b],[],[],[sl],[],h,cu⟩/\j<=t.n/\Eg 0 t.subs=Eg j (t.subs.drop j)
theorem Ps.root {l:List Ng} {p:Nat} {s:Tr} (P:Ps l p s):rq l p s.g s.kl:=by
 obtain⟨hp,hx⟩:=P.node;obtain⟨pre,post,rfl,rfl⟩:=P;obtain⟨k,ln,c,n,x,ks⟩:=s;refine⟨by rw[List.getElem?_eq_getElem hp,hx],rfl,post,?_⟩;rw[jc,List.append_assoc,<- List.drop_drop,List.drop_left];rfl
set_option maxHeartbeats 4000000 in
def Dx:Ct Tryz.prog where
 f:=17
 spec:=fun args h φ=>∃ sl l,args=[bM.val sl]/\NG h sl l/\l.length<=1000000/\(∀ x∈l,x.x.length<=100000)/\∀ b:Bool,(b=true↔∃ t,l=Tr.gs t/\gJ t=true)->φ (.bool b) h
 ok:=by
  rintro args h φ w ⟨sl,l,rfl,R,hl,hx,hφ⟩ hH;have hb:∃ t,l=Tr.gs t\/∀ u,l≠Tr.gs u:=by
   by_cases h0:∃ t,l=Tr.gs t
   . obtain⟨t,ht⟩:=h0;exact⟨t,.inl ht⟩
   . exact⟨.nd 0 0 0 0 [] [],.inr fun u e=>h0 ⟨u,e⟩⟩
  obtain⟨t,ht⟩:=hb;refine aZ Tryz.func17 UL YF [jh,FH,AA] φ (Oi h sl t) (fun _ C=>((t.n:Int) - C.i.getD 1 0).toNat) ⟨[],[],[],[],[sl],[],h,cu⟩ ⟨rfl,rfl,rfl,rfl,rfl,rfl⟩ af ?_ w hH rfl;generalize hE:(⟨aG _,_,_,_⟩:Env)=E;have sbt:E.spec 29=(jh).spec:=by rw[<- hE];rfl
  have sbu:E.spec 36=(FH).spec:=by rw[<- hE];rfl
  have sbv:E.spec 37=(AA).spec:=by rw[<- hE];rfl
  have ep:E.post=φ:=by rw[<- hE]
  have ei:E.inv=(Oi h sl t):=by rw[<- hE]
  have em:E.meas=(fun _ C=>((t.n:Int) - C.i.getD 1 0).toNat):=by rw[<- hE]
  clear hE;unfold NM;have hn:=NG.n R;rw[ax,if_pos (by rfl),sbt];refine⟨sl,l,rfl,R,hl,fun b0 hb0=>?_⟩;refine rR ⟨[],[b0],[],[],[],[]⟩ rfl af rfl ?_;cases b0 with
  | false=>
    rw[ag];refine⟨by simp[go_sem],?_⟩;rw[ag];refine⟨by simp[go_sem],?_⟩;rw[bP,if_neg (by simp[go_sem]),ae,ak,if_pos (by simp[go_sem])];rw[aj,ep];exact hφ _ ⟨fun e=>(by cases e),fun ⟨u,hu,_⟩=>hb0.2 ⟨u,hu⟩⟩
  | true=>
    obtain⟨u,hu⟩:=hb0.1 rfl;rcases ht with rfl | hno
    rotate_left
    . exact absurd hu (hno u)
    clear hb0 hu u;have P0:Ps t.gs 0 t:=⟨[],[],by simp,rfl⟩;have hpos:=oq t;have hgl:=iD t;have hφ':∀ b:Bool,b=gJ t->φ (.bool b) h:=fun b hb=>hφ b ⟨fun e=>⟨t,rfl,by rw[<- hb,e]⟩,fun ⟨u,e,h'⟩=>by
     have:=kU (t:=t) (u:=u) (r:=[]) (s:=[]) (by rw[e]);rw[hb,this.1];exact h'⟩
    obtain⟨b1,o,ha⟩:=Rows.nn R (j:=0) (by omega);obtain⟨h0l,h0x⟩:=P0.node;have rk:=Rows.read (off:=0) (m:=1) R (j:=0) (by omega) (by omega) ha;rw[<- List.drop_drop,eP h0l,h0x] at rk;have hz0:sl.n≠0:=by omega
    rw[ag];refine⟨by simp[go_sem,ha]<;>omega,?_⟩;rw[ag];refine⟨by simp[go_sem,ha],?_⟩;refine rL ⟨[t.g.k],[],[],[],[],[]⟩ rfl af (by simpa[go_sem,ha,Ng.cs] using rk) ?_;by_cases h1:t.g.k=1;rotate_left
    . rw[ah,if_pos (by simpa[go_sem] using h1)];rw[aj,ep];refine hφ' _ ?_;unfold gJ;rw[decide_eq_false h1,Bool.false_and,Bool.false_and];rfl
    rw[<- Z9 h1] at hφ';rw[ah,if_neg (by simpa[go_sem] using h1),ae];refine bH ?_ ?_
    . rw[ei];exact⟨0,false,t.g.k,rfl,Nat.zero_le _,by rw[List.drop_zero]⟩
    rw[ei,em];rintro i bbs ss v ll pp hh M ⟨j,b,k,hC,hj,hF⟩ hM;cases hC;have hM':M 0=((t.n:Int) - j).toNat:=hM;clear hM rk;have hsl:=pY t;by_cases hjl:j<t.n;rotate_left
    . have hz:¬ ((j:Int)<sl.n):=by omega
      rw[ak,if_neg (by simpa[go_sem] using hz)];rw[aj,ep];rw[List.drop_eq_nil_of_le (by omega),Eg] at hF;exact hφ' _ hF.symm
    have hz:(j:Int)<sl.n:=by omega
    have hjs:j<t.subs.length:=by omega
    rw[List.drop_eq_getElem_cons hjs,Eg] at hF;have hsub:t.subs[j]? = some t.subs[j]:=List.getElem?_eq_getElem hjs;generalize t.subs[j]=s at *;have P:=ED t P0 j s hsub;rw[Nat.zero_add] at P;have hroot:=P.root;obtain⟨hjl2,hjx⟩:=P.node;have hnd:=NG.node R hjl2 ha;rw[hjx] at hnd;have hxl:=hx _ (List.getElem_mem hjl2);rw[hjx] at hxl;rw[ak,if_pos (by simpa[go_sem] using hz)];rw[ag];refine⟨by simp[go_sem,ha]<;>omega,?_⟩;refine rL ⟨[s.g.k,s.g.l,s.g.c,s.g.z,s.g.n],[],[s.g.x],[],[],[]⟩ rfl af (by simpa[go_sem,ha,Ng.cs] using hnd) ?_;rw[ai,sbu];refine⟨s.g,rfl,hxl,?_⟩;refine rR ⟨[],[qy s.g],[],[],[],[]⟩ rfl af rfl ?_;cases hf:qy s.g with
    | false=>
      rw[bD,if_neg (by simp[go_sem])];rw[ah,if_pos (by simp[go_sem])];rw[aj,ep];refine hφ' _ ?_;rw[hF];unfold okW;rw[hf];rfl
    | true=>
      rw[bD,if_pos (by simp[go_sem]),sbv];refine⟨sl,t.gs,j,s.g,s.kl,rfl,R,hl,hroot,?_⟩;refine rR ⟨[],[fJ j s.g.k s.g.n (s.kl.map Tr.g)],[],[],[],[]⟩ rfl af rfl ?_;cases hg:fJ j s.g.k s.g.n (s.kl.map Tr.g) with
      | false=>
        rw[ah,if_pos (by simp[go_sem])];rw[aj,ep];refine hφ' _ ?_;rw[hF];unfold okW;rw[hf,hg];rfl
      | true=>
        rw[ah,if_neg (by simp[go_sem])];rw[ag];refine⟨by simp[go_sem]<;>omega,?_⟩;rw[ae,says_again,ei,em];refine⟨⟨j+1,b,k,rfl,hjl,?_⟩,?_⟩
        . rw[hF];unfold okW;rw[hf,hg];rfl
        . show (((t.n:Int) - (j+1:Nat)).toNat)<M 0;omega
def Bh:Fm:=(.mk [(.s (.c [])),(.s (.c [43])),(.s (.c [45])),(.s (.c [42])),(.s (.c [47])),(.s (.c [37])),(.s (.c [61,61])),(.s (.c [33,61])),(.s (.c [60])),(.s (.c [60,61])),(.s (.c [62])),(.s (.c [62,61])),(.s (.c [45])),(.s (.c [33])),(.s (.c [38,38])),(.s (.c [124,124]))] 9 16
 (.mk [(.i .i64 (.c 0)),(.i .i64 (.c 5)),(.i .i64 (.c 5)),(.i .i64 (.c 6)),(.i .i64 (.c 6)),(.i .i64 (.c 6)),(.i .i64 (.c 3)),(.i .i64 (.c 3)),(.i .i64 (.c 4)),(.i .i64 (.c 4)),(.i .i64 (.c 4)),(.i .i64 (.c 4)),(.i .i64 (.c 7)),(.i .i64 (.c 7)),(.i .i64 (.c 2)),(.i .i64 (.c 1))] 3 16
 (.O (.el (.x 0) (.x 0) 1 0) 1 [(.s (.x 0))] ⟨0,0,1,0,0,0⟩
 (.O (.el (.x 1) (.x 0) 1 0) 1 [.J 1] ⟨1,0,0,0,0,0⟩
 (.N (.X (.x 0) (.x 0))
 (.N (.X (.x 0) (.x 1))
 (.ret (.tup [.S 0,.J 1]))))))))
theorem JL:aU ⟨true,[]⟩ Tryz.prog (fun l=>([]:List bG).getD l ⟨[],[],[]⟩) Tryz.f35=Bh:=by kernel_rfl
theorem Ri:az Tryz.prog .zero Tryz.f35.params.toList=some ([.J 0],⟨1,0,0,0,0,0⟩):=by kernel_rfl
def yz:Fm:=(.ite (.or (.eqI (.x 0) (.c 30)) (.eqI (.x 0) (.c 31)))
 (.C 35 [.J 4] (.tup [.S 1,.J 5]) ⟨1,0,1,0,0,0⟩
 (.ret (.p (.J 5))))
 (.ret (.p (.I (.c 8)))))
theorem Hu:aU ⟨true,[]⟩ Tryz.prog (fun l=>([]:List bG).getD l ⟨[],[],[]⟩) Tryz.f62=yz:=by kernel_rfl
theorem Lj:az Tryz.prog .zero Tryz.f62.params.toList=some ([(.agg [.U 0,.J 1,.J 2,.J 3,.J 4,(.s (.x 0))])],⟨5,0,1,0,0,0⟩):=by kernel_rfl
def Bc:Fm:=(.N (.X (.x 0) (.x 0))
 (.N (.nns (.x 0))
 (.O (.el (.x 0) (.x 0) 6 0) 1 [.U 1] ⟨1,0,0,0,0,0⟩
 (.ite (.eqI (.x 1) (.c 15))
 (.mk [(.s (.c [105,110,116])),(.s (.c [98,111,111,108])),(.s (.c [115,116,114])),(.s (.c [99,111,109,112]))] 9 4
 (.N (.X (.x 0) (.x 0))
 (.N (.nns (.x 0))
 (.O (.el (.x 0) (.x 0) 6 0) 1 [.U 2] ⟨1,0,0,0,0,0⟩
 (.N (.X (.wr .u8 (.sub (.x 2) (.c 15))) (.x 1))
 (.O (.el (.x 1) (.wr .u8 (.sub (.x 2) (.c 15))) 1 0) 1 [(.s (.x 0))] ⟨0,0,1,0,0,0⟩
 (.ret (.p (.S 0)))))))))
 (.ite (.eqI (.x 1) (.c 16))
 (.mk [(.s (.c [105,110,116])),(.s (.c [98,111,111,108])),(.s (.c [115,116,114])),(.s (.c [99,111,109,112]))] 9 4
 (.N (.X (.x 0) (.x 0))
 (.N (.nns (.x 0))
 (.O (.el (.x 0) (.x 0) 6 0) 1 [.U 2] ⟨1,0,0,0,0,0⟩
 (.N (.X (.wr .u8 (.sub (.x 2) (.c 15))) (.x 1))
 (.O (.el (.x 1) (.wr .u8 (.sub (.x 2) (.c 15))) 1 0) 1 [(.s (.x 0))] ⟨0,0,1,0,0,0⟩
 (.ret (.p (.S 0)))))))))
 (.ite (.eqI (.x 1) (.c 17))
 (.mk [(.s (.c [105,110,116])),(.s (.c [98,111,111,108])),(.s (.c [115,116,114])),(.s (.c [99,111,109,112]))] 9 4
 (.N (.X (.x 0) (.x 0))
 (.N (.nns (.x 0))
 (.O (.el (.x 0) (.x 0) 6 0) 1 [.U 2] ⟨1,0,0,0,0,0⟩
 (.N (.X (.wr .u8 (.sub (.x 2) (.c 15))) (.x 1))
 (.O (.el (.x 1) (.wr .u8 (.sub (.x 2) (.c 15))) 1 0) 1 [(.s (.x 0))] ⟨0,0,1,0,0,0⟩
 (.ret (.p (.S 0)))))))))
 (.ite (.eqI (.x 1) (.c 18))
 (.mk [(.s (.c [105,110,116])),(.s (.c [98,111,111,108])),(.s (.c [115,116,114])),(.s (.c [99,111,109,112]))] 9 4
 (.N (.X (.x 0) (.x 0))
 (.N (.nns (.x 0))
 (.O (.el (.x 0) (.x 0) 6 0) 1 [.U 2] ⟨1,0,0,0,0,0⟩
 (.N (.X (.wr .u8 (.sub (.x 2) (.c 15))) (.x 1))
 (.O (.el (.x 1) (.wr .u8 (.sub (.x 2) (.c 15))) 1 0) 1 [(.s (.x 0))] ⟨0,0,1,0,0,0⟩
 (.ret (.p (.S 0)))))))))
 (.ite (.eqI (.x 1) (.c 19))
 (.N (.X (.x 0) (.x 0))
 (.N (.nns (.x 0))
 (.O (.el (.x 0) (.x 0) 6 5) 1 [(.s (.x 0))] ⟨0,0,1,0,0,0⟩
 (.ret (.p (.S 0))))))
 (.N (.R (.add (.x 0) (.c 1)))
 (.C 14 [.L 0,(.I (.add (.x 0) (.c 1)))] (.p (.S 0)) ⟨0,0,1,0,0,0⟩
 (.N (.le (.add (.len (.c [91])) (.len (.x 0))) (.c 9223372036854775807))
 (.N (.le (.add (.len (.app (.c [91]) (.x 0))) (.len (.c [93]))) (.c 9223372036854775807))
 (.ret (.p (.one (.s (.app (.app (.c [91]) (.x 0)) (.c [93]))))))))))))))))))
theorem JG:aU ⟨true,[1000005]⟩ Tryz.prog (fun l=>([]:List bG).getD l ⟨[],[],[]⟩) Tryz.f14=Bc:=by kernel_rfl
theorem Q7:az Tryz.prog .zero Tryz.f14.params.toList=some ([.L 0,.J 0],⟨1,0,0,0,1,0⟩):=by kernel_rfl
def OU (n:Int):List UInt8×Int:=if n=12 then ([45],7) else if n=13 then ([33],7) else ((oJ n).1,((oJ n).2:Nat))
def Sj:List (List UInt8):=[[],[43],[45],[42],[47],[37],[61,61],[33,61],[60],[60,61],[62],[62,61],[45],[33],[38,38],[124,124]]
def U9:List Int:=[0,5,5,6,6,6,3,3,4,4,4,4,7,7,2,1]
def xB:List (List UInt8):=[[105,110,116],[98,111,111,108],[115,116,114],[99,111,109,112]]
theorem aax {n:Nat} (h1:1<=n) (h2:n<=15):Sj[n]? = some (OU n).1/\U9[n]? = some (OU n).2:=by
 have:n=1\/n=2\/n=3\/n=4\/n=5\/n=6\/n=7\/n=8\/n=9\/n=10\/n=11\/n=12\/n=13\/n=14\/n=15:=by omega
 rcases this with rfl | rfl | rfl | rfl | rfl | rfl | rfl | rfl | rfl | rfl | rfl | rfl | rfl | rfl | rfl<;>exact⟨rfl,rfl⟩
theorem Ko {h:Hp} {b:Nat} {ps:List Int} {T:TypeId} (hb:h b=some ⟨ku ps,T⟩) {k:Nat} {x:Int} (hx:ps[k]? = some x):hread h (some (b,k)) 1=some [.int .i64 x]:=by
 obtain⟨hk,he⟩:=List.getElem?_eq_some_iff.1 hx;unfold hread;simp only[hb];rw[if_pos (by simp[ku];omega)];have:(ku ps).drop k=Value.int .i64 x::ku (ps.drop (k+1)):=by
  unfold ku;rw[<- List.map_drop,List.drop_eq_getElem_cons hk,he];rfl
 rw[this];rfl
set_option maxHeartbeats 4000000 in
def wR:Ct Tryz.prog where
 f:=35
 spec:=fun args h φ=>∃ n:Nat,args=[.int .i64 (n:Int)]/\1<=n/\n<=15/\φ (.tuple #[.string (B (OU n).1),.int .i64 (OU n).2]) h
 ok:=by
  rintro args h φ w ⟨n,rfl,h1,h2,hφ⟩ hH;refine bQ (aZ Tryz.func35 JL Ri [] (fun v k=>∃ k',bY k' k/\φ v k') (bJ) (aV) ⟨[(n:Int)],[],[],[],[],[],h,cu⟩ ⟨rfl,rfl,rfl,rfl,rfl,rfl⟩ af ?_ w hH rfl);generalize hE:(⟨aG _,_,_,_⟩:Env)=E;have ep:E.post=(fun v k=>∃ k',bY k' k/\φ v k'):=by rw[<- hE]
  clear hE;unfold Bh;obtain⟨g1,g2⟩:=aax h1 h2;rw[<- ae];rw[ae,aW];intro b hb;rw[ae,aW];intro c hc;have hb':h b=none:=hb;have hc':(h.set b ⟨strs Sj,9⟩) c=none:=hc;have hcb:c≠b:=fun e=>by rw[e,ay] at hc';cases hc'
  have hle:=bY.trans (hset hb' ⟨strs Sj,9⟩) (hset hc' ⟨ku U9,3⟩);have kb:((h.set b ⟨strs Sj,9⟩).set c ⟨ku U9,3⟩) b=some ⟨strs Sj,9⟩:=by rw[bf _ hcb.symm,ay]
  have kc:((h.set b ⟨strs Sj,9⟩).set c ⟨ku U9,3⟩) c=some ⟨ku U9,3⟩:=ay _ _ _;have e0:(0:Nat)+n*1+0=n:=by omega
  have r1:=gQ (k:=0+n*1+0) (x:=(OU n).1) kb (by rw[e0];exact g1);have r2:=Ko (k:=0+n*1+0) (x:=(OU n).2) kc (by rw[e0];exact g2);refine rL ⟨[],[],[(OU n).1],[],[],[]⟩ rfl af r1 ?_;refine rL ⟨[(OU n).2],[],[],[],[],[]⟩ rfl af r2 ?_;rw[ag];refine⟨by simp[go_sem]<;>omega,?_⟩;rw[ag];refine⟨by simp[go_sem]<;>omega,?_⟩;rw[aj,ep];exact⟨h,hle,hφ⟩
def rlv (x:Ng):Int:=if x.k=30\/x.k=31 then (OU x.n).2 else 8
def aa4 (x:Ng):Prop:=x.k=30\/x.k=31->∃ m:Nat,x.n=m/\1<=m/\m<=15
def AB:Ct Tryz.prog where
 f:=62
 spec:=fun args h φ=>∃ x,args=[Ng.v x]/\aa4 x/\φ (.int .i64 (rlv x)) h
 ok:=by
  rintro args h φ w ⟨x,rfl,ho,hφ⟩ hH;refine aZ Tryz.func62 Hu Lj [wR] φ (bJ) (aV) ⟨[x.k,x.l,x.c,x.z,x.n],[],[x.x],[],[],[],h,cu⟩ ⟨rfl,rfl,rfl,rfl,rfl,rfl⟩ af ?_ w hH rfl;generalize hE:(⟨aG _,_,_,_⟩:Env)=E;have sbw:E.spec 35=(wR).spec:=by rw[<- hE];rfl
  have ep:E.post=φ:=by rw[<- hE]
  clear hE;unfold yz;unfold rlv at hφ;by_cases h3:x.k=30\/x.k=31
  . obtain⟨m,hm,h1,h2⟩:=ho h3;rw[if_pos h3,hm] at hφ;rw[ak,if_pos (by simpa[go_sem] using h3)];rw[ai,sbw];refine⟨m,by show [Value.int .i64 x.n]=_;rw[hm],h1,h2,?_⟩;refine rR ⟨[(OU m).2],[],[(OU m).1],[],[],[]⟩ rfl af rfl ?_;rw[aj,ep];exact hφ
  . rw[if_neg h3] at hφ;rw[ak,if_neg (by simpa[go_sem] using h3)];rw[aj,ep];exact hφ
theorem Yg {t:Tr} (W:kX t):aa4 t.g:=by
 intro h;cases W with
 | un l c n h0 a ha=>exact⟨n.toNat,by show n=_;omega,by omega,by omega⟩
 | bin l c n h0 a b ha hb=>exact⟨n.toNat,by show n=_;omega,by omega,by omega⟩
 | _=>simp[Tr.g] at h
theorem aav {t:Tr} (W:kX t):rlv t.g=(t.lv:Nat):=by
 cases W with
 | un l c n h0 a ha=>rcases h0 with rfl | rfl<;>rfl
 | bin l c n h0 a b ha hb=>
   unfold rlv OU;rw[if_pos (.inr rfl),if_neg (by show ¬ n=12;omega),if_neg (by show ¬ n=13;omega)];rfl
 | _=>rfl
def rkS (n:Nat) (args:List Value) (h:Hp) (φ:Value->Hp->Prop):Prop:=
 ∃ sl l i s,args=[bM.val sl,.int .i64 ((i:Nat):Int)]/\NG h sl l/\l.length<=1000000/\mQ l n i=some s/\s.length<=1000000000000/\φ (.string (B s)) h
def L9 (n:Nat):Prop:=∀ args h φ w,rkS n args h φ->Holds h w->Calls Tryz.prog 14 args.toArray w fun e w'=>∃ v k,e=.returned v/\φ v k/\Holds k w'/\Fr w.heap.size h k w w'
def qg {n:Nat} (H:L9 n):Ct Tryz.prog:=⟨14,rkS n,H⟩
set_option maxHeartbeats 8000000 in
theorem pV:∀ n,L9 n
 | 0=>by
   rintro args h φ w ⟨sl,l,i,s,rfl,R,hl,hk,_⟩ hH;cases hk
 | n+1=>by
   have ih:=pV n;rintro args h φ w ⟨sl,l,i,s,rfl,R,hl,hk,hsl,hφ⟩ hH;refine bQ (aZ Tryz.func14 JG Q7 [qg ih] (fun v k=>∃ k',bY k' k/\φ v k') (bJ) (aV) ⟨[((i:Nat):Int)],[],[],[],[sl],[],h,cu⟩ ⟨rfl,rfl,rfl,rfl,rfl,rfl⟩ af ?_ w hH rfl);generalize hE:(⟨aG _,_,_,_⟩:Env)=E;have sa0:E.spec 14=(qg ih).spec:=by rw[<- hE];rfl
   have ep:E.post=(fun v k=>∃ k',bY k' k/\φ v k'):=by rw[<- hE]
   clear hE;unfold Bc;have hn:=NG.n R;rw[mQ] at hk;cases hx:l[i]? with
   | none=>rw[hx] at hk;cases hk
   | some x=>
     rw[hx] at hk;simp only at hk;obtain⟨hat,hx2⟩:=List.getElem?_eq_some_iff.1 hx;obtain⟨b,o,ha⟩:=Rows.nn R (j:=i) (by omega);have rz:=NG.node R hat ha;rw[hx2] at rz;have rk:=Rows.read (off:=0) (m:=1) R (j:=i) (by omega) (by omega) ha;rw[<- List.drop_drop,eP hat,hx2] at rk;have rx:=Rows.read (off:=5) (m:=1) R (j:=i) (by omega) (by omega) ha;rw[<- List.drop_drop,eP hat,hx2] at rx;obtain⟨k,ln,c,z,nn,xx⟩:=x;simp only at hk;rw[<- ae];rw[ag];refine⟨by simp[go_sem,ha]<;>omega,?_⟩;rw[ag];refine⟨by simp[go_sem,ha]<;>omega,?_⟩;refine rL ⟨[k],[],[],[],[],[]⟩ rfl af (by simpa[go_sem,ha,Ng.cs] using rk) ?_;by_cases c0:k=15
     . subst c0;rw[if_pos rfl] at hk;cases hk;rw[ah,if_pos (by simp[go_sem])];rw[ae,aW];intro bb hbb;have hbb':h bb=none:=hbb;have hle:=hset hbb' ⟨strs xB,9⟩;have R':=NG.le R hle;have rk':=Rows.read (off:=0) (m:=1) R' (j:=i) (by omega) (by omega) ha;rw[<- List.drop_drop,eP hat,hx2] at rk';have kb:(h.set bb ⟨strs xB,9⟩) bb=some ⟨strs xB,9⟩:=ay _ _ _;have r1:=gQ kb (show xB[0]? = some _ from rfl);rw[ag];refine⟨by simp[go_sem,ha]<;>omega,?_⟩;rw[ag];refine⟨by simp[go_sem,ha]<;>omega,?_⟩;rw[bP,if_pos (by rfl)];refine (bn _ _).2 ⟨⟨[15],[],[],[],[],[]⟩,rfl,af,(by
        have e:h.set bb ⟨strs xB,9⟩=h.set bb ⟨[.string (B [105,110,116]),.string (B [98,111,111,108]),.string (B [115,116,114]),.string (B [99,111,109,112])],9⟩:=rfl;rw[e] at rk';simpa[go_sem,ha,Ng.cs] using rk'),?_⟩
       rw[ag];refine⟨by simp[go_sem,IntKind.wrap]<;>omega,?_⟩;refine rL ⟨[],[],[xB.getD 0 []],[],[],[]⟩ rfl af r1 ?_;rw[aj,ep];exact⟨h,hle,hφ⟩
     rw[if_neg c0] at hk;rw[ah,if_neg (by simpa[go_sem] using c0)];by_cases c1:k=16
     . subst c1;rw[if_pos rfl] at hk;cases hk;rw[ah,if_pos (by simp[go_sem])];rw[ae,aW];intro bb hbb;have hbb':h bb=none:=hbb;have hle:=hset hbb' ⟨strs xB,9⟩;have R':=NG.le R hle;have rk':=Rows.read (off:=0) (m:=1) R' (j:=i) (by omega) (by omega) ha;rw[<- List.drop_drop,eP hat,hx2] at rk';have kb:(h.set bb ⟨strs xB,9⟩) bb=some ⟨strs xB,9⟩:=ay _ _ _;have r1:=gQ kb (show xB[1]? = some _ from rfl);rw[ag];refine⟨by simp[go_sem,ha]<;>omega,?_⟩;rw[ag];refine⟨by simp[go_sem,ha]<;>omega,?_⟩;rw[bP,if_pos (by rfl)];refine (bn _ _).2 ⟨⟨[16],[],[],[],[],[]⟩,rfl,af,(by
        have e:h.set bb ⟨strs xB,9⟩=h.set bb ⟨[.string (B [105,110,116]),.string (B [98,111,111,108]),.string (B [115,116,114]),.string (B [99,111,109,112])],9⟩:=rfl;rw[e] at rk';simpa[go_sem,ha,Ng.cs] using rk'),?_⟩
       rw[ag];refine⟨by simp[go_sem,IntKind.wrap]<;>omega,?_⟩;refine rL ⟨[],[],[xB.getD 1 []],[],[],[]⟩ rfl af r1 ?_;rw[aj,ep];exact⟨h,hle,hφ⟩
     rw[if_neg c1] at hk;rw[ah,if_neg (by simpa[go_sem] using c1)];by_cases c2:k=17
     . subst c2;rw[if_pos rfl] at hk;cases hk;rw[ah,if_pos (by simp[go_sem])];rw[ae,aW];intro bb hbb;have hbb':h bb=none:=hbb;have hle:=hset hbb' ⟨strs xB,9⟩;have R':=NG.le R hle;have rk':=Rows.read (off:=0) (m:=1) R' (j:=i) (by omega) (by omega) ha;rw[<- List.drop_drop,eP hat,hx2] at rk';have kb:(h.set bb ⟨strs xB,9⟩) bb=some ⟨strs xB,9⟩:=ay _ _ _;have r1:=gQ kb (show xB[2]? = some _ from rfl);rw[ag];refine⟨by simp[go_sem,ha]<;>omega,?_⟩;rw[ag];refine⟨by simp[go_sem,ha]<;>omega,?_⟩;rw[bP,if_pos (by rfl)];refine (bn _ _).2 ⟨⟨[17],[],[],[],[],[]⟩,rfl,af,(by
        have e:h.set bb ⟨strs xB,9⟩=h.set bb ⟨[.string (B [105,110,116]),.string (B [98,111,111,108]),.string (B [115,116,114]),.string (B [99,111,109,112])],9⟩:=rfl;rw[e] at rk';simpa[go_sem,ha,Ng.cs] using rk'),?_⟩
       rw[ag];refine⟨by simp[go_sem,IntKind.wrap]<;>omega,?_⟩;refine rL ⟨[],[],[xB.getD 2 []],[],[],[]⟩ rfl af r1 ?_;rw[aj,ep];exact⟨h,hle,hφ⟩
     rw[if_neg c2] at hk;rw[ah,if_neg (by simpa[go_sem] using c2)];by_cases c3:k=18
     . subst c3;rw[if_pos rfl] at hk;cases hk;rw[ah,if_pos (by simp[go_sem])];rw[ae,aW];intro bb hbb;have hbb':h bb=none:=hbb;have hle:=hset hbb' ⟨strs xB,9⟩;have R':=NG.le R hle;have rk':=Rows.read (off:=0) (m:=1) R' (j:=i) (by omega) (by omega) ha;rw[<- List.drop_drop,eP hat,hx2] at rk';have kb:(h.set bb ⟨strs xB,9⟩) bb=some ⟨strs xB,9⟩:=ay _ _ _;have r1:=gQ kb (show xB[3]? = some _ from rfl);rw[ag];refine⟨by simp[go_sem,ha]<;>omega,?_⟩;rw[ag];refine⟨by simp[go_sem,ha]<;>omega,?_⟩;rw[bP,if_pos (by rfl)];refine (bn _ _).2 ⟨⟨[18],[],[],[],[],[]⟩,rfl,af,(by
        have e:h.set bb ⟨strs xB,9⟩=h.set bb ⟨[.string (B [105,110,116]),.string (B [98,111,111,108]),.string (B [115,116,114]),.string (B [99,111,109,112])],9⟩:=rfl;rw[e] at rk';simpa[go_sem,ha,Ng.cs] using rk'),?_⟩
       rw[ag];refine⟨by simp[go_sem,IntKind.wrap]<;>omega,?_⟩;refine rL ⟨[],[],[xB.getD 3 []],[],[],[]⟩ rfl af r1 ?_;rw[aj,ep];exact⟨h,hle,hφ⟩
     rw[if_neg c3] at hk;rw[ah,if_neg (by simpa[go_sem] using c3)];by_cases c5:k=19
     . rw[if_pos c5] at hk;cases hk;rw[ah,if_pos (by simpa[go_sem] using c5)];rw[ag];refine⟨by simp[go_sem,ha]<;>omega,?_⟩;rw[ag];refine⟨by simp[go_sem,ha]<;>omega,?_⟩;refine rL ⟨[],[],[s],[],[],[]⟩ rfl af (by simpa[go_sem,ha,Ng.cs] using rx) ?_;rw[aj,ep];exact⟨h,fun _ _ h=>h,hφ⟩
     rw[if_neg c5] at hk;rw[ah,if_neg (by simpa[go_sem] using c5)];rw[ag];refine⟨by simp[go_sem]<;>omega,?_⟩;obtain⟨s2,hk2,rfl⟩:=Option.map_eq_some_iff.1 hk;rw[List.length_cons,List.length_append,List.length_cons,List.length_nil] at hsl;rw[ai,sa0];refine⟨sl,l,i+1,s2,rfl,R,hl,hk2,by omega,?_⟩;refine rR ⟨[],[],[s2],[],[],[]⟩ rfl af rfl ?_;rw[ag];refine⟨by simp[go_sem]<;>omega,?_⟩;rw[ag];refine⟨by simp[go_sem]<;>omega,?_⟩;rw[aj,ep];exact⟨h,fun _ _ h=>h,hφ⟩
def Be:Fm:=(.C 16 [.L 0,.J 0] (.p (.S 0)) ⟨0,0,1,0,0,0⟩
 (.N (.X (.x 0) (.x 0))
 (.O (.el (.x 0) (.x 0) 6 0) 6 [.U 2,.J 3,.J 4,.J 5,.J 6,(.s (.x 1))] ⟨5,0,1,0,0,0⟩
 (.C 62 [(.agg [.U 2,.J 3,.J 4,.J 5,.J 6,(.s (.x 1))])] (.p (.J 7)) ⟨1,0,0,0,0,0⟩
 (.ite (.lt (.x 7) (.x 1))
 (.N (.le (.add (.len (.c [40])) (.len (.x 0))) (.c 9223372036854775807))
 (.N (.le (.add (.len (.app (.c [40]) (.x 0))) (.len (.c [41]))) (.c 9223372036854775807))
 (.ret (.p (.one (.s (.app (.app (.c [40]) (.x 0)) (.c [41]))))))))
 (.ret (.p (.S 0))))))))
theorem JI:aU ⟨true,[]⟩ Tryz.prog (fun l=>([]:List bG).getD l ⟨[],[],[]⟩) Tryz.f34=Be:=by kernel_rfl
theorem Q9:az Tryz.prog .zero Tryz.f34.params.toList=some ([.L 0,.J 0,.J 1],⟨2,0,0,0,1,0⟩):=by kernel_rfl
def GM:Fm:=(.loop 0 ⟨[(.c 0)],[],[(.c [])],[],[],[]⟩
 (.ite (.lt (.x 0) (.cnt (.x 1)))
 (.ite (.lt (.c 0) (.x 0))
 (.N (.le (.add (.len (.x 0)) (.len (.c [44,32]))) (.c 9223372036854775807))
 (.N (.X (.x 0) (.x 1))
 (.O (.el (.x 1) (.x 0) 1 0) 1 [.J 1] ⟨1,0,0,0,0,0⟩
 (.C 16 [.L 0,.J 1] (.p (.S 1)) ⟨0,0,1,0,0,0⟩
 (.N (.le (.add (.len (.app (.x 0) (.c [44,32]))) (.len (.x 1))) (.c 9223372036854775807))
 (.N (.R (.add (.x 0) (.c 1)))
 (.again 0 ⟨0,0,0,0,2,0⟩ ⟨1,0,1,0,2,0⟩ ⟨[(.add (.x 0) (.c 1))],[],[(.app (.app (.x 0) (.c [44,32])) (.x 1))],[],[],[]⟩)))))))
 (.N (.X (.x 0) (.x 1))
 (.O (.el (.x 1) (.x 0) 1 0) 1 [.J 1] ⟨1,0,0,0,0,0⟩
 (.C 16 [.L 0,.J 1] (.p (.S 1)) ⟨0,0,1,0,0,0⟩
 (.N (.le (.add (.len (.x 0)) (.len (.x 1))) (.c 9223372036854775807))
 (.N (.R (.add (.x 0) (.c 1)))
 (.again 0 ⟨0,0,0,0,2,0⟩ ⟨1,0,1,0,2,0⟩ ⟨[(.add (.x 0) (.c 1))],[],[(.app (.x 0) (.x 1))],[],[],[]⟩)))))))
 (.ret (.p (.S 0)))))
theorem Qv:aU ⟨true,[]⟩ Tryz.prog (fun l=>([⟨[5,9],[10,11,6,12,13,14,15,16,17,18,19,20,21,22,23,24],[]⟩]:List bG).getD l ⟨[],[],[]⟩) Tryz.f33=GM:=by kernel_rfl
theorem VT:az Tryz.prog .zero Tryz.f33.params.toList=some ([.L 0,.L 1],⟨0,0,0,0,2,0⟩):=by kernel_rfl
def rtS (n:Nat) (args:List Value) (h:Hp) (φ:Value->Hp->Prop):Prop:=
 ∃ sl l p t,args=[bM.val sl,.int .i64 ((p:Nat):Int)]/\NG h sl l/\l.length<=1000000/\Ps l p t/\kX t/\t.n<=n/\(tx t).length<=1000000000000/\φ (.string (B (tx t))) h
def roS (n:Nat) (args:List Value) (h:Hp) (φ:Value->Hp->Prop):Prop:=
 ∃ sl l p t m,args=[bM.val sl,.int .i64 ((p:Nat):Int),.int .i64 ((m:Nat):Int)]/\NG h sl l/\l.length<=1000000/\Ps l p t/\kX t/\t.n<=n/\(brk (decide (t.lv<m)) (tx t)).length<=1000000000000/\φ (.string (B (brk (decide (t.lv<m)) (tx t)))) h
def rrS (n:Nat) (args:List Value) (h:Hp) (φ:Value->Hp->Prop):Prop:=
 ∃ sl sk l p ts,args=[bM.val sl,bM.val sk]/\NG h sl l/\l.length<=1000000/\EO l p ts/\oP ts/\Tr.ns ts<=n/\iy h sk (places ((p:Nat):Int) ts)/\(oN ts).length<=1000000000000/\φ (.string (B (oN ts))) h
def wK (n:Nat):Prop:=∀ args h φ w,rtS n args h φ->Holds h w->Calls Tryz.prog 16 args.toArray w fun e w'=>∃ v k,e=.returned v/\φ v k/\Holds k w'/\Fr w.heap.size h k w w'
def Mc (n:Nat):Prop:=∀ args h φ w,roS n args h φ->Holds h w->Calls Tryz.prog 34 args.toArray w fun e w'=>∃ v k,e=.returned v/\φ v k/\Holds k w'/\Fr w.heap.size h k w w'
def SQ (n:Nat):Prop:=∀ args h φ w,rrS n args h φ->Holds h w->Calls Tryz.prog 33 args.toArray w fun e w'=>∃ v k,e=.returned v/\φ v k/\Holds k w'/\Fr w.heap.size h k w w'
def lG {n:Nat} (H:wK n):Ct Tryz.prog:=⟨16,rtS n,H⟩
def MS {n:Nat} (H:Mc n):Ct Tryz.prog:=⟨34,roS n,H⟩
def TP {n:Nat} (H:SQ n):Ct Tryz.prog:=⟨33,rrS n,H⟩
set_option maxHeartbeats 4000000 in
theorem IP {n:Nat} (ih:wK n):Mc n:=by
 rintro args h φ w ⟨sl,l,p,t,m,rfl,R,hl,P,W,hn,hF,hφ⟩ hH;refine aZ Tryz.func34 JI Q9 [lG ih,AB] φ (bJ) (aV) ⟨[((p:Nat):Int),((m:Nat):Int)],[],[],[],[sl],[],h,cu⟩ ⟨rfl,rfl,rfl,rfl,rfl,rfl⟩ af ?_ w hH rfl;generalize hE:(⟨aG _,_,_,_⟩:Env)=E;have sbx:E.spec 16=(lG ih).spec:=by rw[<- hE];rfl
 have sby:E.spec 62=(AB).spec:=by rw[<- hE];rfl
 have ep:E.post=φ:=by rw[<- hE]
 clear hE;unfold Be;have hsn:=NG.n R;obtain⟨hpl,hpt⟩:=P.node;obtain⟨b,o,ha⟩:=Rows.nn R (j:=p) (by omega);have rz:=NG.node R hpl ha;rw[hpt] at rz;have hlen:(tx t).length<=1000000000000:=by
  unfold brk at hF;split at hF
  . simp only[List.length_cons,List.length_append,List.length_nil] at hF;omega
  . exact hF
 rw[ax,if_pos (by rfl),sbx];refine⟨sl,l,p,t,rfl,R,hl,P,W,hn,hlen,?_⟩;refine rR ⟨[],[],[tx t],[],[],[]⟩ rfl af rfl ?_;rw[ag];refine⟨by simp[go_sem,ha]<;>omega,?_⟩;refine rL ⟨[t.g.k,t.g.l,t.g.c,t.g.z,t.g.n],[],[t.g.x],[],[],[]⟩ rfl af (by simpa[go_sem,ha,Ng.cs] using rz) ?_;rw[ai,sby];refine⟨t.g,rfl,Yg W,?_⟩;refine rR ⟨[rlv t.g],[],[],[],[],[]⟩ rfl af rfl ?_;rw[aav W];by_cases hlv:t.lv<m
 . rw[decide_eq_true hlv] at hφ;have hz:(t.lv:Int)<(m:Int):=by omega
   rw[ah,if_pos (by simpa[go_sem] using hz)];rw[ag];refine⟨by simp[go_sem]<;>omega,?_⟩;rw[ag];refine⟨by simp[go_sem]<;>omega,?_⟩;rw[aj,ep];exact hφ
 . rw[decide_eq_false hlv] at hφ;have hz:¬ ((t.lv:Int)<(m:Int)):=by omega
   rw[ah,if_neg (by simpa[go_sem] using hz)];rw[aj,ep];exact hφ
def OQ (h:Hp) (sl sk:bM) (ts:List Tr) (_:Nat) (C:Ctx):Prop:=
 ∃ (j:Nat) (pre rest:List Tr) (a:List UInt8),C=⟨[j],[],[a],[],[sl,sk],[],h,cu⟩/\ts=pre++rest/\pre.length=j/\a++SK j rest=oN ts
set_option maxHeartbeats 4000000 in
theorem OT {n:Nat} (ih:wK n):SQ n:=by
 rintro args h φ w ⟨sl,sk,l,p,ts,rfl,R,hl,P,W,hn,RK,hF,hφ⟩ hH;refine aZ Tryz.func33 Qv VT [lG ih] φ (OQ h sl sk ts) (fun _ C=>((ts.length:Int) - C.i.getD 0 0).toNat) ⟨[],[],[],[],[sl,sk],[],h,cu⟩ ⟨rfl,rfl,rfl,rfl,rfl,rfl⟩ af ?_ w hH rfl;generalize hE:(⟨aG _,_,_,_⟩:Env)=E;have sbx:E.spec 16=(lG ih).spec:=by rw[<- hE];rfl
 have ep:E.post=φ:=by rw[<- hE]
 have ei:E.inv=(OQ h sl sk ts):=by rw[<- hE]
 have em:E.meas=(fun _ C=>((ts.length:Int) - C.i.getD 0 0).toNat):=by rw[<- hE]
 clear hE;unfold GM;have hsn:=RK.n;rw[dn] at hsn;have hts6:ts.length<=1000000:=by
  obtain⟨pre,post,rfl,_⟩:=P;have:=yZ ts;rw[List.length_append,List.length_append,jy] at hl;omega
 refine bH ?_ ?_
 . rw[ei];exact⟨0,[],ts,[],rfl,rfl,rfl,by simp[SK]⟩
 rw[ei,em];rintro i bb ss v ll pp hh M ⟨j,pre,rest,a,hC,hts,hj,ha⟩ hM;cases hC;have hM':M 0=((ts.length:Int) - j).toNat:=hM;have htl:ts.length=j+rest.length:=by rw[hts,List.length_append,hj]
 cases rest with
 | nil=>
   rw[List.length_nil] at htl;have hz:¬ ((j:Int)<sk.n):=by omega
   rw[OV,List.append_nil] at ha;rw[ak,if_neg (by simpa[go_sem] using hz)];rw[aj,ep];rw[ha];exact hφ
 | cons t rest=>
   rw[List.length_cons] at htl;have hz:(j:Int)<sk.n:=by omega
   rw[IR] at ha;have hP:=EO.app (show EO l p (pre++(t::rest)) by rw[<- hts];exact P);have hW:=oP.app (show oP (pre++(t::rest)) by rw[<- hts];exact W);obtain⟨hP1,hP2⟩:=hP.cons;have hWt:kX t:=by cases hW;assumption
   have htn:t.n<=n:=by
    rw[hts,gU,aI] at hn;omega
   have hpl:(places ((p:Nat):Int) ts)[j]? = some ((p+Tr.ns pre:Nat):Int):=by
    rw[hts,nU,List.getElem?_append_right (by rw[dn];omega),dn,hj,Nat.sub_self,places];simp
   obtain⟨hj3,hj4⟩:=List.getElem?_eq_some_iff.1 hpl;obtain⟨c1,o1,hsa,hrd⟩:=RK.read hj3;rw[hj4] at hrd;have hlen:=congrArg List.length ha;simp only[List.length_append] at hlen;rw[ak,if_pos (by simpa[go_sem] using hz)];by_cases hj0:j=0
   . have hz0:¬ ((0:Int)<(j:Int)):=by omega
     rw[ah,if_neg (by simpa[go_sem] using hz0)];rw[if_pos hj0] at ha hlen;rw[ag];refine⟨by simp[go_sem,hsa]<;>omega,?_⟩;refine rL ⟨[((p+Tr.ns pre:Nat):Int)],[],[],[],[],[]⟩ rfl af (by simpa[go_sem,hsa] using hrd) ?_;rw[ai,sbx];refine⟨sl,l,p+Tr.ns pre,t,rfl,R,hl,hP1,hWt,htn,by omega,?_⟩;refine rR ⟨[],[],[tx t],[],[],[]⟩ rfl af rfl ?_;rw[ag];refine⟨by simp[go_sem]<;>omega,?_⟩;rw[ag];refine⟨by simp[go_sem]<;>omega,?_⟩;rw[ae,says_again,ei,em];refine⟨⟨j+1,pre++[t],rest,a++tx t,rfl,by rw[hts];simp,by simp[hj],by rw[<- ha];simp⟩,?_⟩;show (((ts.length:Int) - ((j:Int)+1)).toNat)<M 0;omega
   . have hz0:(0:Int)<(j:Int):=by omega
     rw[ah,if_pos (by simpa[go_sem] using hz0)];rw[if_neg hj0] at ha hlen;simp only[List.length_cons,List.length_nil] at hlen;rw[ag];refine⟨by simp[go_sem]<;>omega,?_⟩;rw[ag];refine⟨by simp[go_sem,hsa]<;>omega,?_⟩;refine rL ⟨[((p+Tr.ns pre:Nat):Int)],[],[],[],[],[]⟩ rfl af (by simpa[go_sem,hsa] using hrd) ?_;rw[ai,sbx];refine⟨sl,l,p+Tr.ns pre,t,rfl,R,hl,hP1,hWt,htn,by omega,?_⟩;refine rR ⟨[],[],[tx t],[],[],[]⟩ rfl af rfl ?_;rw[ag];refine⟨by simp[go_sem]<;>omega,?_⟩;rw[ag];refine⟨by simp[go_sem]<;>omega,?_⟩;rw[ae,says_again,ei,em];refine⟨⟨j+1,pre++[t],rest,a++[44,32]++tx t,rfl,by rw[hts];simp,by simp[hj],by rw[<- ha];simp⟩,?_⟩;show (((ts.length:Int) - ((j:Int)+1)).toNat)<M 0;omega
end
section
attribute [local go_sem] Px dW fF gm kC rX
set_option maxHeartbeats 2000000 in
theorem xJ (a b c d e f g h:Int) (w:World):
 Calls Tryz.prog 98 #[dv a b c d e f g h] w fun e' w'=>e'=.returned (.bool (decide (128<=h)))/\Below w.heap.size w w':=by
 go_enter Tryz.func98,Tryz.ntmps98
 go_wp2
 go_ret
 exact⟨rfl,(by (repeat (first | (with_reducible exact Below.refl _ _) | (with_reducible assumption) | (with_reducible refine Below.drew ?_) | (with_reducible refine below_draws ?_ _) | ((with_reducible refine Below.setCell ?_ ?_ _);rotate_left;(first | (with_reducible exact Nat.le_refl _) | (focus (simp;done)) | (focus (simp;omega)) | omega)) | ((with_reducible refine Below.alloc ?_ ?_ _);rotate_left;(first | (with_reducible exact Nat.le_refl _) | (focus (simp;done)) | (focus (simp;omega)) | omega)))))⟩
set_option maxHeartbeats 2000000 in
theorem WI (n:Int) (h0:0<=n) (h1:n<=9223372036854775807) (w:World):
 Calls Tryz.prog 60 #[.int .i64 n] w fun e w'=>e=.returned (.int .u64 n)/\Below w.heap.size w w':=by
 have hu:IntKind.u64.wrap n=n:=by rw[wrap_u64];omega
 have hd:decide (128<=n / 256 / 256 / 256 / 256 / 256 / 256 / 256 % 256)=false:=by simp;omega
 have hw:wrap64 n=n:=by unfold wrap64;omega
 have hN:=Lib.hid (Ou n h0 (by omega));have h2:n<=18446744073709551615:=by omega
 go_enter Tryz.func60,Tryz.ntmps60
 go_wp2_with fail
 refine (Zk _ _ hu h0 h2 _).mono ?_;rintro e w1 ⟨rfl,hb1⟩
 go_wp2_with fail
 refine (xJ _ _ _ _ _ _ _ _ _).mono ?_;rintro e w2 ⟨rfl,hb2⟩;obtain⟨hc2,hf2⟩:=MB hb2
 go_wp2_with fail
 refine (vW _ _ _ _ _ _ _ _ (by omega) (by omega) (by omega) (by omega) (by omega) (by omega) (by omega) (by omega) (by omega) (by omega) (by omega) (by omega) (by omega) (by omega) (by omega) (by omega) _).mono ?_;rintro e w3 ⟨rfl,hb3⟩;have q1:Below w.heap.size w w1:=hb1;have q2:Below w.heap.size w w2:=Below.trans (B:=w.heap.size) (b:=w1.alloc _) ((hb1.mono (Nat.le_refl _)).alloc hb1.size _) (hb2.mono (by have:=hb1.size;simp;omega));have q3:Below w.heap.size w w3:=Below.trans q2 (hb3.mono q2.size);rw[hN.out]
 go_wp2_with fail
 go_ret
 exact⟨rfl,q3⟩
set_option maxHeartbeats 2000000 in
set_option maxRecDepth 100000 in
theorem WH (n u:Int) (h0:-9223372036854775808<=n) (h1:n<0) (hu0:u=n+18446744073709551616) (w:World):
 Calls Tryz.prog 60 #[.int .i64 n] w fun e w'=>e=.returned (.int .u64 (-n))/\Below w.heap.size w w':=by
 have hu:IntKind.u64.wrap n=u:=by rw[wrap_u64];omega
 have hd:decide (128<=u / 256 / 256 / 256 / 256 / 256 / 256 / 256 % 256)=true:=by simp;omega
 have hlo:0<=u:=by omega
 have hhi:u<=18446744073709551615:=by omega
 have hN:=Lib.hid (Ou u hlo hhi);have hW:wrap64 ((18446744073709551616 - u) % 18446744073709551616)=wrap64 (-n):=by unfold wrap64;omega
 have HW:=Lib.hid hW;have HB:=Lib.hid (SI (-n) (by omega) (by omega));clear hu0 hW
 go_enter Tryz.func60,Tryz.ntmps60
 go_wp2_with fail
 refine (Zk _ _ hu hlo hhi _).mono ?_;rintro e w1 ⟨rfl,hb1⟩
 go_wp2_with fail
 refine (xJ _ _ _ _ _ _ _ _ _).mono ?_;rintro e w2 ⟨rfl,hb2⟩;obtain⟨hc2,hf2⟩:=MB hb2
 go_wp2_with fail
 refine (KG _ _ _ _ _ _ _ _ (by omega) (by omega) (by omega) (by omega) (by omega) (by omega) (by omega) (by omega) (by omega) (by omega) (by omega) (by omega) (by omega) (by omega) (by omega) (by omega) _).mono ?_;rintro e w3 ⟨rfl,hb3⟩;obtain⟨hc3,hf3⟩:=MB hb3;have z2:w1.heap.size<w2.heap.size:=by have:=hb2.size;simp at this;omega
 have z3:w1.heap.size<w3.heap.size:=by have:=hb3.size;omega
 go_wp2_with fail
 refine (vW _ _ _ _ _ _ _ _ (by omega) (by omega) (by omega) (by omega) (by omega) (by omega) (by omega) (by omega) (by omega) (by omega) (by omega) (by omega) (by omega) (by omega) (by omega) (by omega) _).mono ?_;rintro e w4 ⟨rfl,hb4⟩;have q1:Below w.heap.size w w1:=hb1;have q2:Below w.heap.size w w2:=Below.trans (B:=w.heap.size) (b:=w1.alloc _) ((hb1.mono (Nat.le_refl _)).alloc hb1.size _) (hb2.mono (by have:=hb1.size;simp;omega));have q3:Below w.heap.size w w3:=Below.trans q2 (hb3.mono q2.size);have s1:=hb1.size;have q4:Below w.heap.size w w4:=Below.trans (by (repeat (first | (with_reducible exact Below.refl _ _) | (with_reducible assumption) | (with_reducible refine Below.drew ?_) | (with_reducible refine below_draws ?_ _) | ((with_reducible refine Below.setCell ?_ ?_ _);rotate_left;(first | (with_reducible exact Nat.le_refl _) | (focus (simp;done)) | (focus (simp;omega)) | omega)) | ((with_reducible refine Below.alloc ?_ ?_ _);rotate_left;(first | (with_reducible exact Nat.le_refl _) | (focus (simp;done)) | (focus (simp;omega)) | omega))))) (hb4.mono (by have:=q3.size;simp;omega));rw[KP _ _ _ _ _ _ _ _ (by omega) (by omega) (by omega) (by omega) (by omega) (by omega) (by omega) (by omega) (by omega) (by omega) (by omega) (by omega) (by omega) (by omega) (by omega) (by omega),hN.out,HW.out]
 go_wp2_with fail
 rw[HB.out]
 go_ret
 exact⟨rfl,q4⟩
theorem wY (m:Nat) (h:m<10):List.drop m (48::List.take m [49,50,51,52,53,54,55,56,57])=[dg m]:=by
 match m,h with
 | 0,_ | 1,_ | 2,_ | 3,_ | 4,_ | 5,_ | 6,_ | 7,_ | 8,_ | 9,_=>rfl
set_option maxHeartbeats 2000000 in
theorem LJ (n:Int) (m0:Nat) (hm:m0<=9223372036854775808) (hs:∀ w,Calls Tryz.prog 60 #[.int .i64 n] w fun e w'=>e=.returned (.int .u64 (m0:Int))/\Below w.heap.size w w') (hn:n<0) (w:World):
 Calls Tryz.prog 31 #[.int .i64 n] w fun e w'=>e=.returned (.string (B (45::dec m0)))/\Below w.heap.size w w':=by
 have HS:=Lib.hid hs;clear hs
 go_enter Tryz.func31,Tryz.ntmps31
 go_wp2_with fail
 refine (HS.out _).mono ?_;rintro e w1 ⟨rfl,hb1⟩
 go_wp2_with fail
 go_loop [3,4] (fun a s=>∃ (q m:Nat) (t:List UInt8),TI m0 q m t/\a=.int .u64 m/\s=.string (B t)) (fun a _=>(intOf a).toNat)
 case atStart=>exact⟨19,m0,[],TI.start m0,rfl,rfl⟩
 case round=>
  obtain⟨q,m,t,ht,rfl,rfl⟩:=hrel;obtain⟨hr1,hr2⟩:=ht.room hm;have hm9:(m:Int)<=9223372036854775808:=by omega
  have hlen:t.length<=19:=by have:=ht.len;omega
  by_cases h10:m<10
  . have hlast:=ht.last h10;have hcut:=wY m h10;clear ht
    go_wp2
    go_ret
    exact⟨by rw[<- hlast,show m % 10=m by omega];rfl,hb1⟩
  . obtain⟨q',rfl,ht'⟩:=ht.next hm h10
    have hcut:=wY (m % 10) (by omega);clear ht
    go_wp2
    go_round
    case rel=>exact⟨q',m / 10,_,ht',by go_num,rfl⟩
    case measure=>simp[intOf];omega
set_option maxHeartbeats 2000000 in
theorem zy (n:Int) (m0:Nat) (hm:m0<=9223372036854775808) (hs:∀ w,Calls Tryz.prog 60 #[.int .i64 n] w fun e w'=>e=.returned (.int .u64 (m0:Int))/\Below w.heap.size w w') (hn:¬ n<0) (w:World):
 Calls Tryz.prog 31 #[.int .i64 n] w fun e w'=>e=.returned (.string (B (dec m0)))/\Below w.heap.size w w':=by
 have HS:=Lib.hid hs;clear hs
 go_enter Tryz.func31,Tryz.ntmps31
 go_wp2_with fail
 refine (HS.out _).mono ?_;rintro e w1 ⟨rfl,hb1⟩
 go_wp2_with fail
 go_loop [3,4] (fun a s=>∃ (q m:Nat) (t:List UInt8),TI m0 q m t/\a=.int .u64 m/\s=.string (B t)) (fun a _=>(intOf a).toNat)
 case atStart=>exact⟨19,m0,[],TI.start m0,rfl,rfl⟩
 case round=>
  obtain⟨q,m,t,ht,rfl,rfl⟩:=hrel;obtain⟨hr1,hr2⟩:=ht.room hm;have hm9:(m:Int)<=9223372036854775808:=by omega
  have hlen:t.length<=19:=by have:=ht.len;omega
  by_cases h10:m<10
  . have hlast:=ht.last h10;have hcut:=wY m h10;clear ht
    go_wp2
    go_ret
    exact⟨by rw[<- hlast,show m % 10=m by omega];rfl,hb1⟩
  . obtain⟨q',rfl,ht'⟩:=ht.next hm h10
    have hcut:=wY (m % 10) (by omega);clear ht
    go_wp2
    go_round
    case rel=>exact⟨q',m / 10,_,ht',by go_num,rfl⟩
    case measure=>simp[intOf];omega
theorem RV (n:Int) (h0:-9223372036854775808<=n) (h1:n<=9223372036854775807) (w:World):
 Calls Tryz.prog 31 #[.int .i64 n] w fun e w'=>e=.returned (.string (B (txt n)))/\Below w.heap.size w w':=by
 by_cases hn:n<0
 . unfold txt;rw[if_pos hn];refine LJ n n.natAbs (by omega) (fun w=>?_) hn w;rw[show ((n.natAbs:Nat):Int)=-n by omega];exact WH n _ h0 hn rfl w
 . unfold txt;rw[if_neg hn];refine zy n n.natAbs (by omega) (fun w=>?_) hn w;rw[show ((n.natAbs:Nat):Int)=n by omega];exact WI n (by omega) h1 w
end
def Tok.p (t:Tok):Int×Int×List UInt8:=(t.k,t.n,t.x)
theorem TY (m:Nat) (h:m<10):lM (dg m)=true/\(dg m).toNat=48+m:=by
 have:(dg m).toNat=48+m:=by simp[dg];omega
 refine⟨?_,this⟩;simp[lM,this];omega
theorem TZ (k:Nat):∀ (m:Nat) (t:List UInt8),0<k->m<10 ^ k->∃ d,ZU k m t=d++t/\d.all lM=true/\kV d=m/\d≠[]/\(m≠0->d.head?≠some 48)/\(m=0->d=[48]):=by
 induction k with
 | zero=>intro m t h;omega
 | succ k ih=>
   intro m t _ hm;rw[ZU];by_cases h10:m<10
   . rw[if_pos h10];obtain⟨h1,h2⟩:=TY m h10;refine⟨[dg m],rfl,by simp[h1],?_,by simp,fun h0=>?_,fun h0=>by subst h0;rfl⟩
     . rw[CU,h2];simp[kV]
     . simp only[List.head?_cons,ne_eq,Option.some.injEq];intro e;rw[e] at h2;have:(48:UInt8).toNat=48:=rfl;omega
   . rw[if_neg h10];have hk:0<k:=by
      cases k with
      | zero=>simp at hm;omega
      | succ k=>omega
     obtain⟨d,e1,e2,e3,e4,e5,e6⟩:=ih (m / 10) (dg (m % 10)::t) hk (by rw[Nat.pow_succ] at hm;omega);obtain⟨h1,h2⟩:=TY (m % 10) (by omega);refine⟨d++[dg (m % 10)],by rw[e1];simp,by rw[List.all_append,e2];simp[h1],?_,by simp,fun _=>?_,fun h0=>by omega⟩
     . rw[CV,e3,h2];omega
     . have:=e5 (by omega);cases d with
       | nil=>exact absurd rfl e4
       | cons x d=>simpa using this
theorem TW (m:Nat) (h:m<=9223372036854775808):(dec m).all lM=true/\kV (dec m)=m/\dec m≠[]/\(m≠0->(dec m).head?≠some 48)/\(m=0->dec m=[48]):=by
 obtain⟨d,e1,e2,e3,e4,e5,e6⟩:=TZ 20 m [] (by omega) (by omega);rw[List.append_nil] at e1;unfold dec;rw[e1];exact⟨e2,e3,e4,e5,e6⟩
abbrev T3:=Int×Int×List UInt8
def sT (x:List UInt8):T3:=(7,0,x)
section
variable (l c n:Int) (x:List UInt8)
end
theorem Y1 (n:Int):(oJ n).1∈([[38,38],[124,124],[61,61],[33,61],[60,61],[62,61]]:List (List UInt8))\/(∃ c,(oJ n).1=[c]/\c∈([43,45,42,47,37,40,41,123,125,91,93,44,59,58,46]:List UInt8))\/(∃ c,(oJ n).1=[c]/\c∈([60,62,33,61]:List UInt8)):=by
 unfold oJ;by_cases c15:n=15
 . rw[if_pos c15];left;decide
 rw[if_neg c15];by_cases c14:n=14
 . rw[if_pos c14];left;decide
 rw[if_neg c14];by_cases c6:n=6
 . rw[if_pos c6];left;decide
 rw[if_neg c6];by_cases c7:n=7
 . rw[if_pos c7];left;decide
 rw[if_neg c7];by_cases c8:n=8
 . rw[if_pos c8];right;right;exact⟨_,rfl,by decide⟩
 rw[if_neg c8];by_cases c9:n=9
 . rw[if_pos c9];left;decide
 rw[if_neg c9];by_cases c10:n=10
 . rw[if_pos c10];right;right;exact⟨_,rfl,by decide⟩
 rw[if_neg c10];by_cases c11:n=11
 . rw[if_pos c11];left;decide
 rw[if_neg c11];by_cases c1:n=1
 . rw[if_pos c1];right;left;exact⟨_,rfl,by decide⟩
 rw[if_neg c1];by_cases c2:n=2
 . rw[if_pos c2];right;left;exact⟨_,rfl,by decide⟩
 rw[if_neg c2];by_cases c3:n=3
 . rw[if_pos c3];right;left;exact⟨_,rfl,by decide⟩
 rw[if_neg c3];by_cases c4:n=4
 . rw[if_pos c4];right;left;exact⟨_,rfl,by decide⟩
 rw[if_neg c4];right;left;exact⟨_,rfl,by decide⟩
def Ev {α:Type} (f:Nat->Option α) (r:α):Prop:=∃ N,∀ n,N<=n->f n=some r
theorem Ev.of {α:Type} {f:Nat->Option α} {r:α} (N:Nat) (h:∀ n,N<=n->f n=some r):Ev f r:=⟨N,h⟩
theorem Ev.succ {α:Type} {f g:Nat->Option α} {r:α} (h:Ev g r) (hf:∀ n,f (n+1)=g n):Ev f r:=by
 obtain⟨N,hN⟩:=h;refine⟨N+1,fun n hn=>?_⟩;obtain⟨m,rfl⟩:∃ m,n=m+1:=⟨n - 1,by omega⟩;rw[hf,hN m (by omega)]
theorem Ev.bind {α β:Type} {f:Nat->Option α} {g:Nat->α->Option β} {a:α} {r:β} (h:Ev f a) (hg:Ev (fun n=>g n a) r):Ev (fun n=>(f n).bind (g n)) r:=by
 obtain⟨N,hN⟩:=h;obtain⟨M,hM⟩:=hg;refine⟨N+M,fun n hn=>?_⟩;simp only[hN n (by omega),Option.bind_some];exact hM n (by omega)
theorem Ev.map {α β:Type} {f:Nat->Option α} {g:α->β} {a:α} (h:Ev f a):Ev (fun n=>(f n).map g) (g a):=by
 obtain⟨N,hN⟩:=h;exact⟨N,fun n hn=>by simp only[hN n hn,Option.map_some]⟩
theorem Ev.const {α:Type} (r:α):Ev (fun _=>some r) r:=⟨0,fun _ _=>rfl⟩
def je (L:List Tok) (a:Nat) (T:List T3):Prop:=(L.drop a).map Tok.p=T
def gs (a:Nat) (d:Int):PS:=⟨a,d,(0,0,0)⟩
section
variable {L:List Tok} {a:Nat} {d:Int} {k n:Int} {x:List UInt8} {T:List T3}
theorem je.hd (h:je L a ((k,n,x)::T)):(tk L (gs a d)).k=k/\(tk L (gs a d)).n=n/\(tk L (gs a d)).x=x/\je L (a+1) T:=by
 unfold je at h⊢;have hlt:a<L.length:=by
  have:=congrArg List.length h;rw[List.length_map,List.length_drop,List.length_cons] at this;omega
 rw[List.drop_eq_getElem_cons hlt,List.map_cons] at h;injection h with h1 h2
 have e:tk L (gs a d)=L[a]:=by
  unfold Go.Proofs.YtllbpdllkkcajaaGreatDoor.tk gs;rw[List.getD_eq_getElem?_getD,List.getElem?_eq_getElem hlt];rfl
 rw[e];unfold Tok.p at h1;injection h1 with h3 h4
 injection h4 with h4 h5
 exact⟨h3,h4,h5,h2⟩
theorem je.app {S:List T3} (h:je L a (S++T)):je L (a+S.length) T:=by
 unfold je at h⊢;rw[<- List.drop_drop,List.map_drop,h,List.drop_left]
theorem UV:(gs a d).bad=false:=rfl
theorem je.is (h:je L a ((k,n,x)::T)) (s:List UInt8):dw L s (gs a d)=((k==6||k==7)&&x==s):=by
 obtain⟨h1,_,h3,_⟩:=h.hd (d:=d);unfold dw;rw[UV,h1,h3];rfl
theorem je.yes (h:je L a (sT x::T)):dw L x (gs a d)=true:=by rw[h.is];simp
theorem je.word {n:Int} (h:je L a ((6,n,x)::T)):dw L x (gs a d)=true:=by rw[h.is];simp
theorem je.pass (h:je L a ((k,n,x)::T)) (h8:k≠8):bK L (gs a d)=gs (a+1) d:=by
 unfold bK;rw[(h.hd).1,if_neg h8];rfl
theorem je.must (h:je L a (sT x::T)):bZ L x (gs a d)=gs (a+1) d:=by
 unfold bZ;rw[h.yes,if_pos rfl,h.pass (by decide)]
theorem je.shut (h:je L a (sT x::T)):dQ L x (gs a (d+1))=gs (a+1) d:=by
 unfold dQ;rw[h.must];show gs (a+1) (d+1 - 1)=_;rw[Int.add_sub_cancel]
end
def Stp (lvl:Nat) (T:List T3):Prop:=∃ k n x T',T=(k,n,x)::T'/\(k=8\/(k=7/\x≠[91]/\x≠[46]/\x≠[40]/\(OA x).2<lvl))
def NoC (T:List T3):Prop:=∃ k n x T',T=(k,n,x)::T'/\(k=8\/(k=7/\x≠[40]))
theorem Stp.noc {lvl:Nat} {T:List T3} (h:Stp lvl T):NoC T:=by
 obtain⟨k,n,x,T',e,h⟩:=h;exact⟨k,n,x,T',e,h.imp id fun h=>⟨h.1,h.2.2.2.1⟩⟩
theorem Stp.mono {lvl m:Nat} {T:List T3} (h:Stp lvl T) (hm:lvl<=m):Stp m T:=by
 obtain⟨k,n,x,T',e,h⟩:=h;exact⟨k,n,x,T',e,h.imp id fun h=>⟨h.1,h.2.1,h.2.2.1,h.2.2.2.1,by omega⟩⟩
theorem Stp.op {L:List Tok} {a:Nat} {d:Int} {T:List T3} {lvl m:Nat} (h:Stp lvl T) (hm:lvl<=m) (hT:je L a T):OD L m (gs a d)=0:=by
 obtain⟨k,n,x,T',rfl,h⟩:=h;obtain⟨h1,_,h3,_⟩:=hT.hd (d:=d);unfold OD;rw[UV,h1,h3];rcases h with rfl | ⟨rfl,_,_,_,h⟩
 . rfl
 . rw[if_neg (by decide),if_neg (by omega)]
theorem Stp.post {L:List Tok} {a:Nat} {d:Int} {T:List T3} {lvl:Nat} (h:Stp lvl T) (hT:je L a T) (x:Tr) (n:Nat):jR L (n+1) x (gs a d)=some (x,gs a d):=by
 obtain⟨k,m,y,T',rfl,h⟩:=h;rw[jR,hT.is,hT.is];rcases h with rfl | ⟨rfl,h1,h2,_,_⟩
 . rfl
 . rw[if_neg (by simp[h1]),if_neg (by simp[h2])]
section
variable (L:List Tok) (S:List T3) (a:Nat) (d:Int) (b:Tr)
def PF:Prop:=∃ t':Tr,t'.bare=b/\∀ r,Ev (fun n=>jR L n t' (gs (a+S.length) d)) r->Ev (fun n=>(lN L n (gs a d)).bind fun r=>jR L n r.1 r.2) r
def DF (lvl:Nat):Prop:=∃ t':Tr,t'.bare=b/\Ev (fun n=>iE L n lvl (gs a d)) (t',gs (a+S.length) d)
def LF (lvl:Nat):Prop:=∃ t':Tr,t'.bare=b/\∀ r,Ev (fun n=>lQ L n lvl t' (gs (a+S.length) d)) r->Ev (fun n=>iE L n lvl (gs a d)) r
end
section
variable {L:List Tok} {S T:List T3} {a:Nat} {d:Int} {b:Tr} {lvl:Nat}
theorem XI (hT:je L a T) (hs:Stp lvl T) {m:Nat} (hm:lvl<=m) (t:Tr):Ev (fun n=>lQ L n m t (gs a d)) (t,gs a d):=.of 1 fun n hn=>by
 obtain⟨k,rfl⟩:∃ k,n=k+1:=⟨n - 1,by omega⟩;simp only[lQ];rw[if_pos (hs.op hm hT)]
theorem LF.of (h6:lvl<=6) (h:DF L S a d b (lvl+1)):LF L S a d b lvl:=by
 obtain⟨t',hb,hE⟩:=h;refine⟨t',hb,fun r hr=>?_⟩;refine Ev.succ (g:=fun n=>(iE L n (lvl+1) (gs a d)).bind fun r=>lQ L n lvl r.1 r.2) (hE.bind hr) fun n=>?_
 rw[iE,if_neg (by omega)]
theorem DF.of (hT:je L (a+S.length) T) (hs:Stp lvl T) (h:LF L S a d b lvl):DF L S a d b lvl:=by
 obtain⟨t',hb,hE⟩:=h;exact⟨t',hb,hE _ (XI hT hs (Nat.le_refl _) t')⟩
theorem DF.down (hT:je L (a+S.length) T) {m:Nat} (hm:m<=7) (h:Stp m T->DF L S a d b m):∀ j lvl,lvl+j=m->Stp lvl T->DF L S a d b lvl
 | 0,lvl,e,hs=>by
   obtain rfl:lvl=m:=by omega
   exact h hs
 | j+1,lvl,e,hs=>DF.of hT hs (LF.of (by omega) (DF.down hT hm h j (lvl+1) (by omega) (hs.mono (by omega))))
theorem DF.seven (hT:je L (a+S.length) T) (hs:Stp lvl T) (h45:dw L [45] (gs a d)=false) (h33:dw L [33] (gs a d)=false) (h:PF L S a d b):DF L S a d b 7:=by
 obtain⟨t',hb,hE⟩:=h;refine⟨t',hb,?_⟩;have h1:=hE (t',gs (a+S.length) d) (.of 1 fun n hn=>by
  obtain⟨k,rfl⟩:∃ k,n=k+1:=⟨n - 1,by omega⟩;exact hs.post hT t' k)
 have h2:Ev (fun n=>ER L n (gs a d)) (t',gs (a+S.length) d):=Ev.succ h1 fun n=>by rw[ER,h45,if_neg (by decide),h33,if_neg (by decide)]
 exact Ev.succ h2 fun n=>by rw[iE,if_pos (by decide)]
end
section
variable {L:List Tok} {S T:List T3} {a:Nat} {d:Int} {b:Tr} {lvl:Nat}
theorem PF.all (hT:je L (a+S.length) T) (h45:dw L [45] (gs a d)=false) (h33:dw L [33] (gs a d)=false) (h:NoC T->PF L S a d b):
 (∀ lvl,1<=lvl->lvl<=7->Stp lvl T->DF L S a d b lvl)/\(∀ lvl,lvl<=6->Stp (lvl+1) T->LF L S a d b lvl):=by
 have h7:Stp 7 T->DF L S a d b 7:=fun hs=>DF.seven hT hs h45 h33 (h hs.noc)
 have hd:∀ lvl,lvl<=7->Stp lvl T->DF L S a d b lvl:=fun lvl hl hs=>DF.down hT (Nat.le_refl 7) h7 (7 - lvl) lvl (by omega) hs
 exact⟨fun lvl _ hl hs=>hd lvl hl hs,fun lvl hl hs=>LF.of hl (hd (lvl+1) (by omega) hs)⟩
end
def wX (x:List UInt8):Nat:=23+4*x.length
mutual
def wN:Tr->Nat
 | .nd _ _ _ _ x ks=>wX x+wS ks
def wS:List Tr->Nat
 | []=>0
 | t::ts=>wN t+wS ts
end
theorem Zb (t:Tr) (ts:List Tr):wS (t::ts)=wN t+wS ts:=rfl
theorem rV:wS []=0:=rfl
section
variable {L:List Tok}
theorem uZ:wX []=23:=rfl
end
theorem Nk {m k:Nat} (h:m<10 ^ k) (hk:1<=k) (hm:m<=9223372036854775808):(dec m).length<=k:=by
 obtain⟨d1,d2,d3,d4,d5⟩:=TW m hm;by_cases h0:m=0
 . rw[d5 h0];exact hk
 . have:=Y9 (dec m) d3 d1 (d4 h0);rw[d2] at this;by_cases hl:(dec m).length<=k
   . exact hl
   . exfalso;have:10 ^ k<=10 ^ ((dec m).length - 1):=Nat.pow_le_pow_right (by decide) (by omega);omega
theorem Nv (x:List UInt8):(x.flatMap qb).length<=4*x.length:=by
 induction x with
 | nil=>simp
 | cons c x ih=>
   rw[List.flatMap_cons,List.length_append,List.length_cons];have:(qb c).length<=4:=by
    unfold qb;split
    . simp
    . split
      . simp
      . split
        . simp
        . split<;>simp
   omega
theorem rZ (b:Bool) (s:List UInt8):(brk b s).length<=s.length+2:=by unfold brk;split<;>simp
theorem N8 {t:Tr} (w:E5 t):(qU t).length+4<=wN t:=by
 induction w with
 | word k l c hk=>
   obtain⟨k1,k2⟩:=hk;rcases (by omega:k=15\/k=16\/k=17\/k=18) with rfl | rfl | rfl | rfl<;>simp[qU,wN,wS,wX,SA,CW,SB,CX]
 | big l c x hx=>
   show x.length+4<=wX x+wS [];unfold wX;omega
 | list l c t _ ih=>
   have e:qU (.nd 20 l c 0 [] [t])=91::(qU t++[93]):=by simp[qU]
   rw[e];show _<=wX []+(wN t+wS []);rw[uZ,rV];simp;omega
theorem Xd {t:Tr} (w:kX t):(tx t).length+4<=wN t:=by
 refine kX.rec (motive_1:=fun t _=>(tx t).length+4<=wN t) (motive_2:=fun ts _=>(Xf ts).length<=wS ts/\(oN ts).length<=wS ts) ?_ ?_ ?_ ?_ ?_ ?_ ?_ ?_ ?_ ?_ ?_ ?_ ?_ ?_ ?_ w
 . intro l c n h;show (txt n).length+4<=23;have:=Nk (m:=n.natAbs) (k:=19) (by omega) (by decide) (by omega);unfold txt;rw[if_neg (by omega)];omega
 . intro l c n h;have e:tx (.nd 22 l c n [] [])=txt n++[105]:=by rw[tx.eq_def];simp
   rw[e];show _<=23;have:=Nk (m:=n.natAbs) (k:=7) (by omega) (by decide) (by omega);unfold txt;rw[if_neg (by omega)];simp;omega
 . intro l c x _;have e:tx (.nd 23 l c 0 x [])=quo x:=by rw[tx.eq_def];simp
   rw[e];show _<=wX x;have:=Nv x;unfold quo wX;rw[List.length_cons,List.length_append,List.length_singleton];omega
 . intro l c n h;rcases h with rfl | rfl<;>simp[tx,wN,wS,wX,oL,jO]
 . intro l c;simp[tx,wN,wS,wX,wJ]
 . intro l c x h;rw[EH];show _<=wX x;unfold wX;omega
 . intro l c x h ks _ ih;rw[EG];show _<=wX x+wS ks;unfold wX;have:=ih.2;simp;omega
 . intro l c a b _ _ ia ib;rw[zN];show _<=wX []+(wN a+(wN b+wS []));rw[uZ,rV];have:=rZ (decide (a.lv<8)) (tx a);simp;omega
 . intro l c x _ a _ ia;rw[LX];show _<=wX x+(wN a+wS []);rw[rV];unfold wX;have:=rZ (decide (a.lv<8)) (tx a);simp;omega
 . intro l c n _ a _ ia;rw[Xe];show _<=wX []+(wN a+wS []);rw[uZ,rV];have:=rZ (decide (a.lv<7)) (tx a);simp;omega
 . intro l c n _ a b _ _ ia ib;rw[LV];show _<=wX []+(wN a+(wN b+wS []));rw[uZ,rV];have h1:=rZ (decide (a.lv<EP (oJ n).2)) (tx a);have h2:=rZ (decide (b.lv<(oJ n).2+1)) (tx b);have h3:(oJ n).1.length<=2:=by
    rcases Y1 n with h | ⟨c,e,_⟩ | ⟨c,e,_⟩
    . revert h
      generalize (oJ n).1=x;intro h;simp only[List.mem_cons,List.not_mem_nil,or_false] at h;rcases h with rfl | rfl | rfl | rfl | rfl | rfl<;>decide
    . rw[e];simp
    . rw[e];simp
   simp;omega
 . intro l c l' c' x hx;rw[qG];have e1:qU (.nd 19 l' c' 0 x [])=x:=by simp[qU]
   have e2:oN []=[]:=rfl;have e3:fZ.length=4:=rfl;rw[e1,e2];show _<=wX []+(wX x+wS []+wS []);rw[uZ,rV];unfold wX;simp[e3];omega
 . intro l c l' c' t wt b _ ib;rw[qG];have h1:=N8 (.list l' c' t wt);have e2:oN [b]=tx b:=by simp[oN,Xf]
   have e3:fZ.length=4:=rfl;rw[e2];show _<=wX []+(wN (.nd 20 l' c' 0 [] [t])+(wN b+wS []));rw[uZ,rV];simp[e3];omega
 . exact⟨Nat.le_refl _,Nat.le_refl _⟩
 . intro t ts _ _ it its;have e1:Xf (t::ts)=44::32::(tx t++Xf ts):=by simp[Xf]
   have e2:oN (t::ts)=tx t++Xf ts:=by simp[oN]
   rw[e1,e2,Zb];have:=its.1;refine⟨?_,?_⟩
   . simp;omega
   . simp;omega
section
attribute [local go_sem] aY aX aA ak ax aF aT aJ au says_again
def NL:Fm:=(.N (.R (.add (.x 0) (.c 1)))
 (.N (.and (.and (.le (.c 0) (.add (.x 0) (.c 1))) (.le (.add (.x 0) (.c 1)) (.len (.c [48,49,50,51,52,53,54,55,56,57,97,98,99,100,101,102])))) (.and (.le (.c 0) (.x 0)) (.le (.x 0) (.add (.x 0) (.c 1)))))
 (.ret (.p (.one (.s (.sub (.c [48,49,50,51,52,53,54,55,56,57,97,98,99,100,101,102]) (.x 0) (.add (.x 0) (.c 1)))))))))
theorem UK:aU ⟨true,[]⟩ Tryz.prog (fun l=>([]:List bG).getD l ⟨[],[],[]⟩) Tryz.f61=NL:=by kernel_rfl
theorem YE:az Tryz.prog .zero Tryz.f61.params.toList=some ([.J 0],⟨1,0,0,0,0,0⟩):=by kernel_rfl
def Bf:Fm:=(.mk [(.i .u8 (.c 34))] 5 1
 (.loop 0 ⟨[(.c 0)],[],[],[],[(.x 0)],[]⟩
 (.ite (.lt (.x 0) (.len (.x 0)))
 (.N (.and (.le (.c 0) (.x 0)) (.lt (.x 0) (.len (.x 0))))
 (.ite (.or (.eqI (.at (.x 0) (.x 0)) (.c 34)) (.eqI (.at (.x 0) (.x 0)) (.c 92)))
 (.mk [(.i .u8 (.c 92)),(.i .u8 (.at (.x 0) (.x 0)))] 5 2
 (.app (.x 1) (.x 2) 1 1 5
 (.N (.R (.add (.x 0) (.c 1)))
 (.again 0 ⟨0,0,1,0,1,0⟩ ⟨1,0,1,0,2,0⟩ ⟨[(.add (.x 0) (.c 1))],[],[],[],[(.x 3)],[]⟩))))
 (.ite (.eqI (.at (.x 0) (.x 0)) (.c 10))
 (.mk [(.i .u8 (.c 92)),(.i .u8 (.c 110))] 5 2
 (.app (.x 1) (.x 2) 1 1 5
 (.N (.R (.add (.x 0) (.c 1)))
 (.again 0 ⟨0,0,1,0,1,0⟩ ⟨1,0,1,0,2,0⟩ ⟨[(.add (.x 0) (.c 1))],[],[],[],[(.x 3)],[]⟩))))
 (.ite (.eqI (.at (.x 0) (.x 0)) (.c 9))
 (.mk [(.i .u8 (.c 92)),(.i .u8 (.c 116))] 5 2
 (.app (.x 1) (.x 2) 1 1 5
 (.N (.R (.add (.x 0) (.c 1)))
 (.again 0 ⟨0,0,1,0,1,0⟩ ⟨1,0,1,0,2,0⟩ ⟨[(.add (.x 0) (.c 1))],[],[],[],[(.x 3)],[]⟩))))
 (.ite (.or (.lt (.at (.x 0) (.x 0)) (.c 32)) (.lt (.c 126) (.at (.x 0) (.x 0))))
 (.mk [(.i .u8 (.c 92)),(.i .u8 (.c 120))] 5 2
 (.app (.x 1) (.x 2) 1 1 5
 (.N (.not (.eqI (.c 16) (.c 0)))
 (.C 61 [(.one (.i .i64 (.wr .i64 (.quo (.wr .i64 (.at (.x 0) (.x 0))) (.c 16)))))] (.p (.S 1)) ⟨0,0,1,0,0,0⟩
 (.aps (.x 3) (.x 1) 5
 (.N (.not (.eqI (.c 16) (.c 0)))
 (.C 61 [(.one (.i .i64 (.rem (.wr .i64 (.at (.x 0) (.x 0))) (.c 16))))] (.p (.S 2)) ⟨0,0,1,0,0,0⟩
 (.aps (.x 4) (.x 2) 5
 (.N (.R (.add (.x 0) (.c 1)))
 (.again 0 ⟨0,0,1,0,1,0⟩ ⟨1,0,1,0,2,0⟩ ⟨[(.add (.x 0) (.c 1))],[],[],[],[(.x 5)],[]⟩))))))))))
 (.mk [(.i .u8 (.at (.x 0) (.x 0)))] 5 1
 (.app (.x 1) (.x 2) 1 1 5
 (.N (.R (.add (.x 0) (.c 1)))
 (.again 0 ⟨0,0,1,0,1,0⟩ ⟨1,0,1,0,2,0⟩ ⟨[(.add (.x 0) (.c 1))],[],[],[],[(.x 3)],[]⟩)))))))))
 (.mk [(.i .u8 (.c 34))] 5 1
 (.app (.x 1) (.x 2) 1 1 5
 (.str (.x 3)
 (.ret (.p (.S 1)))))))))
theorem JJ:aU ⟨true,[]⟩ Tryz.prog (fun l=>([⟨[3,4],[7,8,9,10,13,14,15,5,21,22,23,24,25,26,20,27,28,29,30,32,33,31,34,35,36,38,39,37,40,41,42,44,45,46,47,48,49,43,50,51,52,53,54,55,56,57,58,59,60,61,62,63,64,16,17,18,19,11,12],[]⟩]:List bG).getD l ⟨[],[],[]⟩) Tryz.f32=Bf:=by kernel_rfl
theorem Rf:az Tryz.prog .zero Tryz.f32.params.toList=some ([.S 0],⟨0,0,1,0,0,0⟩):=by kernel_rfl
def FC:Ct Tryz.prog where
 f:=31
 spec:=fun args h φ=>∃ n,args=[.int .i64 n]/\-9223372036854775808<=n/\n<=9223372036854775807/\φ (.string (B (txt n))) h
 ok:=by
  rintro args h φ w ⟨n,rfl,h0,h1,hφ⟩ hH;exact TV (RV n h0 h1 w) hφ hH
def hxs:List UInt8:=[48,49,50,51,52,53,54,55,56,57,97,98,99,100,101,102]
theorem ZZ:∀ n:Nat,n<=15->sub hxs n (n+1)=[qb.hxd n]:=by decide
def TM:Ct Tryz.prog where
 f:=61
 spec:=fun args h φ=>∃ n:Nat,args=[.int .i64 (n:Int)]/\n<=15/\φ (.string (B [qb.hxd n])) h
 ok:=by
  rintro args h φ w ⟨n,rfl,hn,hφ⟩ hH;refine aZ Tryz.func61 UK YE [] φ (bJ) (aV) ⟨[(n:Int)],[],[],[],[],[],h,cu⟩ ⟨rfl,rfl,rfl,rfl,rfl,rfl⟩ af ?_ w hH rfl;generalize hE:(⟨aG _,_,_,_⟩:Env)=E;have ep:E.post=φ:=by rw[<- hE]
  clear hE;unfold NL;rw[<- ae];rw[ag];refine⟨by simp[go_sem]<;>omega,?_⟩;rw[ag];refine⟨by simp[go_sem]<;>omega,?_⟩;rw[aj,ep];have e:((n:Int)+1).toNat=n+1:=by omega
  have:=ZZ n hn;unfold hxs sub at this;simp only[VE.den,PE.den,CE.den,SE.den,IE.den,List.getD_cons_zero,e,Int.toNat_natCast];rw[show (List.map UInt8.ofNat [48,49,50,51,52,53,54,55,56,57,97,98,99,100,101,102]:List UInt8)=[48,49,50,51,52,53,54,55,56,57,97,98,99,100,101,102] from rfl,this];exact hφ
theorem uA {E:Env} {C:Ctx} {x y:LE} {f:Fm} {h:Hp} {sl:bM} {acc:List UInt8} {hh:Hp} (I:BI h sl acc hh) (hlen:acc.length<=100000000) {b:Nat} (hb:hh b=none) {u:List UInt8} (hu:u≠[]) (hu2:u.length<=10)
 (hx:x.den C=sl) (hy:y.den C=⟨some (b,0),u.length,u.length⟩) (hC:C.h=hh.set b ⟨nG u,5⟩)
 (hk:∀ s' k',BI h s' (acc++u) k'->f.says E ((C.push ⟨[],[],[],[],[s'],[]⟩).heap k')):
 (Fm.app x y 1 1 5 f).says E C:=by
 have h1:=I.n;have hul:0<u.length:=List.length_pos_iff.2 hu;have hlt:∀ z,sl.a=some z->z.1≠b:=fun z hz e=>by
  rcases I.own with ⟨q,_⟩ | ⟨d,o,q1,q2,_⟩
  . rw[q] at hz;cases hz
  . rw[q1] at hz;cases hz;subst e;rw[hb] at q2;cases q2
 rw[bT,hx,hy,hC];refine⟨nG acc,nG u,jA I.own hlt _,.inr ⟨by simp,?_⟩,?_,?_,?_,?_⟩
 . rw[fG,if_pos (by rw[MC];simp)];rw[List.drop_zero,Nat.mul_one,<- MC u,List.take_length]
 . intro v hv;unfold nG at hv;obtain⟨c,_,rfl⟩:=List.mem_map.1 hv;rfl
 . show sl.n+u.length<=maxLen;unfold maxLen;omega
 . show (sl.n+u.length)*1<=_;omega
 . intro s' k' g1 g2 g3 g4;have g2':s'.n=sl.n+u.length:=g2;refine hk s' k' ⟨by rw[wM];exact g1,by rw[g2',h1,List.length_append],?_,fun z hz=>?_,fun d o hd=>?_⟩
   . rcases g1 with ⟨q,_⟩ | ⟨d,o,q1,_⟩
     . rw[q] at g2';have:(0:Nat)=sl.n+u.length:=g2';omega
     . rw[q1];simp
   . rcases g3 z hz with ⟨y',hy',e⟩ | hn
     . rw[<- e];exact I.fresh y' hy'
     . cases hq:h z.1 with
       | none=>rfl
       | some o=>
         have h2:=I.kept _ _ hq;by_cases e:z.1=b
         . rw[e,hb] at h2;cases h2
         . rw[bf _ e,h2] at hn;cases hn
   . refine g4 d o (fun z hz e=>?_) ?_
     . have:=I.fresh z hz;rw[e,hd] at this;cases this
     . rw[bf _ (fun e=>by have:=I.kept _ _ hd;rw[e,hb] at this;cases this)];exact I.kept _ _ hd
theorem Tn {E:Env} {C:Ctx} {x:LE} {y:SE} {f:Fm} {h:Hp} {sl:bM} {acc u:List UInt8} (I:BI h sl acc C.h) (hlen:acc.length<=100000000) (hne:acc≠[]) (hu2:u.length<=10)
 (hx:x.den C=sl) (hy:y.den C=u) (hk:∀ s' k',BI h s' (acc++u) k'->f.says E ((C.push ⟨[],[],[],[],[s'],[]⟩).heap k')):
 (Fm.aps x y 5 f).says E C:=by
 have h1:=I.n;have hal:0<acc.length:=List.length_pos_iff.2 hne;rw[WC,hx,hy];refine⟨nG acc,I.own,by omega,fun s' k' g1 g2 g3 g4=>?_⟩;refine hk s' k' ⟨by rw[wM];exact g1,by rw[g2,h1,List.length_append],?_,fun z hz=>?_,fun d o hd=>?_⟩
 . rcases g1 with ⟨q,_⟩ | ⟨d,o,q1,_⟩
   . rw[q] at g2;have:(0:Nat)=sl.n+u.length:=g2;omega
   . rw[q1];simp
 . rcases g3 z hz with ⟨y',hy',e⟩ | hn
   . rw[<- e];exact I.fresh y' hy'
   . cases hq:h z.1 with
     | none=>rfl
     | some o=>rw[I.kept _ _ hq] at hn;cases hn
 . refine g4 d o (fun z hz e=>?_) (I.kept _ _ hd);have:=I.fresh z hz;rw[e,hd] at this;cases this
def Af (s:List UInt8) (j:Nat):List UInt8:=34::(s.take j).flatMap qb
theorem RH {s:List UInt8} {j:Nat} (hj:j<s.length):Af s (j+1)=Af s j++qb s[j]:=by
 unfold Af;rw[List.take_succ_eq_append_getElem hj,List.flatMap_append];simp
theorem Wl (s:List UInt8) (j:Nat):(Af s j).length<=4*s.length+1:=by
 unfold Af;rw[List.length_cons];have h1:=Nv (s.take j);rw[List.length_take] at h1;omega
def LH (h:Hp) (s:List UInt8) (_:Nat) (C:Ctx):Prop:=∃ (j:Nat) (lit out:bM) (k:Hp),C=⟨[(j:Int)],[],[s],[],[lit,out],[],k,cu⟩/\j<=s.length/\BI h out (Af s j) k
set_option maxHeartbeats 8000000 in
def FM:Ct Tryz.prog where
 f:=32
 spec:=fun args h φ=>∃ s,args=[.string (B s)]/\s.length<=1000000/\φ (.string (B (quo s))) h
 ok:=by
  rintro args h φ w ⟨s,rfl,hl,hφ⟩ hH;refine bQ (aZ Tryz.func32 JJ Rf [TM] (fun v k=>∃ k',bY k' k/\φ v k') (LH h s) (fun _ C=>((s.length:Int) - C.i.getD 0 0).toNat) ⟨[],[],[s],[],[],[],h,cu⟩ ⟨rfl,rfl,rfl,rfl,rfl,rfl⟩ af ?_ w hH rfl);generalize hE:(⟨aG _,_,_,_⟩:Env)=E;have sbz:E.spec 61=(TM).spec:=by rw[<- hE];rfl
  have ep:E.post=(fun v k=>∃ k',bY k' k/\φ v k'):=by rw[<- hE]
  have ei:E.inv=(LH h s):=by rw[<- hE]
  have em:E.meas=(fun _ C=>((s.length:Int) - C.i.getD 0 0).toNat):=by rw[<- hE]
  clear hE;unfold Bf;rw[<- ae];rw[ae,aW];intro b0 hb0;have hb0':h b0=none:=hb0;rw[ae];refine bH ?_ ?_
  . rw[ei];exact⟨0,⟨some (b0,0),1,1⟩,⟨some (b0,0),1,1⟩,h.set b0 ⟨[.int .u8 34],5⟩,rfl,Nat.zero_le _,.inr ⟨b0,_,rfl,ay _ _ _,rfl,rfl,Nat.le_refl _,(by show 1<=maxLen;unfold maxLen;omega),rfl⟩,rfl,by simp,fun z hz=>by cases hz;exact hb0',hset hb0' _⟩
  rw[ei,em];rintro i bbs ss v ll pp hh M ⟨j,lit,out,k,hC,hj,I⟩ hM;cases hC;have hM':M 0=((s.length:Int) - j).toNat:=hM;clear hM;have hql:=Wl s j;by_cases hjl:j<s.length;rotate_left
  . have hz:¬ ((j:Int)<s.length):=by omega
    rw[ak,if_neg (by simpa[go_sem] using hz)];rw[ae,aW];intro b hb;have hb':hh b=none:=hb;rw[ae];refine uA I (by omega) hb' (u:=[34]) (by simp) (by simp) rfl rfl rfl fun s' k' I'=>?_
    rw[eQ];refine⟨Af s j++[34],.inr ?_,?_⟩
    . rcases I'.own with ⟨q,_⟩ | ⟨d,o,q1,q2,q3,q4,q5,q6,q7⟩
      . exact absurd (by rw[q]) I'.nn
      . show hread k' s'.a s'.n=_;have hle:s'.n<=o.cs.length:=by rw[q4];omega
        unfold hread;simp only[q1,q2];rw[if_pos (by omega),List.drop_zero];rw[Nat.mul_one] at q7;rw[<- q7];rfl
    rw[aj,ep];refine⟨h,I'.kept,?_⟩;have:Af s j++[34]=quo s:=by
     unfold Af quo;rw[show j=s.length by omega,List.take_length];rfl
    simpa[go_sem,this] using hφ
  have hz:(j:Int)<s.length:=by omega
  have hbt:=mF s j hjl;have h8:s[j].toNat<256:=UInt8.toNat_lt _;have hag:∀ (s':bM) (k':Hp) (l2:List bM),BI h s' (Af s j++qb s[j]) k'->LH h s 0 ⟨[(j:Int)+1],[],[s],[],[lit,s'],[],k',cu⟩:=fun s' k' _ I'=>⟨j+1,lit,s',k',rfl,hjl,by rw[RH hjl];exact I'⟩
  have hms:(((s.length:Int) - ((j:Int)+1)).toNat)<M 0:=by omega
  rw[ak,if_pos (by simpa[go_sem] using hz)];rw[ag];refine⟨by simp[go_sem]<;>omega,?_⟩;generalize hc:s[j]=c at *;have hcell:Value.int .u8 (bt s j)=.int .u8 (c.toNat:Int):=by rw[hbt]
  by_cases c1:c.toNat=34\/c.toNat=92
  . have e:qb c=[92,c]:=by
     unfold qb;rw[if_pos (by rcases c1 with h | h;exact .inl (UInt8.toNat_inj.1 h);exact .inr (UInt8.toNat_inj.1 h))]
    rw[ah,if_pos (by simp[go_sem];omega)];rw[ae,aW];intro b hb;have hb':hh b=none:=hb;rw[ae];refine uA I (by omega) hb' (u:=[92,c]) (by simp) (by simp) rfl rfl (by show Hp.set hh b ⟨[.int .u8 92,.int .u8 (bt s j)],_⟩=_;rw[hcell];rfl) fun s' k' I'=>?_
    rw[<- ae];rw[ag];refine⟨by simp[go_sem]<;>omega,?_⟩;rw[ae,says_again,ei,em];exact⟨hag s' k' [] (by rw[e];exact I'),hms⟩
  have n1:¬ c=34/\¬ c=92:=⟨fun e=>c1 (.inl (by rw[e];rfl)),fun e=>c1 (.inr (by rw[e];rfl))⟩;have n1':¬ (c=34\/c=92):=fun h=>h.elim n1.1 n1.2
  rw[ah,if_neg (by simp[go_sem];omega)];by_cases c2:c.toNat=10
  . have ec:c=10:=UInt8.toNat_inj.1 c2;have e:qb c=[92,110]:=by subst ec;rfl
    rw[ah,if_pos (by simp[go_sem];omega)];rw[ae,aW];intro b hb;have hb':hh b=none:=hb;rw[ae];refine uA I (by omega) hb' (u:=[92,110]) (by simp) (by simp) rfl rfl rfl fun s' k' I'=>?_
    rw[<- ae];rw[ag];refine⟨by simp[go_sem]<;>omega,?_⟩;rw[ae,says_again,ei,em];exact⟨hag s' k' [] (by rw[e];exact I'),hms⟩
  rw[ah,if_neg (by simp[go_sem];omega)];by_cases c3:c.toNat=9
  . have ec:c=9:=UInt8.toNat_inj.1 c3;have e:qb c=[92,116]:=by subst ec;rfl
    rw[ah,if_pos (by simp[go_sem];omega)];rw[ae,aW];intro b hb;have hb':hh b=none:=hb;rw[ae];refine uA I (by omega) hb' (u:=[92,116]) (by simp) (by simp) rfl rfl rfl fun s' k' I'=>?_
    rw[<- ae];rw[ag];refine⟨by simp[go_sem]<;>omega,?_⟩;rw[ae,says_again,ei,em];exact⟨hag s' k' [] (by rw[e];exact I'),hms⟩
  rw[ah,if_neg (by simp[go_sem];omega)];have n2:¬ c=10:=fun e=>c2 (by rw[e];rfl)
  have n3:¬ c=9:=fun e=>c3 (by rw[e];rfl)
  by_cases c4:c.toNat<32\/126<c.toNat
  . have e:qb c=[92,120]++[qb.hxd (c.toNat / 16)]++[qb.hxd (c.toNat % 16)]:=by
     unfold qb;rw[if_neg n1',if_neg n2,if_neg n3,if_pos c4];rfl
    have w1:IntKind.i64.wrap (c.toNat:Int)=c.toNat:=by rw[IntKind.wrap_i64];omega
    have w2:IntKind.i64.wrap ((c.toNat:Int).tdiv 16)=((c.toNat / 16:Nat):Int):=by
     rw[Int.tdiv_eq_ediv_of_nonneg (by omega),IntKind.wrap_i64];omega
    have w3:(c.toNat:Int).tmod 16=((c.toNat % 16:Nat):Int):=by
     rw[Int.tmod_eq_emod_of_nonneg (by omega)];omega
    have w4:IntKind.i64.wrap ((c.toNat:Int) / 16)=(c.toNat:Int) / 16:=by rw[IntKind.wrap_i64];omega
    rw[ah,if_pos (by simp[go_sem];omega)];rw[ae,aW];intro b hb;have hb':hh b=none:=hb;rw[ae];refine uA I (by omega) hb' (u:=[92,120]) (by simp) (by simp) rfl rfl rfl fun s' k' I'=>?_
    rw[<- ae];rw[ag];refine⟨by simp[go_sem]<;>omega,?_⟩;rw[ai,sbz];refine⟨c.toNat / 16,by simp[go_sem,hbt,w1,w4],by omega,?_⟩;refine rR ⟨[],[],[[qb.hxd (c.toNat / 16)]],[],[],[]⟩ rfl af rfl ?_;rw[ae];refine Tn (u:=[qb.hxd (c.toNat / 16)]) I' (by rw[List.length_append];simp;omega) (by simp) (by simp) rfl rfl fun s2 k2 I2=>?_
    rw[<- ae];rw[ag];refine⟨by simp[go_sem]<;>omega,?_⟩;rw[ai,sbz];refine⟨c.toNat % 16,by simp[go_sem,hbt,w1,w3],by omega,?_⟩;refine rR ⟨[],[],[[qb.hxd (c.toNat % 16)]],[],[],[]⟩ rfl af rfl ?_;rw[ae];refine Tn (u:=[qb.hxd (c.toNat % 16)]) I2 (by rw[List.length_append,List.length_append];simp;omega) (by simp) (by simp) rfl rfl fun s3 k3 I3=>?_
    rw[<- ae];rw[ag];refine⟨by simp[go_sem]<;>omega,?_⟩;rw[ae,says_again,ei,em];exact⟨hag s3 k3 [] (by rw[e];simpa using I3),hms⟩
  . have e:qb c=[c]:=by
     unfold qb;rw[if_neg n1',if_neg n2,if_neg n3,if_neg c4]
    rw[ah,if_neg (by simp[go_sem];omega)];rw[ae,aW];intro b hb;have hb':hh b=none:=hb;rw[ae];refine uA I (by omega) hb' (u:=[c]) (by simp) (by simp) rfl rfl (by show Hp.set hh b ⟨[.int .u8 (bt s j)],_⟩=_;rw[hcell];rfl) fun s' k' I'=>?_
    rw[<- ae];rw[ag];refine⟨by simp[go_sem]<;>omega,?_⟩;rw[ae,says_again,ei,em];exact⟨hag s' k' [] (by rw[e];exact I'),hms⟩
def Bi:Fm:=(.N (.X (.x 0) (.x 0))
 (.O (.el (.x 0) (.x 0) 6 0) 6 [.U 1,.J 2,.J 3,.J 4,.J 5,(.s (.x 0))] ⟨5,0,1,0,0,0⟩
 (.C 30 [.L 0,.J 0] (.p (.L 1)) ⟨0,0,0,0,1,0⟩
 (.ite (.eqI (.x 1) (.c 21))
 (.C 31 [.J 5] (.p (.S 1)) ⟨0,0,1,0,0,0⟩
 (.ret (.p (.S 1))))
 (.ite (.eqI (.x 1) (.c 22))
 (.C 31 [.J 5] (.p (.S 1)) ⟨0,0,1,0,0,0⟩
 (.N (.le (.add (.len (.x 1)) (.len (.c [105]))) (.c 9223372036854775807))
 (.ret (.p (.one (.s (.app (.x 1) (.c [105]))))))))
 (.ite (.eqI (.x 1) (.c 23))
 (.C 32 [.S 0] (.p (.S 1)) ⟨0,0,1,0,0,0⟩
 (.ret (.p (.S 1))))
 (.ite (.eqI (.x 1) (.c 24))
 (.ite (.eqI (.x 5) (.c 1))
 (.ret (.p (.W [116,114,117,101])))
 (.ret (.p (.W [102,97,108,115,101]))))
 (.ite (.eqI (.x 1) (.c 25))
 (.ret (.p (.W [110,105,108])))
 (.ite (.eqI (.x 1) (.c 26))
 (.ret (.p (.S 0)))
 (.ite (.eqI (.x 1) (.c 27))
 (.N (.le (.add (.len (.x 0)) (.len (.c [40]))) (.c 9223372036854775807))
 (.C 33 [.L 0,.L 1] (.p (.S 1)) ⟨0,0,1,0,0,0⟩
 (.N (.le (.add (.len (.app (.x 0) (.c [40]))) (.len (.x 1))) (.c 9223372036854775807))
 (.N (.le (.add (.len (.app (.app (.x 0) (.c [40])) (.x 1))) (.len (.c [41]))) (.c 9223372036854775807))
 (.ret (.p (.one (.s (.app (.app (.app (.x 0) (.c [40])) (.x 1)) (.c [41]))))))))))
 (.ite (.eqI (.x 1) (.c 28))
 (.O (.el (.x 1) (.c 0) 1 0) 1 [.J 6] ⟨1,0,0,0,0,0⟩
 (.O (.el (.x 1) (.c 1) 1 0) 1 [.J 7] ⟨1,0,0,0,0,0⟩
 (.N (.X (.c 0) (.x 1))
 (.N (.X (.c 1) (.x 1))
 (.callK (.c true) [((.c true),(.el (.x 1) (.c 0) 1 0),1),((.c true),(.el (.x 1) (.c 1) 1 0),1)] 34 [.L 0,.J 6,(.I (.c 8))] (.p (.S 1)) ⟨0,0,1,0,0,0⟩
 (.N (.le (.add (.len (.x 1)) (.len (.c [91]))) (.c 9223372036854775807))
 (.callK (.c true) [((.c true),(.el (.x 1) (.c 0) 1 0),1),((.c true),(.el (.x 1) (.c 1) 1 0),1)] 16 [.L 0,.J 7] (.p (.S 2)) ⟨0,0,1,0,0,0⟩
 (.N (.le (.add (.len (.app (.x 1) (.c [91]))) (.len (.x 2))) (.c 9223372036854775807))
 (.N (.le (.add (.len (.app (.app (.x 1) (.c [91])) (.x 2))) (.len (.c [93]))) (.c 9223372036854775807))
 (.ret (.p (.one (.s (.app (.app (.app (.x 1) (.c [91])) (.x 2)) (.c [93])))))))))))))))
 (.ite (.eqI (.x 1) (.c 29))
 (.O (.el (.x 1) (.c 0) 1 0) 1 [.J 6] ⟨1,0,0,0,0,0⟩
 (.N (.X (.c 0) (.x 1))
 (.callK (.c true) [((.c true),(.el (.x 1) (.c 0) 1 0),1)] 34 [.L 0,.J 6,(.I (.c 8))] (.p (.S 1)) ⟨0,0,1,0,0,0⟩
 (.N (.le (.add (.len (.x 1)) (.len (.c [46]))) (.c 9223372036854775807))
 (.N (.le (.add (.len (.app (.x 1) (.c [46]))) (.len (.x 0))) (.c 9223372036854775807))
 (.ret (.p (.one (.s (.app (.app (.x 1) (.c [46])) (.x 0)))))))))))
 (.ite (.eqI (.x 1) (.c 30))
 (.C 35 [.J 5] (.tup [.S 1,.J 6]) ⟨1,0,1,0,0,0⟩
 (.N (.X (.c 0) (.x 1))
 (.O (.el (.x 1) (.c 0) 1 0) 1 [.J 7] ⟨1,0,0,0,0,0⟩
 (.C 34 [.L 0,.J 7,(.I (.c 7))] (.p (.S 2)) ⟨0,0,1,0,0,0⟩
 (.N (.le (.add (.len (.x 1)) (.len (.x 2))) (.c 9223372036854775807))
 (.ret (.p (.one (.s (.app (.x 1) (.x 2)))))))))))
 (.ite (.eqI (.x 1) (.c 32))
 (.O (.el (.x 1) (.c 0) 1 0) 1 [.J 6] ⟨1,0,0,0,0,0⟩
 (.N (.X (.c 0) (.x 1))
 (.N (.and (.le (.cnt (.x 1)) (.cap (.x 1))) (.and (.le (.c 0) (.c 1)) (.le (.c 1) (.cnt (.x 1)))))
 (.callK (.c true) [((.c true),(.el (.x 1) (.c 0) 1 0),1)] 14 [.L 0,.J 6] (.p (.S 1)) ⟨0,0,1,0,0,0⟩
 (.N (.le (.add (.len (.c [109,97,107,101,32])) (.len (.x 1))) (.c 9223372036854775807))
 (.N (.le (.add (.len (.app (.c [109,97,107,101,32]) (.x 1))) (.len (.c [40]))) (.c 9223372036854775807))
 (.callK (.c true) [((.c true),(.el (.x 1) (.c 0) 1 0),1)] 33 [.L 0,(.one (.sl (.sub (.x 1) (.c 1) (.cnt (.x 1)) 1)))] (.p (.S 2)) ⟨0,0,1,0,0,0⟩
 (.N (.le (.add (.len (.app (.app (.c [109,97,107,101,32]) (.x 1)) (.c [40]))) (.len (.x 2))) (.c 9223372036854775807))
 (.N (.le (.add (.len (.app (.app (.app (.c [109,97,107,101,32]) (.x 1)) (.c [40])) (.x 2))) (.len (.c [41]))) (.c 9223372036854775807))
 (.ret (.p (.one (.s (.app (.app (.app (.app (.c [109,97,107,101,32]) (.x 1)) (.c [40])) (.x 2)) (.c [41])))))))))))))))
 (.C 35 [.J 5] (.tup [.S 1,.J 6]) ⟨1,0,1,0,0,0⟩
 (.ite (.or (.eqI (.x 6) (.c 3)) (.eqI (.x 6) (.c 4)))
 (.N (.R (.add (.x 6) (.c 1)))
 (.O (.el (.x 1) (.c 0) 1 0) 1 [.J 7] ⟨1,0,0,0,0,0⟩
 (.O (.el (.x 1) (.c 1) 1 0) 1 [.J 8] ⟨1,0,0,0,0,0⟩
 (.N (.X (.c 0) (.x 1))
 (.N (.X (.c 1) (.x 1))
 (.N (.R (.add (.x 6) (.c 1)))
 (.callK (.c true) [((.c true),(.el (.x 1) (.c 0) 1 0),1),((.c true),(.el (.x 1) (.c 1) 1 0),1)] 34 [.L 0,.J 7,(.I (.add (.x 6) (.c 1)))] (.p (.S 2)) ⟨0,0,1,0,0,0⟩
 (.N (.le (.add (.len (.x 2)) (.len (.c [32]))) (.c 9223372036854775807))
 (.N (.le (.add (.len (.app (.x 2) (.c [32]))) (.len (.x 1))) (.c 9223372036854775807))
 (.N (.le (.add (.len (.app (.app (.x 2) (.c [32])) (.x 1))) (.len (.c [32]))) (.c 9223372036854775807))
 (.callK (.c true) [((.c true),(.el (.x 1) (.c 0) 1 0),1),((.c true),(.el (.x 1) (.c 1) 1 0),1)] 34 [.L 0,.J 8,(.I (.add (.x 6) (.c 1)))] (.p (.S 3)) ⟨0,0,1,0,0,0⟩
 (.N (.le (.add (.len (.app (.app (.app (.x 2) (.c [32])) (.x 1)) (.c [32]))) (.len (.x 3))) (.c 9223372036854775807))
 (.ret (.p (.one (.s (.app (.app (.app (.app (.x 2) (.c [32])) (.x 1)) (.c [32])) (.x 3))))))))))))))))))
 (.O (.el (.x 1) (.c 0) 1 0) 1 [.J 7] ⟨1,0,0,0,0,0⟩
 (.O (.el (.x 1) (.c 1) 1 0) 1 [.J 8] ⟨1,0,0,0,0,0⟩
 (.N (.X (.c 0) (.x 1))
 (.N (.X (.c 1) (.x 1))
 (.N (.R (.add (.x 6) (.c 1)))
 (.callK (.c true) [((.c true),(.el (.x 1) (.c 0) 1 0),1),((.c true),(.el (.x 1) (.c 1) 1 0),1)] 34 [.L 0,.J 7,.J 6] (.p (.S 2)) ⟨0,0,1,0,0,0⟩
 (.N (.le (.add (.len (.x 2)) (.len (.c [32]))) (.c 9223372036854775807))
 (.N (.le (.add (.len (.app (.x 2) (.c [32]))) (.len (.x 1))) (.c 9223372036854775807))
 (.N (.le (.add (.len (.app (.app (.x 2) (.c [32])) (.x 1))) (.len (.c [32]))) (.c 9223372036854775807))
 (.callK (.c true) [((.c true),(.el (.x 1) (.c 0) 1 0),1),((.c true),(.el (.x 1) (.c 1) 1 0),1)] 34 [.L 0,.J 8,(.I (.add (.x 6) (.c 1)))] (.p (.S 3)) ⟨0,0,1,0,0,0⟩
 (.N (.le (.add (.len (.app (.app (.app (.x 2) (.c [32])) (.x 1)) (.c [32]))) (.len (.x 3))) (.c 9223372036854775807))
 (.ret (.p (.one (.s (.app (.app (.app (.app (.x 2) (.c [32])) (.x 1)) (.c [32])) (.x 3)))))))))))))))))))))))))))))))))
theorem JM:aU ⟨true,[]⟩ Tryz.prog (fun l=>([]:List bG).getD l ⟨[],[],[]⟩) Tryz.f16=Bi:=by kernel_rfl
theorem Rj:az Tryz.prog .zero Tryz.f16.params.toList=some ([.L 0,.J 0],⟨1,0,0,0,1,0⟩):=by kernel_rfl
theorem YW {m:Nat} (h:((1<=(m:Int)/\(m:Int)<=11)\/(m:Int)=14\/(m:Int)=15)):OU m=((oJ m).1,(((oJ m).2:Nat):Int)):=by
 unfold OU;rw[if_neg (by omega),if_neg (by omega)]
set_option maxHeartbeats 16000000 in
set_option maxRecDepth 10000 in
theorem zA:∀ n,wK n
 | 0=>by
   rintro args h φ w ⟨sl,l,p,t,rfl,R,hl,P,W,hn,_⟩ hH;rw[nD] at hn;omega
 | n+1=>by
   have ih:=zA n;rintro args h φ w ⟨sl,l,p,t,rfl,R,hl,P,W,hn,F,hφ⟩ hH;refine bQ (aZ Tryz.func16 JM Rj [wQ,FC,FM,wR,TP (OT ih),MS (IP ih),lG ih,qg (pV 1000000)] (fun v k=>∃ k',bY k' k/\φ v k') (bJ) (aV) ⟨[((p:Nat):Int)],[],[],[],[sl],[],h,cu⟩ ⟨rfl,rfl,rfl,rfl,rfl,rfl⟩ af ?_ w hH rfl);generalize hE:(⟨aG _,_,_,_⟩:Env)=E;have sbq:E.spec 30=(wQ).spec:=by rw[<- hE];rfl
   have sc0:E.spec 31=(FC).spec:=by rw[<- hE];rfl
   have sc1:E.spec 32=(FM).spec:=by rw[<- hE];rfl
   have sbw:E.spec 35=(wR).spec:=by rw[<- hE];rfl
   have sb2:E.spec 33=(TP (OT ih)).spec:=by rw[<- hE];rfl
   have say:E.spec 34=(MS (IP ih)).spec:=by rw[<- hE];rfl
   have sbx:E.spec 16=(lG ih).spec:=by rw[<- hE];rfl
   have sa0:E.spec 14=(qg (pV 1000000)).spec:=by rw[<- hE];rfl
   have ep:E.post=(fun v k=>∃ k',bY k' k/\φ v k'):=by rw[<- hE]
   clear hE;unfold Bi;have hsn:=NG.n R;obtain⟨hpl,hpt⟩:=P.node;have hroot:=P.root;obtain⟨b0,o0,ha⟩:=Rows.nn R (j:=p) (by omega);have rz:=NG.node R hpl ha;rw[hpt] at rz;have hlt:=P.lt;obtain⟨k,ln,c,nn,x,ks⟩:=t;rw[QQ] at hlt hn;have hks:=yZ ks;rw[<- ae];rw[ag];refine⟨by simp[go_sem,ha]<;>omega,?_⟩;refine rL ⟨[k,ln,c,((Tr.ns ks:Nat):Int),nn],[],[x],[],[],[]⟩ rfl af (by simpa[go_sem,ha,Ng.cs,Tr.g] using rz) ?_;rw[ai,sbq];refine⟨sl,l,p,_,ks,rfl,R,hl,hroot,fun s k1 hle RK hsn2=>?_⟩;refine rR ⟨[],[],[],[],[s],[]⟩ rfl af rfl ?_;have hle':bY h k1:=hle;have R1:=NG.le R hle';have PK:=P.kids;have hn':Tr.ns ks<=n:=by omega
   clear hle rz;cases W with
   | int _ _ _ h0=>
     rw[ah,if_pos (by simp[go_sem])];rw[ai,sc0];refine⟨nn,rfl,by omega,by omega,?_⟩;refine rR ⟨[],[],[txt nn],[],[],[]⟩ rfl af rfl ?_;have e:tx (.nd 21 ln c nn [] [])=txt nn:=by rw[tx.eq_def];simp
     rw[e] at hφ;rw[aj,ep];exact⟨h,hle',hφ⟩
   | comp _ _ _ h0=>
     iterate 1 (rw[ah,if_neg (by simp[go_sem])])
     rw[ah,if_pos (by simp[go_sem])];rw[ai,sc0];refine⟨nn,rfl,by omega,by omega,?_⟩;refine rR ⟨[],[],[txt nn],[],[],[]⟩ rfl af rfl ?_;have e:tx (.nd 22 ln c nn [] [])=txt nn++[105]:=by rw[tx.eq_def];simp
     rw[e] at F hφ;simp only[List.length_append,List.length_cons,List.length_nil] at F;rw[ag];refine⟨by simp[go_sem]<;>omega,?_⟩;rw[aj,ep];exact⟨h,hle',hφ⟩
   | str _ _ _ hx=>
     iterate 2 (rw[ah,if_neg (by simp[go_sem])])
     rw[ah,if_pos (by simp[go_sem])];have e:tx (.nd 23 ln c 0 x [])=quo x:=by rw[tx.eq_def];simp
     rw[e] at hφ;rw[ai,sc1];refine⟨x,rfl,hx,?_⟩;refine rR ⟨[],[],[quo x],[],[],[]⟩ rfl af rfl ?_;rw[aj,ep];exact⟨h,hle',hφ⟩
   | bool _ _ _ h0=>
     iterate 3 (rw[ah,if_neg (by simp[go_sem])])
     rw[ah,if_pos (by simp[go_sem])];rcases h0 with rfl | rfl
     . have e:tx (.nd 24 ln c 0 [] [])=jO:=by rw[tx.eq_def];simp
       rw[e] at hφ;rw[ah,if_neg (by simp[go_sem])];rw[aj,ep];exact⟨h,hle',hφ⟩
     . have e:tx (.nd 24 ln c 1 [] [])=oL:=by rw[tx.eq_def];simp
       rw[e] at hφ;rw[ah,if_pos (by simp[go_sem])];rw[aj,ep];exact⟨h,hle',hφ⟩
   | nil=>
     iterate 4 (rw[ah,if_neg (by simp[go_sem])])
     rw[ah,if_pos (by simp[go_sem])];have e:tx (.nd 25 ln c 0 [] [])=wJ:=by rw[tx.eq_def];simp
     rw[e] at hφ;rw[aj,ep];exact⟨h,hle',hφ⟩
   | name _ _ _ h0=>
     iterate 5 (rw[ah,if_neg (by simp[go_sem])])
     rw[ah,if_pos (by simp[go_sem])];rw[EH] at hφ;rw[aj,ep];exact⟨h,hle',hφ⟩
   | call _ _ _ h0 _ hk=>
     iterate 6 (rw[ah,if_neg (by simp[go_sem])])
     rw[ah,if_pos (by simp[go_sem])];have e:tx (.nd 27 ln c 0 x ks)=x++[40]++oN ks++[41]:=by rw[EG];simp
     rw[e] at F hφ;simp only[List.length_append,List.length_cons,List.length_nil] at F;rw[ag];refine⟨by simp[go_sem]<;>omega,?_⟩;rw[ai,sb2];refine⟨sl,s,l,p+1,ks,rfl,R1,hl,PK,hk,hn',RK,by omega,?_⟩;refine rR ⟨[],[],[oN ks],[],[],[]⟩ rfl af rfl ?_;rw[ag];refine⟨by simp[go_sem]<;>omega,?_⟩;rw[ag];refine⟨by simp[go_sem]<;>omega,?_⟩;rw[aj,ep];exact⟨h,hle',hφ⟩
   | index _ _ a a2 w1 w2=>
     iterate 7 (rw[ah,if_neg (by simp[go_sem])])
     rw[ah,if_pos (by simp[go_sem])];have e:tx (.nd 28 ln c 0 [] [a,a2])=brk (decide (a.lv<8)) (tx a)++[91]++tx a2++[93]:=by rw[zN];simp
     rw[e] at F hφ;simp only[List.length_append,List.length_cons,List.length_nil] at F;obtain⟨P1,PK2⟩:=PK.cons;have P2:=PK2.cons.1;have hR:iy k1 s [((p+1:Nat):Int),((p+1+a.n:Nat):Int)]:=by simpa[places] using RK
     rw[aI,aI,bF] at hn';have hs2:s.n=2:=hR.n;obtain⟨q0,y0,hq0,hr0⟩:=hR.read (j:=0) (by simp);obtain⟨q1,y1,hq1,hr1⟩:=hR.read (j:=1) (by simp);refine rL ⟨[((p+1:Nat):Int)],[],[],[],[],[]⟩ rfl af (by simpa[go_sem,hq0] using hr0) ?_;refine rL ⟨[((p+1+a.n:Nat):Int)],[],[],[],[],[]⟩ rfl af (by simpa[go_sem,hq1] using hr1) ?_;rw[ag];refine⟨by simp[go_sem,hq0]<;>omega,?_⟩;rw[ag];refine⟨by simp[go_sem,hq0]<;>omega,?_⟩;rw[ae,aF,if_pos (by rfl),say];refine⟨sl,l,p+1,a,8,rfl,R1,hl,P1,w1,by omega,by omega,?_⟩;refine⟨fun _ _ _=>rfl,(bn _ _).2 ⟨⟨[],[],[brk (decide (a.lv<8)) (tx a)],[],[],[]⟩,rfl,af,rfl,?_⟩⟩;rw[ag];refine⟨by simp[go_sem]<;>omega,?_⟩;rw[ae,aF,if_pos (by rfl),sbx];refine⟨sl,l,p+1+a.n,a2,rfl,R1,hl,P2,w2,by omega,by omega,?_⟩;refine⟨fun _ _ _=>rfl,(bn _ _).2 ⟨⟨[],[],[tx a2],[],[],[]⟩,rfl,af,rfl,?_⟩⟩;rw[ag];refine⟨by simp[go_sem]<;>omega,?_⟩;rw[ag];refine⟨by simp[go_sem]<;>omega,?_⟩;rw[aj,ep];exact⟨h,hle',hφ⟩
   | dot _ _ _ h0 a w1=>
     iterate 8 (rw[ah,if_neg (by simp[go_sem])])
     rw[ah,if_pos (by simp[go_sem])];have e:tx (.nd 29 ln c 0 x [a])=brk (decide (a.lv<8)) (tx a)++[46]++x:=by rw[LX];simp
     rw[e] at F hφ;simp only[List.length_append,List.length_cons,List.length_nil] at F;obtain⟨P1,_⟩:=PK.cons;have hR:iy k1 s [((p+1:Nat):Int)]:=by simpa[places] using RK
     rw[aI,bF] at hn';have hs2:s.n=1:=hR.n;obtain⟨q0,y0,hq0,hr0⟩:=hR.read (j:=0) (by simp);refine rL ⟨[((p+1:Nat):Int)],[],[],[],[],[]⟩ rfl af (by simpa[go_sem,hq0] using hr0) ?_;rw[ag];refine⟨by simp[go_sem,hq0]<;>omega,?_⟩;rw[ae,aF,if_pos (by rfl),say];refine⟨sl,l,p+1,a,8,rfl,R1,hl,P1,w1,by omega,by omega,?_⟩;refine⟨fun _ _ _=>rfl,(bn _ _).2 ⟨⟨[],[],[brk (decide (a.lv<8)) (tx a)],[],[],[]⟩,rfl,af,rfl,?_⟩⟩;rw[ag];refine⟨by simp[go_sem]<;>omega,?_⟩;rw[ag];refine⟨by simp[go_sem]<;>omega,?_⟩;rw[aj,ep];exact⟨h,hle',hφ⟩
   | un _ _ _ h0 a w1=>
     iterate 9 (rw[ah,if_neg (by simp[go_sem])])
     rw[ah,if_pos (by simp[go_sem])];have e:tx (.nd 30 ln c nn [] [a])=[if nn=12 then 45 else 33]++brk (decide (a.lv<7)) (tx a):=by rw[Xe];simp
     rw[e] at F hφ;simp only[List.length_append,List.length_cons,List.length_nil] at F;obtain⟨P1,_⟩:=PK.cons;have hR:iy k1 s [((p+1:Nat):Int)]:=by simpa[places] using RK
     rw[aI,bF] at hn';have hs2:s.n=1:=hR.n;obtain⟨q0,y0,hq0,hr0⟩:=hR.read (j:=0) (by simp);rw[ai,sbw];rcases h0 with rfl | rfl
     . refine⟨12,rfl,by omega,by omega,?_⟩;refine rR ⟨[7],[],[[45]],[],[],[]⟩ rfl af rfl ?_;rw[ag];refine⟨by simp[go_sem,hq0]<;>omega,?_⟩;refine rL ⟨[((p+1:Nat):Int)],[],[],[],[],[]⟩ rfl af (by simpa[go_sem,hq0] using hr0) ?_;rw[ai,say];refine⟨sl,l,p+1,a,7,rfl,R1,hl,P1,w1,by omega,by omega,?_⟩;refine rR ⟨[],[],[brk (decide (a.lv<7)) (tx a)],[],[],[]⟩ rfl af rfl ?_;rw[ag];refine⟨by simp[go_sem]<;>omega,?_⟩;rw[aj,ep];exact⟨h,hle',hφ⟩
     . refine⟨13,rfl,by omega,by omega,?_⟩;refine rR ⟨[7],[],[[33]],[],[],[]⟩ rfl af rfl ?_;rw[ag];refine⟨by simp[go_sem,hq0]<;>omega,?_⟩;refine rL ⟨[((p+1:Nat):Int)],[],[],[],[],[]⟩ rfl af (by simpa[go_sem,hq0] using hr0) ?_;rw[ai,say];refine⟨sl,l,p+1,a,7,rfl,R1,hl,P1,w1,by omega,by omega,?_⟩;refine rR ⟨[],[],[brk (decide (a.lv<7)) (tx a)],[],[],[]⟩ rfl af rfl ?_;rw[ag];refine⟨by simp[go_sem]<;>omega,?_⟩;rw[aj,ep];exact⟨h,hle',hφ⟩
   | bin _ _ _ h0 a a2 w1 w2=>
     iterate 11 (rw[ah,if_neg (by simp[go_sem])])
     obtain⟨m,rfl⟩:∃ m:Nat,nn=m:=⟨nn.toNat,by omega⟩;have er:=YW h0;have e:tx (.nd 31 ln c (m:Int) [] [a,a2])=brk (decide (a.lv<EP (oJ m).2)) (tx a)++[32]++(oJ m).1++[32]++brk (decide (a2.lv<(oJ m).2+1)) (tx a2):=by rw[LV];simp
     have hlv:=Pv m;rw[e] at F hφ;obtain⟨P1,PK2⟩:=PK.cons;have P2:=PK2.cons.1;have hR:iy k1 s [((p+1:Nat):Int),((p+1+a.n:Nat):Int)]:=by simpa[places] using RK
     rw[aI,aI,bF] at hn';have hs2:s.n=2:=hR.n;obtain⟨q0,y0,hq0,hr0⟩:=hR.read (j:=0) (by simp);obtain⟨q1,y1,hq1,hr1⟩:=hR.read (j:=1) (by simp);rw[ai,sbw];refine⟨m,rfl,by omega,by omega,?_⟩;rw[er];generalize oJ m=g at *;refine rR ⟨[((g.2:Nat):Int)],[],[g.1],[],[],[]⟩ rfl af rfl ?_;by_cases h34:g.2=3\/g.2=4
     . have hz:((g.2:Nat):Int)=3\/((g.2:Nat):Int)=4:=by omega
       have hlf:EP g.2=g.2+1:=by unfold EP;rw[if_pos h34]
       rw[hlf] at F hφ;simp only[List.length_append,List.length_cons,List.length_nil] at F;rw[ah,if_pos (by simpa[go_sem] using hz)];rw[ag];refine⟨by simp[go_sem]<;>omega,?_⟩;refine rL ⟨[((p+1:Nat):Int)],[],[],[],[],[]⟩ rfl af (by simpa[go_sem,hq0] using hr0) ?_;refine rL ⟨[((p+1+a.n:Nat):Int)],[],[],[],[],[]⟩ rfl af (by simpa[go_sem,hq1] using hr1) ?_;rw[ag];refine⟨by simp[go_sem,hq0]<;>omega,?_⟩;rw[ag];refine⟨by simp[go_sem,hq0]<;>omega,?_⟩;rw[ag];refine⟨by simp[go_sem]<;>omega,?_⟩;rw[ae,aF,if_pos (by rfl),say];refine⟨sl,l,p+1,a,g.2+1,rfl,R1,hl,P1,w1,by omega,by omega,?_⟩;refine⟨fun _ _ _=>rfl,(bn _ _).2 ⟨⟨[],[],[brk (decide (a.lv<g.2+1)) (tx a)],[],[],[]⟩,rfl,af,rfl,?_⟩⟩;rw[ag];refine⟨by simp[go_sem]<;>omega,?_⟩;rw[ag];refine⟨by simp[go_sem]<;>omega,?_⟩;rw[ag];refine⟨by simp[go_sem]<;>omega,?_⟩;rw[ae,aF,if_pos (by rfl),say];refine⟨sl,l,p+1+a.n,a2,g.2+1,rfl,R1,hl,P2,w2,by omega,by omega,?_⟩;refine⟨fun _ _ _=>rfl,(bn _ _).2 ⟨⟨[],[],[brk (decide (a2.lv<g.2+1)) (tx a2)],[],[],[]⟩,rfl,af,rfl,?_⟩⟩;rw[ag];refine⟨by simp[go_sem]<;>omega,?_⟩;rw[aj,ep];exact⟨h,hle',hφ⟩
     . have hz:¬ (((g.2:Nat):Int)=3\/((g.2:Nat):Int)=4):=by omega
       have hlf:EP g.2=g.2:=by unfold EP;rw[if_neg h34]
       rw[hlf] at F hφ;simp only[List.length_append,List.length_cons,List.length_nil] at F;rw[ah,if_neg (by simpa[go_sem] using hz)];refine rL ⟨[((p+1:Nat):Int)],[],[],[],[],[]⟩ rfl af (by simpa[go_sem,hq0] using hr0) ?_;refine rL ⟨[((p+1+a.n:Nat):Int)],[],[],[],[],[]⟩ rfl af (by simpa[go_sem,hq1] using hr1) ?_;rw[ag];refine⟨by simp[go_sem,hq0]<;>omega,?_⟩;rw[ag];refine⟨by simp[go_sem,hq0]<;>omega,?_⟩;rw[ag];refine⟨by simp[go_sem]<;>omega,?_⟩;rw[ae,aF,if_pos (by rfl),say];refine⟨sl,l,p+1,a,g.2,rfl,R1,hl,P1,w1,by omega,by omega,?_⟩;refine⟨fun _ _ _=>rfl,(bn _ _).2 ⟨⟨[],[],[brk (decide (a.lv<g.2)) (tx a)],[],[],[]⟩,rfl,af,rfl,?_⟩⟩;rw[ag];refine⟨by simp[go_sem]<;>omega,?_⟩;rw[ag];refine⟨by simp[go_sem]<;>omega,?_⟩;rw[ag];refine⟨by simp[go_sem]<;>omega,?_⟩;rw[ae,aF,if_pos (by rfl),say];refine⟨sl,l,p+1+a.n,a2,g.2+1,rfl,R1,hl,P2,w2,by omega,by omega,?_⟩;refine⟨fun _ _ _=>rfl,(bn _ _).2 ⟨⟨[],[],[brk (decide (a2.lv<g.2+1)) (tx a2)],[],[],[]⟩,rfl,af,rfl,?_⟩⟩;rw[ag];refine⟨by simp[go_sem]<;>omega,?_⟩;rw[aj,ep];exact⟨h,hle',hφ⟩
   | make _ _ l' c' z h0=>
     iterate 10 (rw[ah,if_neg (by simp[go_sem])])
     rw[ah,if_pos (by simp[go_sem])];have hwk:E5 (Tr.nd 19 l' c' 0 z []):=.big _ _ _ h0;obtain⟨P1,PK2⟩:=PK.cons;have hkp:mQ l 1000000 (p+1)=some (qU (Tr.nd 19 l' c' 0 z [])):=jk hwk P1 (by have:=P1.lt;omega);have e:tx (.nd 32 ln c 0 [] [.nd 19 l' c' 0 z []])=(fZ++[32])++qU (Tr.nd 19 l' c' 0 z [])++[40]++oN []++[41]:=by rw[qG];simp
     rw[e] at F hφ;generalize qU (Tr.nd 19 l' c' 0 z [])=kt at F hφ hkp;simp only[List.length_append,List.length_cons,List.length_nil] at F;rw[aI,bF] at hn';have hs2:=RK.n;rw[dn,List.length_cons] at hs2;have hsc:=RK.c;rw[places] at RK;obtain⟨q0,y0,hq0,hr0⟩:=RK.read (j:=0) (by simp);refine rL ⟨[((p+1:Nat):Int)],[],[],[],[],[]⟩ rfl af (by simpa[go_sem,hq0] using hr0) ?_;rw[ag];refine⟨by simp[go_sem,hq0]<;>omega,?_⟩;rw[ag];refine⟨by simp[go_sem]<;>omega,?_⟩;rw[ae,aF,if_pos (by rfl),sa0];refine⟨sl,l,p+1,kt,rfl,R1,hl,hkp,by omega,?_⟩;refine⟨fun _ _ _=>rfl,(bn _ _).2 ⟨⟨[],[],[kt],[],[],[]⟩,rfl,af,rfl,?_⟩⟩;rw[ag];refine⟨by simp[go_sem]<;>omega,?_⟩;rw[ag];refine⟨by simp[go_sem]<;>omega,?_⟩;have R2:=RK.tail;rw[show (((p+1:Nat):Int)+((Tr.nd 19 l' c' 0 z []).n:Nat))=((p+1+(Tr.nd 19 l' c' 0 z []).n:Nat):Int) by omega] at R2;rw[ae,aF,if_pos (by rfl),sb2];refine⟨sl,⟨if s.c=1 then s.a else s.a.map fun x=>(x.1,x.2+1*1),s.n - 1,s.c - 1⟩,l,p+1+(Tr.nd 19 l' c' 0 z []).n,[],rfl,R1,hl,PK2,.nil,by rw[bF];omega,R2,by omega,?_⟩;refine⟨fun _ _ _=>rfl,(bn _ _).2 ⟨⟨[],[],[oN []],[],[],[]⟩,rfl,af,rfl,?_⟩⟩;rw[ag];refine⟨by simp[go_sem]<;>omega,?_⟩;rw[ag];refine⟨by simp[go_sem]<;>omega,?_⟩;rw[aj,ep];exact⟨h,hle',hφ⟩
   | makes _ _ l' c' t ht bb2 w2=>
     iterate 10 (rw[ah,if_neg (by simp[go_sem])])
     rw[ah,if_pos (by simp[go_sem])];have hwk:E5 (Tr.nd 20 l' c' 0 [] [t]):=.list _ _ _ ht;obtain⟨P1,PK2⟩:=PK.cons;have hkp:mQ l 1000000 (p+1)=some (qU (Tr.nd 20 l' c' 0 [] [t])):=jk hwk P1 (by have:=P1.lt;omega);have e:tx (.nd 32 ln c 0 [] [.nd 20 l' c' 0 [] [t],bb2])=(fZ++[32])++qU (Tr.nd 20 l' c' 0 [] [t])++[40]++oN [bb2]++[41]:=by rw[qG];simp
     rw[e] at F hφ;generalize qU (Tr.nd 20 l' c' 0 [] [t])=kt at F hφ hkp;simp only[List.length_append,List.length_cons,List.length_nil] at F;rw[aI,aI,bF] at hn';have hs2:=RK.n;rw[dn,List.length_cons] at hs2;have hsc:=RK.c;rw[places] at RK;obtain⟨q0,y0,hq0,hr0⟩:=RK.read (j:=0) (by simp);refine rL ⟨[((p+1:Nat):Int)],[],[],[],[],[]⟩ rfl af (by simpa[go_sem,hq0] using hr0) ?_;rw[ag];refine⟨by simp[go_sem,hq0]<;>omega,?_⟩;rw[ag];refine⟨by simp[go_sem]<;>omega,?_⟩;rw[ae,aF,if_pos (by rfl),sa0];refine⟨sl,l,p+1,kt,rfl,R1,hl,hkp,by omega,?_⟩;refine⟨fun _ _ _=>rfl,(bn _ _).2 ⟨⟨[],[],[kt],[],[],[]⟩,rfl,af,rfl,?_⟩⟩;rw[ag];refine⟨by simp[go_sem]<;>omega,?_⟩;rw[ag];refine⟨by simp[go_sem]<;>omega,?_⟩;have R2:=RK.tail;rw[show (((p+1:Nat):Int)+((Tr.nd 20 l' c' 0 [] [t]).n:Nat))=((p+1+(Tr.nd 20 l' c' 0 [] [t]).n:Nat):Int) by omega] at R2;rw[ae,aF,if_pos (by rfl),sb2];refine⟨sl,⟨if s.c=1 then s.a else s.a.map fun x=>(x.1,x.2+1*1),s.n - 1,s.c - 1⟩,l,p+1+(Tr.nd 20 l' c' 0 [] [t]).n,[bb2],rfl,R1,hl,PK2,.cons _ _ w2 .nil,by rw[aI,bF];omega,R2,by omega,?_⟩;refine⟨fun _ _ _=>rfl,(bn _ _).2 ⟨⟨[],[],[oN [bb2]],[],[],[]⟩,rfl,af,rfl,?_⟩⟩;rw[ag];refine⟨by simp[go_sem]<;>omega,?_⟩;rw[ag];refine⟨by simp[go_sem]<;>omega,?_⟩;rw[aj,ep];exact⟨h,hle',hφ⟩
def A8:Fm:=(.C 29 [.L 0] (.p (.B 0)) ⟨0,1,0,0,0,0⟩
 (.ite (.not (.x 0))
 (.ret (.p (.one (.b (.c false)))))
 (.N (.R (.add (.cnt (.x 0)) (.c 4)))
 (.N (.R (.add (.cnt (.x 0)) (.c 3)))
 (.N (.R (.add (.cnt (.x 0)) (.c 1)))
 (.mk [(.i .u8 (.c 1)),(.i .i64 (.c 0)),(.i .i64 (.c 0)),(.i .i64 (.add (.cnt (.x 0)) (.c 4))),(.i .i64 (.c 0)),(.s (.c [])),(.i .u8 (.c 4)),(.i .i64 (.c 0)),(.i .i64 (.c 0)),(.i .i64 (.add (.cnt (.x 0)) (.c 3))),(.i .i64 (.c 0)),(.s (.c [102])),(.i .u8 (.c 14)),(.i .i64 (.c 0)),(.i .i64 (.c 0)),(.i .i64 (.c 0)),(.i .i64 (.c 0)),(.s (.c [])),(.i .u8 (.c 6)),(.i .i64 (.c 0)),(.i .i64 (.c 0)),(.i .i64 (.add (.cnt (.x 0)) (.c 1))),(.i .i64 (.c 0)),(.s (.c [])),(.i .u8 (.c 12)),(.i .i64 (.c 0)),(.i .i64 (.c 0)),(.i .i64 (.cnt (.x 0))),(.i .i64 (.c 0)),(.s (.c []))] 52 5
 (.app (.x 1) (.x 0) 6 56 52
 (.C 17 [.L 2] (.p (.B 1)) ⟨0,1,0,0,0,0⟩
 (.ret (.p (.B 1)))))))))))
theorem JD:aU ⟨true,[]⟩ Tryz.prog (fun l=>([]:List bG).getD l ⟨[],[],[]⟩) Tryz.f15=A8:=by kernel_rfl
theorem Q3:az Tryz.prog .zero Tryz.f15.params.toList=some ([.L 0],⟨0,0,0,0,1,0⟩):=by kernel_rfl
def Bj:Fm:=(.C 29 [.L 0] (.p (.B 0)) ⟨0,1,0,0,0,0⟩
 (.ite (.not (.x 0))
 (.ret (.p (.one (.b (.c false)))))
 (.N (.R (.add (.cnt (.x 0)) (.c 2)))
 (.N (.R (.add (.cnt (.x 0)) (.c 1)))
 (.mk [(.i .u8 (.c 1)),(.i .i64 (.c 0)),(.i .i64 (.c 0)),(.i .i64 (.add (.cnt (.x 0)) (.c 2))),(.i .i64 (.c 0)),(.s (.c [])),(.i .u8 (.c 2)),(.i .i64 (.c 0)),(.i .i64 (.c 0)),(.i .i64 (.add (.cnt (.x 0)) (.c 1))),(.i .i64 (.c 0)),(.s (.c [82])),(.i .u8 (.c 3)),(.i .i64 (.c 0)),(.i .i64 (.c 0)),(.i .i64 (.cnt (.x 0))),(.i .i64 (.c 0)),(.s (.c [102]))] 52 3
 (.app (.x 1) (.x 0) 6 56 52
 (.C 17 [.L 2] (.p (.B 1)) ⟨0,1,0,0,0,0⟩
 (.ret (.p (.B 1))))))))))
theorem JO:aU ⟨true,[]⟩ Tryz.prog (fun l=>([]:List bG).getD l ⟨[],[],[]⟩) Tryz.f13=Bj:=by kernel_rfl
theorem Rk:az Tryz.prog .zero Tryz.f13.params.toList=some ([.L 0],⟨0,0,0,0,1,0⟩):=by kernel_rfl
def BF:Fm:=(.C 23 [.L 0] (.p (.B 0)) ⟨0,1,0,0,0,0⟩
 (.need (.x 0) (.X (.c 0) (.x 0))
 (.need (.x 0) (.nns (.x 0))
 (.load (.x 0) (.el (.x 0) (.c 0) 6 0) 1 [.U 0] ⟨1,0,0,0,0,0⟩
 (.need (.not (.or (.not (.x 0)) (.lt (.x 0) (.c 15)))) (.X (.c 0) (.x 0))
 (.need (.not (.or (.not (.x 0)) (.lt (.x 0) (.c 15)))) (.nns (.x 0))
 (.load (.not (.or (.not (.x 0)) (.lt (.x 0) (.c 15)))) (.el (.x 0) (.c 0) 6 0) 1 [.U 1] ⟨1,0,0,0,0,0⟩
 (.ite (.or (.or (.not (.x 0)) (.lt (.x 0) (.c 15))) (.lt (.c 20) (.x 1)))
 (.ret (.p (.W [])))
 (.N (.R (.add (.cnt (.x 0)) (.c 2)))
 (.N (.R (.add (.cnt (.x 0)) (.c 1)))
 (.mk [(.i .u8 (.c 1)),(.i .i64 (.c 0)),(.i .i64 (.c 0)),(.i .i64 (.add (.cnt (.x 0)) (.c 2))),(.i .i64 (.c 0)),(.s (.c [])),(.i .u8 (.c 2)),(.i .i64 (.c 0)),(.i .i64 (.c 0)),(.i .i64 (.add (.cnt (.x 0)) (.c 1))),(.i .i64 (.c 0)),(.s (.c [82])),(.i .u8 (.c 3)),(.i .i64 (.c 0)),(.i .i64 (.c 0)),(.i .i64 (.cnt (.x 0))),(.i .i64 (.c 0)),(.s (.c [102]))] 52 3
 (.app (.x 1) (.x 0) 6 56 52
 (.C 24 [.L 2] (.p (.B 1)) ⟨0,1,0,0,0,0⟩
 (.ite (.not (.x 1))
 (.ret (.p (.W [])))
 (.new [(.sl (.x 0)),(.c .nilp),(.sl .nil),(.i .i64 (.c 0))] 48
 (.C 28 [.P 0,(.I (.c 0))] (.p (.S 0)) ⟨0,0,1,0,0,0⟩
 (.ret (.p (.S 0)))))))))))))))))))
theorem J3:aU ⟨true,[41]⟩ Tryz.prog (fun l=>([]:List bG).getD l ⟨[],[],[]⟩) Tryz.f12=BF:=by kernel_rfl
theorem Rx:az Tryz.prog .zero Tryz.f12.params.toList=some ([.L 0],⟨0,0,0,0,1,0⟩):=by kernel_rfl
def hd3 (n:Int):List Ng:=[⟨1,0,0,n+2,0,[]⟩,⟨2,0,0,n+1,0,[82]⟩,⟨3,0,0,n,0,[102]⟩]
def qM (t:Tr):Tr:=.nd 1 0 0 0 [] [.nd 2 0 0 0 [82] [.nd 3 0 0 0 [102] [t]]]
theorem uq (t:Tr):(qM t).gs=hd3 t.n++t.gs:=by
 unfold qM hd3;simp only[jc,dB,aI,bF,QQ,show Tr.mP []=[] from rfl,List.append_nil,List.nil_append,List.cons_append];simp only[List.cons.injEq,Ng.mk.injEq,and_true,true_and];omega
theorem Ol (t:Tr):gJ (qM t)=(ES t.g&&mD t):=by
 unfold qM;rw[Ec,List.all_cons,List.all_nil,dF,List.all_cons,List.all_nil,dF,List.all_cons,List.all_nil];have e1:zX (.nd 3 0 0 0 [102] [t])=ES t.g:=by
  show (true&&(ES t.g&&true))=_;simp
 have e2:zX (.nd 2 0 0 0 [82] [.nd 3 0 0 0 [102] [t]])=true:=rfl;rw[e1,e2];show (true&&(true&&((true&&((ES t.g&&(mD t&&true))&&true))&&true)))=_;simp
theorem Vd (t:Tr):gJ (fU 12 t)=(wE t.g&&mD t):=by
 unfold fU;rw[Ec,List.all_cons,List.all_nil,dF,List.all_cons,List.all_cons,List.all_nil,dF,dF,List.all_cons,List.all_nil,dF,List.all_cons,List.all_nil];have e1:zX (.nd 12 0 0 0 [] [t])=wE t.g:=by
  show (true&&(wE t.g&&true))=_;simp
 rw[e1];show (true&&(true&&((true&&((true&&true)&&((true&&((wE t.g&&(mD t&&true))&&true))&&true)))&&true)))=_;simp
theorem Dj {E:Env} {C:Ctx} {x y:LE} {f:Fm} {h:Hp} {hd l:List Ng} {b n:Nat} {sl:bM} (R:NG h sl l) (hl:l.length<=1000000) (hb:h b=none) (hn:hd.length=n) (hn2:n<=10)
 (hx:x.den C=⟨some (b,0),n,n⟩) (hy:y.den C=sl) (hC:C.h=h.set b ⟨lI hd,52⟩)
 (hk:∀ s' k',bY h k'->NG k' s' (hd++l)->s'.n=n+l.length->f.says E ((C.push ⟨[],[],[],[],[s'],[]⟩).heap k')):(Fm.app x y 6 56 52 f).says E C:=by
 have hsn:=NG.n R;have hle1:=hset hb ⟨lI hd,52⟩;have R1:=NG.le R hle1;have hgl:=lJ hd;rw[bT,hx,hy,hC];refine⟨lI hd,lI l,.inr ⟨b,_,rfl,ay _ _ _,rfl,by rw[hgl,hn],Nat.le_refl _,by show n<=maxLen;unfold maxLen;omega,?_⟩,R1.rd,Ip l,?_,?_,?_⟩
 . exact (List.take_of_length_le (by rw[hgl,hn];exact Nat.le_refl _)).symm
 . show n+sl.n<=maxLen;unfold maxLen;omega
 . show (n+sl.n)*56<=_;omega
 intro s' k' g1 g2 g3 g4;have g2':s'.n=n+sl.n:=g2;refine hk s' k' (fun c o hc=>g4 c o (fun z hz e=>?_) (hle1 c o hc)) ?_ (by omega)
 . have hz':some (b,0)=some z:=hz;cases hz';simp only at e;rw[<- e,hb] at hc;cases hc
 . rw[<- xg] at g1;exact Rows.y7 g1
set_option maxHeartbeats 4000000 in
def FD:Ct Tryz.prog where
 f:=15
 spec:=fun args h φ=>∃ sl l,args=[bM.val sl]/\NG h sl l/\l.length<=900000/\(∀ x∈l,x.x.length<=100000)/\∀ b:Bool,(b=true↔∃ t,l=Tr.gs t/\gJ (fU 12 t)=true)->φ (.bool b) h
 ok:=by
  rintro args h φ w ⟨sl,l,rfl,R,hl,hx,hφ⟩ hH;have hn:=NG.n R;refine bQ (aZ Tryz.func15 JD Q3 [jh,Dx] (fun v k=>∃ k',bY k' k/\φ v k') (bJ) (aV) ⟨[],[],[],[],[sl],[],h,cu⟩ ⟨rfl,rfl,rfl,rfl,rfl,rfl⟩ af ?_ w hH rfl);generalize hE:(⟨aG _,_,_,_⟩:Env)=E;have sbt:E.spec 29=(jh).spec:=by rw[<- hE];rfl
  have sc2:E.spec 17=(Dx).spec:=by rw[<- hE];rfl
  have ep:E.post=(fun v k=>∃ k',bY k' k/\φ v k'):=by rw[<- hE]
  clear hE;unfold A8;rw[ax,if_pos (by rfl),sbt];refine⟨sl,l,rfl,R,by omega,fun b0 hb0=>?_⟩;refine rR ⟨[],[b0],[],[],[],[]⟩ rfl af rfl ?_;cases b0 with
  | false=>
    rw[ah,if_pos (by simp[go_sem])];rw[aj,ep];exact⟨h,fun _ _ h=>h,hφ _ ⟨fun e=>(by cases e),fun ⟨u,hu,_⟩=>hb0.2 ⟨u,hu⟩⟩⟩
  | true=>
    obtain⟨t,rfl⟩:=hb0.1 rfl;have hgl:=iD t;rw[ah,if_neg (by simp[go_sem])];rw[ag];refine⟨by simp[go_sem]<;>omega,?_⟩;rw[ag];refine⟨by simp[go_sem]<;>omega,?_⟩;rw[ag];refine⟨by simp[go_sem]<;>omega,?_⟩;rw[ae,aW];intro b hb;have hb':h b=none:=hb;rw[ae];refine Dj R (by omega) hb' (hd:=hd5 12 t.n) (n:=5) rfl (by decide) rfl rfl ?_ fun s' k' hle NR hs'=>?_
    . have e:(sl.n:Int)=(t.n:Int):=by omega
      show Hp.set h b ⟨[.int .u8 1,.int .i64 0,.int .i64 0,.int .i64 ((sl.n:Int)+4),.int .i64 0,.string (B []),.int .u8 4,.int .i64 0,.int .i64 0,.int .i64 ((sl.n:Int)+3),.int .i64 0,.string (B [102]),.int .u8 14,.int .i64 0,.int .i64 0,.int .i64 0,.int .i64 0,.string (B []),.int .u8 6,.int .i64 0,.int .i64 0,.int .i64 ((sl.n:Int)+1),.int .i64 0,.string (B []),.int .u8 12,.int .i64 0,.int .i64 0,.int .i64 (sl.n:Int),.int .i64 0,.string (B [])],_⟩=_;rw[e];rfl
    rw[<- qc] at NR;have hwl:(fU 12 t).gs.length<=1000000:=by
     rw[qc,List.length_append];show 5+_<=_;omega
    rw[<- ae,ae,ax,if_pos (by rfl),sc2];refine⟨s',_,rfl,NR,hwl,fun x hxx=>?_,fun b1 hb1=>?_⟩
    . rw[qc] at hxx;rcases List.mem_append.1 hxx with hxx | hxx
      . unfold hd5 at hxx;simp only[List.mem_cons,List.not_mem_nil,or_false] at hxx;rcases hxx with rfl | rfl | rfl | rfl | rfl<;>simp
      . exact hx x hxx
    refine rR ⟨[],[b1],[],[],[],[]⟩ rfl af rfl ?_;rw[aj,ep];refine⟨h,hle,hφ _ (hb1.trans ⟨fun ⟨u,hu,hm⟩=>⟨t,rfl,?_⟩,fun ⟨u,hu,hm⟩=>⟨fU 12 t,rfl,?_⟩⟩)⟩
    . rw[(kU (t:=fU 12 t) (u:=u) (r:=[]) (s:=[]) (by rw[hu])).1];exact hm
    . rw[(kU (t:=t) (u:=u) (r:=[]) (s:=[]) (by rw[hu])).1];exact hm
set_option maxHeartbeats 4000000 in
def FN:Ct Tryz.prog where
 f:=13
 spec:=fun args h φ=>∃ sl l,args=[bM.val sl]/\NG h sl l/\l.length<=900000/\(∀ x∈l,x.x.length<=100000)/\∀ b:Bool,(b=true↔∃ t,l=Tr.gs t/\gJ (qM t)=true)->φ (.bool b) h
 ok:=by
  rintro args h φ w ⟨sl,l,rfl,R,hl,hx,hφ⟩ hH;have hn:=NG.n R;refine bQ (aZ Tryz.func13 JO Rk [jh,Dx] (fun v k=>∃ k',bY k' k/\φ v k') (bJ) (aV) ⟨[],[],[],[],[sl],[],h,cu⟩ ⟨rfl,rfl,rfl,rfl,rfl,rfl⟩ af ?_ w hH rfl);generalize hE:(⟨aG _,_,_,_⟩:Env)=E;have sbt:E.spec 29=(jh).spec:=by rw[<- hE];rfl
  have sc2:E.spec 17=(Dx).spec:=by rw[<- hE];rfl
  have ep:E.post=(fun v k=>∃ k',bY k' k/\φ v k'):=by rw[<- hE]
  clear hE;unfold Bj;rw[ax,if_pos (by rfl),sbt];refine⟨sl,l,rfl,R,by omega,fun b0 hb0=>?_⟩;refine rR ⟨[],[b0],[],[],[],[]⟩ rfl af rfl ?_;cases b0 with
  | false=>
    rw[ah,if_pos (by simp[go_sem])];rw[aj,ep];exact⟨h,fun _ _ h=>h,hφ _ ⟨fun e=>(by cases e),fun ⟨u,hu,_⟩=>hb0.2 ⟨u,hu⟩⟩⟩
  | true=>
    obtain⟨t,rfl⟩:=hb0.1 rfl;have hgl:=iD t;rw[ah,if_neg (by simp[go_sem])];rw[ag];refine⟨by simp[go_sem]<;>omega,?_⟩;rw[ag];refine⟨by simp[go_sem]<;>omega,?_⟩;rw[ae,aW];intro b hb;have hb':h b=none:=hb;rw[ae];refine Dj R (by omega) hb' (hd:=hd3 t.n) (n:=3) rfl (by decide) rfl rfl ?_ fun s' k' hle NR hs'=>?_
    . have e:(sl.n:Int)=(t.n:Int):=by omega
      show Hp.set h b ⟨[.int .u8 1,.int .i64 0,.int .i64 0,.int .i64 ((sl.n:Int)+2),.int .i64 0,.string (B []),.int .u8 2,.int .i64 0,.int .i64 0,.int .i64 ((sl.n:Int)+1),.int .i64 0,.string (B [82]),.int .u8 3,.int .i64 0,.int .i64 0,.int .i64 (sl.n:Int),.int .i64 0,.string (B [102])],_⟩=_;rw[e];rfl
    rw[<- uq] at NR;have hwl:(qM t).gs.length<=1000000:=by
     rw[uq,List.length_append];show 3+_<=_;omega
    rw[<- ae,ae,ax,if_pos (by rfl),sc2];refine⟨s',_,rfl,NR,hwl,fun x hxx=>?_,fun b1 hb1=>?_⟩
    . rw[uq] at hxx;rcases List.mem_append.1 hxx with hxx | hxx
      . unfold hd3 at hxx;simp only[List.mem_cons,List.not_mem_nil,or_false] at hxx;rcases hxx with rfl | rfl | rfl<;>simp
      . exact hx x hxx
    refine rR ⟨[],[b1],[],[],[],[]⟩ rfl af rfl ?_;rw[aj,ep];refine⟨h,hle,hφ _ (hb1.trans ⟨fun ⟨u,hu,hm⟩=>⟨t,rfl,?_⟩,fun ⟨u,hu,hm⟩=>⟨qM t,rfl,?_⟩⟩)⟩
    . rw[(kU (t:=qM t) (u:=u) (r:=[]) (s:=[]) (by rw[hu])).1];exact hm
    . rw[(kU (t:=t) (u:=u) (r:=[]) (s:=[]) (by rw[hu])).1];exact hm
set_option maxHeartbeats 4000000 in
def FT:Ct Tryz.prog where
 f:=12
 spec:=fun args h φ=>∃ sl l,args=[bM.val sl]/\NG h sl l/\l.length<=900000/\((jo l=false/\φ (.string (B [])) h)\/∃ t:Tr,l=t.gs/\((gJ (qM t)=false/\φ (.string (B [])) h)\/(gJ (qM t)=true/\E5 t/\(qU t).length<=1000000000000/\φ (.string (B (qU t))) h)))
 ok:=by
  rintro args h φ w ⟨sl,l,rfl,R,hl,hφ⟩ hH;have hn:=NG.n R;refine bQ (aZ Tryz.func12 J3 Rx [jD,DI,qh (o9 1000000)] (fun v k=>∃ k',bY k' k/\φ v k') (bJ) (aV) ⟨[],[],[],[],[sl],[],h,cu⟩ ⟨rfl,rfl,rfl,rfl,rfl,rfl⟩ af ?_ w hH rfl);generalize hE:(⟨aG _,_,_,_⟩:Env)=E;have sbf:E.spec 23=(jD).spec:=by rw[<- hE];rfl
  have sbk:E.spec 24=(DI).spec:=by rw[<- hE];rfl
  have sa0:E.spec 28=(qh (o9 1000000)).spec:=by rw[<- hE];rfl
  have ep:E.post=(fun v k=>∃ k',bY k' k/\φ v k'):=by rw[<- hE]
  clear hE;unfold BF;rw[ax,if_pos (by rfl),sbf];refine⟨sl,l,rfl,R,by omega,?_⟩;refine rR ⟨[],[jo l],[],[],[],[]⟩ rfl af rfl ?_;rcases hφ with ⟨hr,hφ⟩ | ⟨t,rfl,hφ⟩
  . rw[hr];rw[ag];refine⟨by simp[go_sem],?_⟩;rw[ag];refine⟨by simp[go_sem],?_⟩;rw[bP,if_neg (by simp[go_sem])];rw[ag];refine⟨by simp[go_sem],?_⟩;rw[ag];refine⟨by simp[go_sem],?_⟩;rw[bP,if_neg (by simp[go_sem])];rw[ah,if_pos (by simp[go_sem])];rw[aj,ep];exact⟨h,fun _ _ h=>h,hφ⟩
  rw[pU];have hgl:=iD t;have hpos:=oq t;have P0:Ps t.gs 0 t:=⟨[],[],by simp,rfl⟩;obtain⟨h0l,h0x⟩:=P0.node;obtain⟨b1,o,ha⟩:=Rows.nn R (j:=0) (by omega);have rk:=Rows.read (off:=0) (m:=1) R (j:=0) (by omega) (by omega) ha;rw[<- List.drop_drop,eP h0l,h0x] at rk;have hz0:sl.n≠0:=by omega
  have hz1:0<sl.n:=by omega
  have no:¬ (15<=t.g.k/\t.g.k<=20)->φ (.string (B [])) h:=by
   intro hno;rcases hφ with ⟨_,hφ⟩ | ⟨hm,_⟩
   . exact hφ
   . rw[Ol,Bool.and_eq_true] at hm;have h1:(decide (15<=t.g.k)&&decide (t.g.k<=20))=true:=hm.1;simp only[Bool.and_eq_true,decide_eq_true_eq] at h1;exact absurd h1 hno
  rw[ag];refine⟨by simp[go_sem,ha]<;>omega,?_⟩;rw[ag];refine⟨by simp[go_sem,ha],?_⟩;refine rL ⟨[t.g.k],[],[],[],[],[]⟩ rfl af (by simpa[go_sem,ha,Ng.cs] using rk) ?_;by_cases h15:t.g.k<15
  . have hn15:¬ 15<=t.g.k:=by omega
    rw[ag];refine⟨by simp[go_sem,hn15],?_⟩;rw[ag];refine⟨by simp[go_sem,hn15],?_⟩;rw[bP,if_neg (by simp[go_sem,hn15])];rw[ah,if_pos (by simp[go_sem,h15])];rw[aj,ep];exact⟨h,fun _ _ h=>h,no (by omega)⟩
  have h15':15<=t.g.k:=by omega
  rw[ag];refine⟨by simp[go_sem,ha,h15']<;>omega,?_⟩;rw[ag];refine⟨by simp[go_sem,ha,h15'],?_⟩;rw[bP,if_pos (by simp[go_sem];omega)];refine (bn _ _).2 ⟨⟨[t.g.k],[],[],[],[],[]⟩,rfl,af,by simpa[go_sem,ha,Ng.cs] using rk,?_⟩;by_cases h20:20<t.g.k
  . rw[ah,if_pos (by simp[go_sem,h20])];rw[aj,ep];exact⟨h,fun _ _ h=>h,no (by omega)⟩
  rw[ah,if_neg (by simp[go_sem];omega)];rw[ag];refine⟨by simp[go_sem]<;>omega,?_⟩;rw[ag];refine⟨by simp[go_sem]<;>omega,?_⟩;rw[ae,aW];intro b hb;have hb':h b=none:=hb;rw[ae];refine Dj R (by omega) hb' (hd:=hd3 t.n) (n:=3) rfl (by decide) rfl rfl ?_ fun s' k' hle NR hs'=>?_
  . have e:(sl.n:Int)=(t.n:Int):=by omega
    show Hp.set h b ⟨[.int .u8 1,.int .i64 0,.int .i64 0,.int .i64 ((sl.n:Int)+2),.int .i64 0,.string (B []),.int .u8 2,.int .i64 0,.int .i64 0,.int .i64 ((sl.n:Int)+1),.int .i64 0,.string (B [82]),.int .u8 3,.int .i64 0,.int .i64 0,.int .i64 (sl.n:Int),.int .i64 0,.string (B [102])],_⟩=_;rw[e];rfl
  rw[<- uq] at NR;have hwl:(qM t).gs.length<=1000000:=by
   rw[uq,List.length_append];show 3+_<=_;omega
  rw[<- ae,ae,ax,if_pos (by rfl),sbk];refine⟨s',_,rfl,NR,hwl,.inr ⟨_,rfl,?_⟩⟩;refine rR ⟨[],[gJ (qM t)],[],[],[],[]⟩ rfl af rfl ?_;rcases hφ with ⟨hm,hφ⟩ | ⟨hm,W,hlen,hφ⟩
  . rw[hm];rw[ah,if_pos (by simp[go_sem])];rw[aj,ep];exact⟨h,hle,hφ⟩
  . rw[hm];rw[ah,if_neg (by simp[go_sem]),ae,dN];intro b2 hb2;have hb2':k' b2=none:=hb2;have hle2:=hset hb2' ⟨prn b2 sl false ⟨none,0,0⟩ 0,qN⟩;rw[ai,sa0];refine⟨b2,sl,t.gs,0,qU t,_,_,rfl,ay _ _ _,R.le (bY.trans hle hle2),by omega,jk W P0 (by omega),hlen,?_⟩;refine rR ⟨[],[],[qU t],[],[],[]⟩ rfl af rfl ?_;rw[aj,ep];exact⟨h,bY.trans hle hle2,hφ⟩
def yj:Fm:=(.C 8 [.S 0] (.tup [.L 0,(.agg [.J 0,.J 1,.J 2])]) ⟨3,0,0,0,1,0⟩
 (.C 9 [.L 0] (.tup [.S 1,.J 3]) ⟨1,0,1,0,0,0⟩
 (.ret (.p (.S 1)))))
theorem Hm:aU ⟨true,[]⟩ Tryz.prog (fun l=>([]:List bG).getD l ⟨[],[],[]⟩) Tryz.f20=yj:=by kernel_rfl
theorem La:az Tryz.prog .zero Tryz.f20.params.toList=some ([.S 0],⟨0,0,1,0,0,0⟩):=by kernel_rfl
def yl:Fm:=(.C 20 [.W [40,97,43,98,41,42,40,99,41]] (.p (.S 0)) ⟨0,0,1,0,0,0⟩
 (.call (.eqS (.x 0) (.c [40,97,32,43,32,98,41,32,42,32,99])) false 20 [.W [97,45,40,98,45,99,41,45,100]] (.p (.S 1)) ⟨0,0,1,0,0,0⟩
 (.call (.and (.eqS (.x 0) (.c [40,97,32,43,32,98,41,32,42,32,99])) (.eqS (.x 1) (.c [97,32,45,32,40,98,32,45,32,99,41,32,45,32,100]))) false 20 [.W [45,40,45,120,41]] (.p (.S 2)) ⟨0,0,1,0,0,0⟩
 (.ret (.p (.one (.b (.and (.and (.eqS (.x 0) (.c [40,97,32,43,32,98,41,32,42,32,99])) (.eqS (.x 1) (.c [97,32,45,32,40,98,32,45,32,99,41,32,45,32,100]))) (.eqS (.x 2) (.c [45,45,120]))))))))))
theorem Ho:aU ⟨true,[]⟩ Tryz.prog (fun l=>([]:List bG).getD l ⟨[],[],[]⟩) Tryz.f7=yl:=by kernel_rfl
theorem Lc:az Tryz.prog .zero Tryz.f7.params.toList=some ([],⟨0,0,0,0,0,0⟩):=by kernel_rfl
theorem NG.Yd {h:Hp} {sl:bM} {t:Tr} {T:TypeId} (ho:dC h sl (rJ t.nR) T 6):NG h sl t.gs:=by
 rw[<- XR] at ho;exact Rows.y7 ho
set_option maxHeartbeats 2000000 in
def Ar:Ct Tryz.prog where
 f:=20
 spec:=fun args h φ=>∃ s t,args=[.string (B s)]/\s.length<=2000/\(∃ f,jl false s=some (f,t)/\f.1=0)/\(kX t/\t.n<=2000)/\(tx t).length<=2000/\φ (.string (B (tx t))) h
 ok:=by
  rintro args h φ w ⟨s,t,rfl,hs,⟨f,hft,hf⟩,⟨W,htn⟩,hlen,hφ⟩ hH;have hgl:=iD t;refine bQ (aZ Tryz.func20 Hm La [ML,sN] (fun v k=>∃ k',bY k' k/\φ v k') (bJ) (aV) ⟨[],[],[s],[],[],[],h,cu⟩ ⟨rfl,rfl,rfl,rfl,rfl,rfl⟩ af ?_ w hH rfl);generalize hE:(⟨aG _,_,_,_⟩:Env)=E;have sc3:E.spec 8=(ML).spec:=by rw[<- hE];rfl
  have sc4:E.spec 9=(sN).spec:=by rw[<- hE];rfl
  have ep:E.post=(fun v k=>∃ k',bY k' k/\φ v k'):=by rw[<- hE]
  clear hE;unfold yj;rw[ax,if_pos (by rfl),sc3];refine⟨s,rfl,?_⟩;unfold zg;rw[if_neg (by omega)];intro f' t' hft';rw[hft] at hft';cases hft';rw[if_pos hf];intro sl k hle ho hn;have hle':bY h k:=hle;refine rR ⟨[0,0,0],[],[],[],[sl],[]⟩ rfl af rfl ?_;rw[bD,if_pos (by rfl),sc4];refine⟨sl,t.gs,rfl,NG.Yd ho,by omega,.inr ⟨t,rfl,.inr ⟨Vb W,W,by omega,?_⟩⟩⟩;refine rR ⟨[0],[],[tx t],[],[],[]⟩ rfl af rfl ?_;rw[aj,ep];exact⟨h,hle',hφ⟩
def A1:List UInt8:=[40,97,43,98,41,42,40,99,41]
def A2:List UInt8:=[97,45,40,98,45,99,41,45,100]
def A3:List UInt8:=[45,40,45,120,41]
def PH (t:Tr):Bool:=mD t&&wE t.g&&t.gs.all (fun x=>decide (x.n<=9223372036854775807)&&decide (x.x.length<=1000000))&&decide (t.n<=2000)
theorem Xz {t:Tr} (h:PH t=true):kX t/\t.n<=2000:=by
 unfold PH at h;simp only[Bool.and_eq_true,decide_eq_true_eq,List.all_eq_true] at h;exact⟨LZ _ t (Nat.le_refl _) (fun x hx=>h.1.2 x hx) h.1.1.1 h.1.1.2,h.2⟩
set_option maxRecDepth 100000 in
theorem ag1:(jl false A1).map (fun r=>(r.1,PH r.2,tx r.2))=some ((0,0,0),true,[40,97,32,43,32,98,41,32,42,32,99]):=by decide +kernel
set_option maxRecDepth 100000 in
theorem ag2:(jl false A2).map (fun r=>(r.1,PH r.2,tx r.2))=some ((0,0,0),true,[97,32,45,32,40,98,32,45,32,99,41,32,45,32,100]):=by decide +kernel
set_option maxRecDepth 100000 in
theorem ag3:(jl false A3).map (fun r=>(r.1,PH r.2,tx r.2))=some ((0,0,0),true,[45,45,120]):=by decide +kernel
theorem Tc {s:List UInt8} {u:List UInt8} (h:(jl false s).map (fun r=>(r.1,PH r.2,tx r.2))=some ((0,0,0),true,u)):∃ t,(∃ f,jl false s=some (f,t)/\f.1=0)/\(kX t/\t.n<=2000)/\tx t=u:=by
 obtain⟨⟨f,t⟩,h1,h2⟩:=Option.map_eq_some_iff.1 h;obtain⟨h3,h4⟩:=Prod.mk.inj h2;obtain⟨h5,h6⟩:=Prod.mk.inj h4;exact⟨t,⟨f,h1,by rw[show f=(0,0,0) from h3]⟩,Xz h5,h6⟩
set_option maxHeartbeats 2000000 in
def Au:Ct Tryz.prog where
 f:=7
 spec:=fun args h φ=>args=[]/\φ (.bool true) h
 ok:=by
  rintro args h φ w ⟨rfl,hφ⟩ hH;obtain⟨t1,p1,c1,e1⟩:=Tc ag1;obtain⟨t2,p2,c2,e2⟩:=Tc ag2;obtain⟨t3,p3,c3,e3⟩:=Tc ag3;refine aZ Tryz.func7 Ho Lc [Ar] φ (bJ) (aV) ⟨[],[],[],[],[],[],h,cu⟩ ⟨rfl,rfl,rfl,rfl,rfl,rfl⟩ af ?_ w hH rfl;generalize hE:(⟨aG _,_,_,_⟩:Env)=E;have sc5:E.spec 20=(Ar).spec:=by rw[<- hE];rfl
  have ep:E.post=φ:=by rw[<- hE]
  clear hE;unfold yl;rw[ax,if_pos (by rfl),sc5];refine⟨A1,t1,rfl,by decide,p1,c1,by rw[e1];decide,?_⟩;rw[e1];refine rR ⟨[],[],[[40,97,32,43,32,98,41,32,42,32,99]],[],[],[]⟩ rfl af rfl ?_;rw[bD,if_pos (by rfl),sc5];refine⟨A2,t2,rfl,by decide,p2,c2,by rw[e2];decide,?_⟩;rw[e2];refine rR ⟨[],[],[[97,32,45,32,40,98,32,45,32,99,41,32,45,32,100]],[],[],[]⟩ rfl af rfl ?_;rw[bD,if_pos (by rfl),sc5];refine⟨A3,t3,rfl,by decide,p3,c3,by rw[e3];decide,?_⟩;rw[e3];refine rR ⟨[],[],[[45,45,120]],[],[],[]⟩ rfl af rfl ?_;rw[aj,ep];exact hφ
end
section
open Go.ChangeShapes Go.WideShapes Go.Deep Go.RowKit
theorem mJ {H:Type} {enc:TypeId×Value->H} {P:Program} {W:World} {base:Nat} {spare:Nat->Bool} {held:Bool} {n:Nat} {fs:Array Field} {cs:List Value} {xs:List (DataW H×List MemPlace)} (hone:oneCellFields P fs=true)
 (hg:∀ (i:Nat) (f:Field),fs[i]? = some f->DataW.trod enc P W base spare held n f.type ((cs.drop f.offset).take (P.cellsOf f.type))=xs[i]?) (j:Nat) {f:Field} {c:Value} {y:Option (DataW H×List MemPlace)} (hj:fs[j]? = some f) (hc:cs[j]? = some c) (hy:xs[j]? = y):DataW.trod enc P W base spare held n f.type [c]=y:=by
 have h:=hg j f hj;obtain⟨o,k⟩:=hone_of hone j f hj;obtain⟨hl,he⟩:=List.getElem?_eq_some_iff.1 hc;rw[o,k,List.drop_eq_getElem_cons hl,he] at h;exact h.trans hy
theorem Z4 {n:Int} (h:(Lit.int .i64 n).wf=true):n<=9223372036854775807:=by
 simp[Lit.wf] at h;have:=h.2;simpa[IntKind.max] using this
instance:Inhabited Ng:=⟨⟨0,0,0,0,0,[]⟩⟩
set_option maxRecDepth 100000 in
theorem node_cells {H:Type} {enc:TypeId×Value->H} {W:World} {base:Nat} {spare:Nat->Bool} {held:Bool} {fuel:Nat} {cs:List Value} {x:DataW H×List MemPlace}
 (h:DataW.trod enc Tryz.prog W base spare held fuel 52 cs=some x):∃ g:Ng,cs=g.cs/\g.n<=9223372036854775807:=by
 obtain⟨xs,n,_,hx,hl,hxl,hg⟩:=DataW.trod_struct Tryz.underlying52 h;have h6:Tryz.prog.cellsOf 52=6:=by kernel_rfl
 rw[h6] at hl;have hxl6:xs.length=6:=hxl
 match cs,hl with
 | [c0,c1,c2,c3,c4,c5],_=>
   match xs,hxl6,hg with
   | [y0,y1,y2,y3,y4,y5],_,hg=>
     have q0:=mJ (by kernel_rfl) hg 0 rfl rfl rfl;have q1:=mJ (by kernel_rfl) hg 1 rfl rfl rfl;have q2:=mJ (by kernel_rfl) hg 2 rfl rfl rfl;have q3:=mJ (by kernel_rfl) hg 3 rfl rfl rfl;have q4:=mJ (by kernel_rfl) hg 4 rfl rfl rfl;have q5:=mJ (by kernel_rfl) hg 5 rfl rfl rfl;obtain⟨n0,e0,_,_⟩:=DataW.trod_int Tryz.underlying5 q0;obtain⟨n1,e1,_,_⟩:=DataW.trod_int Tryz.underlying3 q1;obtain⟨n2,e2,_,_⟩:=DataW.trod_int Tryz.underlying3 q2;obtain⟨n3,e3,_,_⟩:=DataW.trod_int Tryz.underlying3 q3;obtain⟨n4,e4,_,w4⟩:=DataW.trod_int Tryz.underlying2 q4;obtain⟨s5,e5,_,_⟩:=DataW.trod_string Tryz.underlying9 q5;simp only[List.cons.injEq,and_true] at e0 e1 e2 e3 e4 e5;subst e0 e1 e2 e3 e4 e5;refine⟨⟨n0,n1,n2,n3,n4,s5.data.toList⟩,?_,Z4 w4⟩;unfold Ng.cs;rw[<- I4 s5]
theorem XQ {l:List Ng} {i j:Nat} (hi:i<l.length) (hj:j<6):(lI l)[i*6+j]? = (l[i].cs)[j]?:=by
 rw[<- List.getElem?_drop,eP hi,List.getElem?_append_left (by simpa[Ng.cs] using hj)]
set_option maxRecDepth 100000 in
theorem KU {H:Type} {enc:TypeId×Value->H} {W:World} {b0 base:Nat} {spare:Nat->Bool} {held:Bool} {v:Value} {d:DataW H} {p:List MemPlace}
 (hv:Value.okWide Tryz.prog W .any b0 23 v) (h:DataW.Trod enc Tryz.prog W base spare held 23 v d p):
 ∃ (h:Hp) (sl:bM) (l:List Ng),v=sl.val/\NG h sl l/\Holds h W/\(∀ b o,h b=some o->o.ty=1000003)/\l.length<=9223372036854775807/\∀ x∈l,x.n<=9223372036854775807:=by
 obtain⟨fuel,hf⟩:=h;have hs:Tryz.prog.underlying 23=some (.slice 52):=Tryz.underlying23;have h6:Tryz.prog.cellsOf 52=6:=by kernel_rfl
 have hv2:=hv;obtain⟨a',n',c',rfl⟩:=okWide_slice hs hv;rcases open_slice hs hf with ⟨e,_⟩ | ⟨a,len,cap,m,n,D,Pl,e,_,hl,hc,hm,_,hi⟩
 . have e':Value.slice a' n' c'=.slice none 0 0:=by simpa[Value.cells] using e
   rw[e'];exact⟨fun _=>none,⟨none,0,0⟩,[],rfl,⟨rfl,.inl rfl⟩,fun b o hb=>(by cases hb),fun b o hb=>(by cases hb),by simp,fun x hx=>(by cases hx)⟩
 . have e':Value.slice a' n' c'=.slice (some a) len cap:=by simpa[Value.cells] using e
   rw[e'] at hv2⊢;have hsp:a.spot=none/\∃ row cells,W.shape? a.block=some (row,cells):=by
    simp only[Value.okWide,hs,Cell.okWide,Cell.ok,World.has] at hv2;obtain⟨_,_,_,h1,row,cells,h2,_⟩:=hv2;exact⟨h1,row,cells,h2⟩
   obtain⟨b,off,sp⟩:=a;obtain⟨rfl,row,cells,hsh⟩:=hsp;have hlm:len<=m:=by rw[hm];split<;>omega
   have each:∀ i,i<len->∃ g:Ng,W.cells? base ((⟨b,off,none⟩:Addr).add (i*6)) 6=some g.cs/\g.n<=9223372036854775807:=fun i hil=>by
    obtain⟨cs',h1,h2⟩:=hi i (by omega);rw[h6] at h1;obtain⟨g,rfl,hg⟩:=node_cells h2;exact⟨g,h1,hg⟩
   obtain⟨G,hG⟩:=choose_lt each;have hblk:∃ c T fz,W.heap[b]? = some (.cells c T fz):=by
    unfold World.shape? at hsh;split at hsh
    . rename_i c T fz hb;exact⟨c,T,fz,hb⟩
    . cases hsh
   obtain⟨c,T,fz,hblk⟩:=hblk;have hcell:∀ i j,i<len->j<6->c.toList[off+(i*6+j)]? = ((G i).cs)[j]?:=by
    intro i j hil hj;obtain⟨_,hl6,hat⟩:=World.cells?_some (hG i hil).1;have h1:=hat j hj;rw[addr_add,addr_add] at h1;unfold World.cell? at h1;rw[hblk] at h1;simp only[Option.isSome_none,Bool.false_eq_true,if_false] at h1;rw[Array.getElem?_toList,<- Nat.add_assoc,h1]
   let l:=(List.range len).map G
   have hll:l.length=len:=by simp[l]
   have hget:∀ i (hi:i<l.length),l[i]=G i:=fun i hi=>by simp[l]
   have hcs:∀ q,q<len*6->c.toList[off+q]? = (lI l)[q]?:=by
    intro q hq;have e1:q=q / 6*6+q % 6:=by omega
    have hil:q / 6<len:=by omega
    rw[e1,hcell _ _ hil (by omega),XQ (by omega) (by omega),hget _ (by omega)]
   refine⟨fun k=>if k=b then some ⟨c.toList,ro⟩ else none,⟨some (b,off),len,cap⟩,l,rfl,⟨by rw[lJ,hll],?_⟩,?_,fun b' o hb=>(by simp only at hb;split at hb;cases hb;rfl;cases hb),by rw[hll];unfold maxLen at hc;omega,?_⟩
   . by_cases h0:len=0
     . exact .inl h0
     right;have hlast:=hcs (len*6 - 1) (by omega);rw[List.getElem?_eq_getElem (l:=lI l) (by rw[lJ,hll];omega)] at hlast;have hsz:=(List.getElem?_eq_some_iff.1 hlast).1;unfold hread;simp only[if_true];rw[if_pos (by omega)];congr 1;apply List.ext_getElem?;intro q;rw[List.getElem?_take];split
     . rw[List.getElem?_drop];exact hcs q (by assumption)
     . rw[List.getElem?_eq_none (by rw[lJ,hll];omega)]
   . intro b' o hb;simp only at hb;split at hb
     . rename_i e;subst e;cases hb;exact⟨T,fz,by rw[hblk],fun hne=>absurd rfl hne⟩
     . cases hb
   . intro x hx;obtain⟨i,hi,rfl⟩:=List.mem_map.1 hx;exact (hG i (List.mem_range.1 hi)).2
theorem TU (c:Ct Tryz.prog) {args:List Value} {r:Value} {h:Hp} (hs:c.spec args h (fun v _=>v=r)) {w:World} (H:Holds h w) (hro:∀ b o,h b=some o->o.ty=1000003):Calls Tryz.prog c.f args.toArray w fun e w'=>e=.returned r/\Below w.heap.size w w':=by
 refine (c.ok args h _ w hs H).mono ?_;rintro e w' ⟨v,k,rfl,rfl,_,F⟩;exact⟨rfl,F.os,F.tape,F.output,F.size,fun i hi=>F.block i hi (hro i)⟩
end
section
attribute [local go_sem] aY aX aA ak ax aF aT aJ au says_again
def yu:Fm:=(.C 11 [.L 0] (.p (.B 0)) ⟨0,1,0,0,0,0⟩
 (.ite (.x 0)
 (.C 7 [] (.p (.B 1)) ⟨0,1,0,0,0,0⟩
 (.ret (.p (.B 1))))
 (.C 9 [.L 0] (.tup [.S 0,.J 0]) ⟨1,0,1,0,0,0⟩
 (.C 12 [.L 0] (.p (.S 1)) ⟨0,0,1,0,0,0⟩
 (.C 13 [.L 0] (.p (.B 1)) ⟨0,1,0,0,0,0⟩
 (.call (.and (.eqB (.x 1) (.not (.eqS (.x 1) (.c [])))) (.not (.eqS (.x 1) (.c [])))) false 14 [.L 0,(.I (.c 0))] (.p (.S 2)) ⟨0,0,1,0,0,0⟩
 (.ite (.or (.not (.eqB (.x 1) (.not (.eqS (.x 1) (.c []))))) (.and (.not (.eqS (.x 1) (.c []))) (.not (.eqS (.x 1) (.x 2)))))
 (.ret (.p (.one (.b (.c false)))))
 (.C 15 [.L 0] (.p (.B 2)) ⟨0,1,0,0,0,0⟩
 (.ite (.not (.x 2))
 (.call (.and (.eqS (.x 0) (.c [])) (.eqI (.x 0) (.c 1))) false 7 [] (.p (.B 3)) ⟨0,1,0,0,0,0⟩
 (.ret (.p (.one (.b (.and (.and (.eqS (.x 0) (.c [])) (.eqI (.x 0) (.c 1))) (.x 3)))))))
 (.call (.eqI (.x 0) (.c 0)) false 16 [.L 0,(.I (.c 0))] (.p (.S 3)) ⟨0,0,1,0,0,0⟩
 (.call (.and (.eqI (.x 0) (.c 0)) (.eqS (.x 0) (.x 3))) false 7 [] (.p (.B 3)) ⟨0,1,0,0,0,0⟩
 (.ret (.p (.one (.b (.and (.and (.eqI (.x 0) (.c 0)) (.eqS (.x 0) (.x 3))) (.x 3)))))))))))))))))
theorem Hq:aU ⟨true,[]⟩ Tryz.prog (fun l=>([]:List bG).getD l ⟨[],[],[]⟩) Tryz.f4=yu:=by kernel_rfl
theorem Ld:az Tryz.prog .zero Tryz.f4.params.toList=some ([.L 0],⟨0,0,0,0,1,0⟩):=by kernel_rfl
def Xq (l:List Ng):Nat:=(l.map fun x=>1+x.x.length).sum
theorem Ic:∀ {l:List Ng} {n:Nat},n<=4000->oH n l=false->n+Xq l<=4000
 | [],n,hn,_=>by simpa[Xq] using hn
 | x::l,n,hn,h=>by
   rw[oH] at h;split at h
   . cases h
   . rename_i hlt;have:=Ic (n:=n+(1+min x.x.length 5000)) (by omega) h;unfold Xq at this⊢;rw[List.map_cons,List.sum_cons];omega
theorem Y6 (a b:List Ng):Xq (a++b)=Xq a+Xq b:=by unfold Xq;rw[List.map_append,List.sum_append]
mutual
theorem ZI:∀ t:Tr,wN t<=23*Xq t.gs
 | .nd k l c n x ks=>by
   have:=ZJ ks;rw[jc,show wN (.nd k l c n x ks)=23+4*x.length+wS ks from rfl];unfold Xq at *;rw[List.map_cons,List.sum_cons];dsimp only;omega
theorem ZJ:∀ ts:List Tr,wS ts<=23*Xq (Tr.mP ts)
 | []=>by rw[wS];exact Nat.zero_le _
 | t::ts=>by
   have h1:=ZI t;have h2:=ZJ ts;rw[wS,dB,Y6];omega
end
theorem Z7 {t:Tr} (W:E5 t):qU t≠[]:=by
 cases W with
 | word k l c h=>
   have:k=15\/k=16\/k=17\/k=18:=by omega
   rcases this with rfl | rfl | rfl | rfl<;>(intro e;cases e)
 | big l c x h=>
   show x≠[];intro e;subst e;exact absurd h.1 (by decide)
 | list l c t h=>intro e;cases e
set_option maxHeartbeats 4000000 in
def TA:Ct Tryz.prog where
 f:=4
 spec:=fun args h φ=>∃ sl l,args=[bM.val sl]/\NG h sl l/\l.length<=9223372036854775807/\(∀ x∈l,x.n<=9223372036854775807)/\φ (.bool true) h
 ok:=by
  rintro args h φ w ⟨sl,l,rfl,R,hl,hnn,hφ⟩ hH;refine bQ (aZ Tryz.func4 Hq Ld [MP,sN,FT,FN,FD,Au,qg (pV 1000000),lG (zA 1000000)] (fun v k=>∃ k',bY k' k/\φ v k') (bJ) (aV) ⟨[],[],[],[],[sl],[],h,cu⟩ ⟨rfl,rfl,rfl,rfl,rfl,rfl⟩ af ?_ w hH rfl);generalize hE:(⟨aG _,_,_,_⟩:Env)=E;have sc6:E.spec 11=(MP).spec:=by rw[<- hE];rfl
  have sc4:E.spec 9=(sN).spec:=by rw[<- hE];rfl
  have sc7:E.spec 12=(FT).spec:=by rw[<- hE];rfl
  have sc8:E.spec 13=(FN).spec:=by rw[<- hE];rfl
  have sc9:E.spec 15=(FD).spec:=by rw[<- hE];rfl
  have sca:E.spec 7=(Au).spec:=by rw[<- hE];rfl
  have sa0:E.spec 14=(qg (pV 1000000)).spec:=by rw[<- hE];rfl
  have sbx:E.spec 16=(lG (zA 1000000)).spec:=by rw[<- hE];rfl
  have ep:E.post=(fun v k=>∃ k',bY k' k/\φ v k'):=by rw[<- hE]
  clear hE;unfold yu;rw[ax,if_pos (by rfl),sc6];refine⟨sl,l,rfl,R,hl,?_⟩;refine rR ⟨[],[oH 0 l],[],[],[],[]⟩ rfl af rfl ?_;cases hm:oH 0 l with
  | true=>
    rw[ah,if_pos (by simp[go_sem])];rw[bD,if_pos (by rfl),sca];refine⟨rfl,?_⟩;refine rR ⟨[],[true],[],[],[],[]⟩ rfl af rfl ?_;rw[aj,ep];exact⟨h,fun _ _ h=>h,hφ⟩
  | false=>
    obtain⟨m1,m2⟩:=Oe (Nat.zero_le _) hm;have m3:=Ic (Nat.zero_le _) hm;have hx:∀ x∈l,x.x.length<=100000:=fun x hx=>by have:=m2 x hx;omega
    rw[ah,if_neg (by simp[go_sem])];have hfin:∀ k,bY h k->∃ k',bY k' k/\φ (.bool true) k':=fun k hk=>⟨h,hk,hφ⟩
    by_cases hr:∃ t,l=Tr.gs t;rotate_left
    . have hrf:jo l=false:=by
       cases hq:jo l with
       | false=>rfl
       | true=>exact absurd ⟨_,(LG hq).choose_spec⟩ hr
      have noE:∀ (P:Tr->Prop) (b:Bool),(b=true↔∃ t,l=Tr.gs t/\P t)->b=false:=fun P b hb=>by
       cases b with
       | false=>rfl
       | true=>obtain⟨t,e,_⟩:=hb.1 rfl;exact absurd ⟨t,e⟩ hr
      rw[bD,if_pos (by rfl),sc4];refine⟨sl,l,rfl,R,by omega,.inl ⟨hrf,?_⟩⟩;refine rR ⟨[1],[],[[]],[],[],[]⟩ rfl af rfl ?_;rw[bD,if_pos (by rfl),sc7];refine⟨sl,l,rfl,R,by omega,.inl ⟨hrf,?_⟩⟩;refine rR ⟨[],[],[[]],[],[],[]⟩ rfl af rfl ?_;rw[bD,if_pos (by rfl),sc8];refine⟨sl,l,rfl,R,by omega,hx,fun b hb=>?_⟩;obtain rfl:=noE _ _ hb;refine rR ⟨[],[false],[],[],[],[]⟩ rfl af rfl ?_;rw[bD,if_neg (by simp[go_sem])];rw[ah,if_neg (by simp[go_sem])];rw[bD,if_pos (by rfl),sc9];refine⟨sl,l,rfl,R,by omega,hx,fun b hb=>?_⟩;obtain rfl:=noE _ _ hb;refine rR ⟨[],[false],[],[],[],[]⟩ rfl af rfl ?_;rw[ah,if_pos (by simp[go_sem])];rw[bD,if_pos (by simp[go_sem]),sca];refine⟨rfl,?_⟩;refine rR ⟨[],[true],[],[],[],[]⟩ rfl af rfl ?_;rw[aj,ep];exact⟨h,fun _ _ h=>h,by simpa[go_sem] using hφ⟩
    obtain⟨t,rfl⟩:=hr;have hgl:=iD t;have P0:Ps t.gs 0 t:=⟨[],[],by simp,rfl⟩;have hnb:nB t:=fun x hx=>⟨hnn x hx,by have:=m2 x hx;omega⟩
    have hwn:=ZI t;have yes:∀ (P:Tr->Tr) (b:Bool),(b=true↔∃ u,t.gs=Tr.gs u/\gJ (P u)=true)->b=gJ (P t):=fun P b hb=>by
     have e:(∃ u,t.gs=Tr.gs u/\gJ (P u)=true)↔gJ (P t)=true:=⟨fun ⟨u,hu,hm⟩=>by rw[(kU (t:=t) (u:=u) (r:=[]) (s:=[]) (by rw[hu])).1];exact hm,fun hm=>⟨t,rfl,hm⟩⟩;rw[e] at hb;exact Bool.eq_iff_iff.2 hb
    have hE:gJ (fU 12 t)=true->kX t:=fun hm=>by
     rw[Vd,Bool.and_eq_true] at hm;exact LZ t.n t (Nat.le_refl _) hnb hm.2 hm.1
    have hK:gJ (qM t)=true->E5 t:=fun hm=>by
     rw[Ol,Bool.and_eq_true] at hm;exact EM t.n t (Nat.le_refl _) hnb hm.2 hm.1
    have tailE:∀ (C:Ctx),C.l=[sl]->C.h=h->C.s.length=3->C.i.length=1->C.b.length=2->C.s.getD 0 []=(if gJ (fU 12 t)=true then tx t else [])->C.i.getD 0 0=(if gJ (fU 12 t)=true then 0 else 1)->C.p=[]->C.v=[]->
     Then E (.C 15 [.L 0] (.p (.B 2)) ⟨0,1,0,0,0,0⟩
      (.ite (.not (.x 2))
      (.call (.and (.eqS (.x 0) (.c [])) (.eqI (.x 0) (.c 1))) false 7 [] (.p (.B 3)) ⟨0,1,0,0,0,0⟩
      (.ret (.p (.one (.b (.and (.and (.eqS (.x 0) (.c [])) (.eqI (.x 0) (.c 1))) (.x 3)))))))
      (.call (.eqI (.x 0) (.c 0)) false 16 [.L 0,(.I (.c 0))] (.p (.S 3)) ⟨0,0,1,0,0,0⟩
      (.call (.and (.eqI (.x 0) (.c 0)) (.eqS (.x 0) (.x 3))) false 7 [] (.p (.B 3)) ⟨0,1,0,0,0,0⟩
      (.ret (.p (.one (.b (.and (.and (.eqI (.x 0) (.c 0)) (.eqS (.x 0) (.x 3))) (.x 3)))))))))) C:=by
     rintro⟨ci,cb,cs,cv,cl,cp,ch,cm⟩ hl1 hh1 hs1 hi1 hb1 hs0 hi0 hp hv;simp only at hl1 hh1 hs1 hi1 hb1 hp hv;subst hl1 hh1 hp hv;obtain⟨i0,rfl⟩:∃ i0,ci=[i0]:=by
      match ci,hi1 with
      | [i0],_=>exact⟨i0,rfl⟩
     obtain⟨s0,s1,s2,rfl⟩:∃ s0 s1 s2,cs=[s0,s1,s2]:=by
      match cs,hs1 with
      | [s0,s1,s2],_=>exact⟨s0,s1,s2,rfl⟩
     obtain⟨b0,b1,rfl⟩:∃ b0 b1,cb=[b0,b1]:=by
      match cb,hb1 with
      | [b0,b1],_=>exact⟨b0,b1,rfl⟩
     have hs0':s0=if gJ (fU 12 t)=true then tx t else []:=hs0;have hi0':i0=if gJ (fU 12 t)=true then 0 else 1:=hi0;rw[bD,if_pos (by rfl),sc9];refine⟨sl,t.gs,rfl,R,by omega,hx,fun b hb=>?_⟩;obtain rfl:=yes (fU 12) b hb;refine rR ⟨[],[gJ (fU 12 t)],[],[],[],[]⟩ rfl af rfl ?_;cases hw:gJ (fU 12 t) with
     | false=>
       rw[hw] at hs0' hi0';rw[if_neg (by decide)] at hs0' hi0';subst hs0' hi0';rw[ah,if_pos (by simp[go_sem])];rw[bD,if_pos (by simp[go_sem]),sca];refine⟨rfl,?_⟩;refine rR ⟨[],[true],[],[],[],[]⟩ rfl af rfl ?_;rw[aj,ep];exact⟨ch,fun _ _ h=>h,by simpa[go_sem] using hφ⟩
     | true=>
       rw[hw] at hs0' hi0';rw[if_pos rfl] at hs0' hi0';subst hs0' hi0';have hlen:=Xd (hE hw);rw[ah,if_neg (by simp[go_sem])];rw[bD,if_pos (by simp[go_sem]),sbx];refine⟨sl,t.gs,0,t,rfl,R,by omega,P0,hE hw,by omega,by omega,?_⟩;refine rR ⟨[],[],[tx t],[],[],[]⟩ rfl af rfl ?_;rw[bD,if_pos (by simp[go_sem]),sca];refine⟨rfl,?_⟩;refine rR ⟨[],[true],[],[],[],[]⟩ rfl af rfl ?_;rw[aj,ep];exact⟨ch,fun _ _ h=>h,by simpa[go_sem] using hφ⟩
    rw[bD,if_pos (by rfl),sc4];refine⟨sl,t.gs,rfl,R,by omega,.inr ⟨t,rfl,?_⟩⟩;have mid:∀ (s0:List UInt8) (i0:Int),s0=(if gJ (fU 12 t)=true then tx t else [])->i0=(if gJ (fU 12 t)=true then 0 else 1)->∀ (M:Nat->Nat),
     Then E (.C 12 [.L 0] (.p (.S 1)) ⟨0,0,1,0,0,0⟩
      (.C 13 [.L 0] (.p (.B 1)) ⟨0,1,0,0,0,0⟩
      (.call (.and (.eqB (.x 1) (.not (.eqS (.x 1) (.c [])))) (.not (.eqS (.x 1) (.c [])))) false 14 [.L 0,(.I (.c 0))] (.p (.S 2)) ⟨0,0,1,0,0,0⟩
      (.ite (.or (.not (.eqB (.x 1) (.not (.eqS (.x 1) (.c []))))) (.and (.not (.eqS (.x 1) (.c []))) (.not (.eqS (.x 1) (.x 2)))))
      (.ret (.p (.one (.b (.c false)))))
      (.C 15 [.L 0] (.p (.B 2)) ⟨0,1,0,0,0,0⟩
      (.ite (.not (.x 2))
      (.call (.and (.eqS (.x 0) (.c [])) (.eqI (.x 0) (.c 1))) false 7 [] (.p (.B 3)) ⟨0,1,0,0,0,0⟩
      (.ret (.p (.one (.b (.and (.and (.eqS (.x 0) (.c [])) (.eqI (.x 0) (.c 1))) (.x 3)))))))
      (.call (.eqI (.x 0) (.c 0)) false 16 [.L 0,(.I (.c 0))] (.p (.S 3)) ⟨0,0,1,0,0,0⟩
      (.call (.and (.eqI (.x 0) (.c 0)) (.eqS (.x 0) (.x 3))) false 7 [] (.p (.B 3)) ⟨0,1,0,0,0,0⟩
      (.ret (.p (.one (.b (.and (.and (.eqI (.x 0) (.c 0)) (.eqS (.x 0) (.x 3))) (.x 3)))))))))))))) ⟨[i0],[false],[s0],[],[sl],[],h,M⟩:=by
     intro s0 i0 hs0 hi0 M;rw[bD,if_pos (by rfl),sc7];refine⟨sl,t.gs,rfl,R,by omega,.inr ⟨t,rfl,?_⟩⟩;cases hk:gJ (qM t) with
     | false=>
       refine .inl ⟨rfl,?_⟩;refine rR ⟨[],[],[[]],[],[],[]⟩ rfl af rfl ?_;rw[bD,if_pos (by rfl),sc8];refine⟨sl,t.gs,rfl,R,by omega,hx,fun b hb=>?_⟩;have eb:=yes qM b hb;rw[hk] at eb;subst eb;refine rR ⟨[],[false],[],[],[],[]⟩ rfl af rfl ?_;rw[bD,if_neg (by simp[go_sem])];rw[ah,if_neg (by simp[go_sem])];exact tailE _ rfl rfl rfl rfl rfl hs0 hi0 rfl rfl
     | true=>
       have W:=hK hk;have hklen:=N8 W;have hne:=Z7 W;refine .inr ⟨rfl,W,by omega,?_⟩;refine rR ⟨[],[],[qU t],[],[],[]⟩ rfl af rfl ?_;rw[bD,if_pos (by rfl),sc8];refine⟨sl,t.gs,rfl,R,by omega,hx,fun b hb=>?_⟩;have eb:=yes qM b hb;rw[hk] at eb;subst eb;refine rR ⟨[],[true],[],[],[],[]⟩ rfl af rfl ?_;rw[bD,if_pos (by simp[go_sem,hne]),sa0];refine⟨sl,t.gs,0,qU t,rfl,R,by omega,jk W P0 (by omega),by omega,?_⟩;refine rR ⟨[],[],[qU t],[],[],[]⟩ rfl af rfl ?_;rw[ah,if_neg (by simp[go_sem,hne])];exact tailE _ rfl rfl rfl rfl rfl hs0 hi0 rfl rfl
    cases hw:gJ (fU 12 t) with
    | false=>
      refine .inl ⟨rfl,?_⟩;refine rR ⟨[1],[],[[]],[],[],[]⟩ rfl af rfl ?_;exact mid _ _ (by rw[hw];rfl) (by rw[hw];rfl) _
    | true=>
      have hlen:=Xd (hE hw);refine .inr ⟨rfl,hE hw,by omega,?_⟩;refine rR ⟨[0],[],[tx t],[],[],[]⟩ rfl af rfl ?_;exact mid _ _ (by rw[hw];rfl) (by rw[hw];rfl) _
theorem Ky {h:Hp} {sl:bM} {l:List Ng} (R:NG h sl l) {W:World} (H:Holds h W) (hro:∀ b o,h b=some o->o.ty=1000003) (hl:l.length<=9223372036854775807) (hn:∀ x∈l,x.n<=9223372036854775807):
 Calls Tryz.prog 4 #[sl.val] W fun e w'=>e=.returned (.bool true)/\Below W.heap.size W w':=
 TU TA (args:=[sl.val]) ⟨sl,l,rfl,R,hl,hn,rfl⟩ H hro
end
section
open Go.ChangeShapes Go.WideShapes Go.ChangeAt Go.RowKit
theorem own:ownKnob Tryz.prog.godebug=none:=by kernel_rfl
theorem laidOutB:laidOutB Tryz.prog=true:=by kernel_rfl
theorem Ti {H:Type} {enc:TypeId×Value->H} {W W':World} (hb:Below W.heap.size W W'):
 ∀ (ts:List TypeId) (vs:List Value) (ds:List (DataW H)) (ps:List MemPlace),(∀ t∈ts,Tryz.prog.readableRec t=true/\t<Tryz.prog.types.size)->(∀ x∈ps,x.block<W.heap.size)->
 DataW.TrodAll enc Tryz.prog W 0 (fun _=>true) true ts vs ds ps->DataW.TrodAll enc Tryz.prog W' 0 (fun b=>decide (b<W.heap.size)) true ts vs ds ps:=by
 intro ts
 induction ts with
 | nil=>
   intro vs ds ps _ _ h;obtain⟨rfl,rfl,rfl⟩:=trodAll_nil h;exact trodAll_mk0
 | cons t ts ih=>
   intro vs ds ps ht hp h;obtain⟨v,vs',d,ds',p,q,rfl,rfl,rfl,h1,h2⟩:=trodAll_cons h;have h3:=ht t (by simp);exact trodAll_cons_mk (Below.trod laidOutB h3.1 h3.2 h1 hb (fun x hx=>hp x (by simp[hx]))) (ih vs' ds' q (fun u hu=>ht u (by simp[hu])) (fun x hx=>hp x (by simp[hx])) h2)
theorem X7 {H:Type} {enc:TypeId×Value->H} {s:ChangeSpec} {f:Func} {W W':World} {args:Array Value} {ds gs:List (DataW H)} {before:List MemPlace}
 (hv:s.vars=[]) (hres:f.resultTypes.toList=[4]) (hs1:f.resultTypes.size=1) (hts:∀ t∈f.params.toList,Tryz.prog.readableRec t=true/\t<Tryz.prog.types.size)
 (hfn:s.fn H ds={ results:=[.lit (.bool true)],args:=ds })
 (hW:DataW.Whole enc Tryz.prog f.params.toList s.vars false W args.toList ds gs before) (hb:Below W.heap.size W W'):
 s.post enc Tryz.prog f false true false false W args (.bool true) W':=by
 have hW0:=hW;have hlt:=hW.lt;obtain⟨p,q,hA,hV,hpq,hfz,hnd⟩:=hW;rw[hv] at hV;obtain⟨rfl,rfl⟩:=trodVars_none hV;rw[List.append_nil] at hpq;subst hpq;have e:s.fn H (ds++[])={ results:=[.lit (.bool true)],args:=ds }:=by rw[List.append_nil];exact hfn
 refine⟨ds,[],before,[],before,[],hW0,?_,?_,?_,hb.frame _,fun h=>by cases h⟩
 . rw[e,hres,hs1];exact trodAll_mk1 (shut_bool Tryz.underlying4 true)
 . rw[e];exact Ti hb _ _ _ _ hts hlt hA
 . rw[e,hv];rfl
def firstCells:Array Value:=(Lib.firstTab.map (Value.int .u8)).toArray
def E8:Array Value:=#[.int .u8 128,.int .u8 191,.int .u8 160,.int .u8 191,.int .u8 128,.int .u8 159,.int .u8 144,.int .u8 191,.int .u8 128,.int .u8 143,.int .u8 0,.int .u8 0,.int .u8 0,.int .u8 0,.int .u8 0,.int .u8 0,.int .u8 0,.int .u8 0,.int .u8 0,.int .u8 0,.int .u8 0,.int .u8 0,.int .u8 0,.int .u8 0,.int .u8 0,.int .u8 0,.int .u8 0,.int .u8 0,.int .u8 0,.int .u8 0,.int .u8 0,.int .u8 0]
def putCells (c:Array Value):Obj->Obj
 | .cells _ t frozen=>.cells c t frozen
 | o=>o
noncomputable def laidWorld (os:Os):World:=
 { World.holding Tryz.prog os ⟨#[],#[],[]⟩ with heap:=((World.holding Tryz.prog os ⟨#[],#[],[]⟩).heap.modify 0 (putCells firstCells)).modify 1 (putCells E8) }
end
end Go.Proofs.YtllbpdllkkcajaaGreatDoor
