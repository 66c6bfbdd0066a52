/- Drawing a station. -/
import Derived.Test.YtjccgneimknbpaaXd
import Derived.StillTail
import Derived.Deep.RegionHeld3
import Derived.KernelRfl
set_option linter.unusedVariables false
set_option linter.unusedSimpArgs false
namespace Go.Proofs.Ytjccgneimknbpaa.L
open Go.RowKit
theorem partN_fwd (n:Net) (p a b:Int):partN n p 1 a b=⟨p,a,b⟩:=rfl
theorem partN_back (n:Net) (p a b:Int):partN n p (-1) a b=⟨p,pl n p - b,pl n p - a⟩:=rfl
theorem partOf_q {p a b:Int} {P:Part} {w:World} (h:(⟨p,min a b,max a b⟩:Part)=P):Calls Try.prog 97 #[.int .i64 p,.int .i64 a,.int .i64 b] w (RetV P.v w):=by
 subst h
 exact implPartOf p a b w
theorem RetO.to {xs ys:List End} {hs gs:List Int} {w w':World} {e:Ending} (h:RetO xs hs w e w') (hx:xs=ys) (hh:hs=gs):RetO ys gs w e w':=by subst hx hh;exact h
theorem endC_head {w:World} {ok:Nat→Prop} {A:Option Addr} {e:End} (h:endK.C w ok A [e]):∃ad,A=some ad∧w.cell? ad=some (.int .i64 e.piece)∧w.cell? ⟨ad.block,ad.off+1,none⟩=some (.int .i64 e.side)∧ad.block < w.heap.size:=by
 obtain ⟨ad,he,y0,y1,E,g0,g1⟩:=endK_at h 0 (by simp)
 have:=E.out
 simp at this
 subst this
 have h0:ad.add (0*2)=ad:=by unfold Addr.add;simp
 rw [h0] at g0 g1
 exact ⟨ad,he,g0,g1,World.block_lt_of_cell? w ad g0⟩
theorem behind_cells {w W0 wr w1 W1 w2 w3:World} {v:Value} {o:Obj} {ce cp:List Value} {tE tP:TypeId} (hb:Below (w.heap.size+1) W0 wr) (h1:wr.heap.size≤w1.heap.size) (hB:Below wr.heap.size wr W1) (h2:Below W1.heap.size W1 w2) (hg:(w2.alloc o).grownBy w3 v.ownBlock) (ho:∀b,v.ownBlock=some b→w.heap.size+2≤b) (hl:∀b,v.ownBlock=some b→b < wr.heap.size) (hE:Blk W1 w1.heap.size tE ce) (hP:Blk wr (w.heap.size+1) tP cp) (hs:w.heap.size+1 < W0.heap.size) :
  Below (w.heap.size+1) W0 w3∧Blk w3 w1.heap.size tE ce∧Blk w3 (w.heap.size+1) tP cp∧w.heap.size+1 < w3.heap.size∧w1.heap.size < w3.heap.size∧w.heap.size+1≤w2.heap.size:=by
 have hbx:=hB.trans (h2.mono hB.size)
 have hsz:=hb.size
 have hba:Below wr.heap.size wr (w2.alloc o):=hbx.alloc hbx.size o
 have hsa:=hba.size
 have hsb:=hbx.size
 have hsg:=hg.size
 have hel:=hE.lt
 have hs2:=h2.size
 rw [size_alloc] at hsg
 refine ⟨(hb.trans (hba.mono (by omega))).grown hg (by rw [size_alloc];omega) (fun k hk=>by have:=ho k hk;omega),?_,?_,by omega,by omega,by omega⟩
 ·refine (hg.block w1.heap.size (by rw [size_alloc];omega) (fun e=>?_)).trans ((hE.below h2 hel).alloc o)
  have:=hl _ e.symm
  omega
 ·refine (hg.block (w.heap.size+1) (by rw [size_alloc];omega) (fun e=>?_)).trans (hP.below hba (by omega))
  have:=ho _ e.symm
  omega
theorem place_set {w:World} {b:Nat} {t:TypeId} {x0 x1 x2:Value} (y0 y1 y2:Value) (h:Blk w b t [x0,x1,x2]):Blk (((w.setCell ⟨b,0,none⟩ y0).setCell ⟨b,1,none⟩ y1).setCell ⟨b,2,none⟩ y2) b t [y0,y1,y2]:=((h.set_ 0 y0).set_ 1 y1).set_ 2 y2
theorem place_far {w:World} {b k:Nat} (y0 y1 y2:Value) (h:k≠b):(((w.setCell ⟨b,0,none⟩ y0).setCell ⟨b,1,none⟩ y1).setCell ⟨b,2,none⟩ y2).heap[k]?=w.heap[k]?:=by
 rw [Below.heap_setCell _ _ _ _ h,Below.heap_setCell _ _ _ _ h,Below.heap_setCell _ _ _ _ h]
theorem place_below {B b:Nat} {w W:World} (y0 y1 y2:Value) (h:Below B w W) (hb:B≤b):Below B w (((W.setCell ⟨b,0,none⟩ y0).setCell ⟨b,1,none⟩ y1).setCell ⟨b,2,none⟩ y2):=((h.setCell hb y0).setCell hb y1).setCell hb y2
theorem across_plain {x:Joint} {k:Nat} (h:x.kind=2):across x k=[en x (1 - k)]:=by unfold across;rw [if_pos h]
theorem how_plain {x:Joint} {k:Nat} (h:x.kind=2):howOf x k=[0]:=by unfold howOf;rw [if_neg (by omega),if_neg (by omega)]
set_option maxRecDepth 100000 in
set_option maxHeartbeats 16000000 in
theorem implBehind {ok:Nat→Prop} (n:Net) (A0 A1:Option Addr) (c0 c1:Nat) (u:Nat) (way far a ov:Int) (w:World) (h:NC 102 w ok n A0 A1) (hg:Hid (Good n)) (hu:u < n.pieces.length) (hway:Hid (way=1∨way=-1)) (h0:Hid (0≤far∧far < pl n u)) (ha:Hid (a=atOf n u way far)) (ho0:0≤ov) (ho1:ov≤100000) :
  Calls Try.prog 109 #[.agg #[.slice A0 n.pieces.length c0,.slice A1 n.joints.length c1],.agg #[.int .i64 u,.int .i64 a,.int .i64 way],.int .i64 ov] w (RetW 48 partK nobody (beyond n (ov.toNat+1) u way far ov) w):=by
 obtain ⟨i0,hi,hz0,hz1,hz2⟩:=info_parts info48
 have hmp:=h.p.1
 have hmj:=h.j.1
 obtain ⟨goal,HG⟩:∃goal,Hid (beyond n (ov.toNat+1) u way far ov=goal):=⟨_,Lib.hid rfl⟩
 rw [HG.out]
 go_enter Try.func109,Try.ntmps109
 go_wp2
 obtain ⟨W0,hW,HB0,hs0,hs1,f0,f1,HBX⟩:∃W,W=(w.alloc (.cells #[.slice A0 n.pieces.length c0,.slice A1 n.joints.length c1] 26)).alloc (.cells #[.int .i64 u,.int .i64 a,.int .i64 way] 124)∧Below w.heap.size w W∧w.heap.size < W.heap.size∧w.heap.size+1 < W.heap.size∧W.cell? ⟨w.heap.size,0,none⟩=some (.slice A0 n.pieces.length c0)∧W.cell? ⟨w.heap.size,1,none⟩=some (.slice A1 n.joints.length c1)∧Hid (Blk W (w.heap.size+1) 124 [.int .i64 u,.int .i64 (atOf n u way far),.int .i64 way]) :=
  ⟨_,rfl,(below_alloc _ _).alloc (by simp) _,by simp;omega,by simp,by simp,by simp,Lib.hid (by rw [←ha.out];exact Blk.new _ _ _ (by simp))⟩
 rw [←hW]
 clear hW
 go_loopw [2,7] (fun lv o wr=>∃(m u:Nat) (way far left:Int) (acc:List Part),lv=.int .i64 left∧u < n.pieces.length∧0≤far∧left≤100000∧Hid (way=1∨way=-1)∧Hid (far < pl n u)∧Hid (acc++beyond n m u way far left=goal)∧Hid (left.toNat < m)∧Hid (partK.Rw 48 wr nobody o acc)∧Hid (∀b,o.ownBlock=some b→w.heap.size+2≤b)∧Hid (0≤left∧acc.length+left≤ov)∧Hid (Blk wr (w.heap.size+1) 124 [.int .i64 u,.int .i64 (atOf n u way far),.int .i64 way])∧Below (w.heap.size+1) W0 wr) (fun lv _ _=>(intOf lv).toNat)
 case atStart=>exact ⟨ov.toNat+1,u,way,far,ov,[],rfl,hu,h0.out.1,ho1,hway,Lib.hid h0.out.2,Lib.hid HG.out,Lib.hid (by omega),Lib.hid Kn.Rw.nil,Lib.hid (by simp [Value.ownBlock]),Lib.hid ⟨ho0,by simp⟩,HBX,Below.refl _ _⟩
 case round =>
  clear h0 hway ha HBX hu
  obtain ⟨m,u,way,far,left,acc,rfl,hu,hf0,hl1,HW,HF,HB,HM,HR,HO,HL,HX0,hb⟩:=hrel
  obtain ⟨Ao,co,rfl,hco,_⟩:=HR.out.form
  have hbw:=HB0.trans (hb.mono (by omega:w.heap.size≤w.heap.size+1))
  by_cases hl:left≤0
  ·have HE:Hid (acc=goal):=Lib.hid (by have:=HB.out;rw [beyond_none hl,List.append_nil] at this;exact this)
   go_wp2
   go_ret
   exact ⟨_,rfl,by rw [←HE.out];exact HR.out,fun b hb=>by have:=HO.out b hb;omega,hbw⟩
  have hl0:0 < left:=by omega
  clear hl
  obtain ⟨ad,rfl,z0,z1,z2,z3,E,g0,g1,g2,g3⟩:=pieceK_at (Kn.C_below hbw h.p) u hu
  have j0:(0:Int)≤(u:Int):=Int.natCast_nonneg _
  have j1:(u:Int) < (n.pieces.length:Int):=by omega
  have HP:Hid (pl n u=z1):=Lib.hid (pl_get E.out)
  obtain ⟨x1,x2⟩:1≤z1∧z1≤10000000:=by have:=hg.out.piece _ (mem_of_get E.out);exact ⟨this.2.1,this.2.2.1⟩
  have x3:far < z1:=by have:=HF.out;rw [HP.out] at this;exact this
  have hsr0:w.heap.size < wr.heap.size:=by have:=hb.size;omega
  have hsr1:w.heap.size+1 < wr.heap.size:=by have:=hb.size;omega
  have q0:wr.cell? ⟨w.heap.size,0,none⟩=some (.slice (some ad) n.pieces.length c0):=(hb.cell (p:=⟨w.heap.size,0,none⟩) (by simp)).trans f0
  have q1:wr.cell? ⟨w.heap.size,1,none⟩=some (.slice A1 n.joints.length c1):=(hb.cell (p:=⟨w.heap.size,1,none⟩) (by simp)).trans f1
  have HEP:Hid (stepP n.pieces.length ⟨u,way⟩):=Lib.hid ⟨⟨by show (0:Int)≤u;omega,by show (u:Int)≤_;omega⟩,HW.out⟩
  obtain ⟨e0,HE⟩:∃e0,Hid (headE u way=e0):=⟨_,Lib.hid rfl⟩
  have HEO:Hid (endP n.pieces.length e0):=Lib.hid (by rw [←HE.out];exact head_ok HEP.out)
  obtain ⟨j,k,x,hat,hjk,hx,hP,hjl,hkl⟩:=at_get hg.out HEO.out
  have HA:=Lib.hid hjk
  have HX:=Lib.hid hx
  have HAT:=Lib.hid hat
  have HAH:Hid (atJ n (headE u way)=(j,k)):=Lib.hid (by rw [HE.out];exact hjk)
  have HJP:=Lib.hid hP
  clear hjk hx hat hP
  have hlen:=HL.out
  have a63:acc.length+1≤maxLen:=by simp only [maxLen];omega
  have aby:(acc.length+1)*24≤140737488355328:=by omega
  have m0:(0:Int)≤(j:Int):=Int.natCast_nonneg _
  have m1:(j:Int) < (n.joints.length:Int):=by omega
  have HOL:=Lib.hid HR.out.lt
  rcases HW.out with rfl | rfl
  ·have y0:=HX0.out.cell 0 rfl
   have y1:=HX0.out.cell 1 rfl
   have y2:=HX0.out.cell 2 rfl
   rw [show atOf n u 1 far=far from rfl] at y1
   rcases Int.lt_trichotomy left (z1 - far) with hq | hq | hq
   ·have d1:decide (left < z1 - far)=true:=decide_eq_true (by omega)
    have d3:decide (0 < left)=true:=decide_eq_true (by omega)
    have HT:Hid (tilOf n u far left=far+left):=Lib.hid (by unfold tilOf;rw [HP.out,if_pos (by omega)])
    obtain ⟨P,HPt⟩:∃P,Hid (partN n u (1) far (far+left)=P):=⟨_,Lib.hid rfl⟩
    go_wp2_with fail
    refine (implLooked _ _ _).mono ?_
    rintro e w1 ⟨rfl,hb1⟩
    rw [HE.out]
    obtain ⟨c0',c1',c2',c3',c4',c5',c6'⟩:w1.cell? ⟨w.heap.size,0,none⟩=some (.slice (some ad) n.pieces.length c0)∧w1.cell? ⟨w.heap.size,1,none⟩=some (.slice A1 n.joints.length c1)∧w1.cell? ⟨w.heap.size+1,0,none⟩=some (.int .i64 u)∧w1.cell? ⟨w.heap.size+1,1,none⟩=some (.int .i64 (far))∧w1.cell? ⟨w.heap.size+1,2,none⟩=some (.int .i64 (1))∧w.heap.size < w1.heap.size∧w.heap.size+1 < w1.heap.size :=
     ⟨cell_below hb1 q0,cell_below hb1 q1,cell_below hb1 y0,cell_below hb1 y1,cell_below hb1 y2,by have:=hb1.size;omega,by have:=hb1.size;omega⟩
    have l9:=cell_below hb1 g1
    have l8:(ad.add (u*4)).block < w1.heap.size:=World.block_lt_of_cell? w1 ⟨(ad.add (u*4)).block,(ad.add (u*4)).off+1,none⟩ l9
    have hwr:IntKind.i64.wrap (z1 - far)=z1 - far:=wrap_small (by omega) (by omega)
    go_wp2
    go_quiet (fail)
    go_wp2_with fail
    obtain ⟨W1,hW1,hBB,hEB,hs2⟩:∃W,W=(w1.alloc (.cells #[.int .i64 e0.piece,.int .i64 e0.side] 102)).drewN nq∧Below wr.heap.size wr W∧Hid (Blk W w1.heap.size 102 [.int .i64 e0.piece,.int .i64 e0.side])∧w1.heap.size < W.heap.size:=⟨_,rfl,below_drewN (hb1.alloc hb1.size _) _,Lib.hid (Blk.new _ _ _ rfl),by simp⟩
    rw [←hW1]
    clear hW1 c0' c1' c2' c3' c4' c5' c6' l8 l9
    refine (partOf_q (P:=P) (by rw [←HPt.out,partN_fwd];congr 1 <;> omega)).mono ?_
    rintro e w2 ⟨rfl,hb2⟩
    have hbx:=hBB.trans (hb2.mono hBB.size)
    have hbo:=hb1.size
    have HR1:=Lib.hid ((HR.out.below hbx).below (below_alloc w2 (.cells #[.int .i64 P.piece,.int .i64 P.frm,.int .i64 P.til] 48)))
    clear g0 g1 g2 g3 HR q0 q1 y0 y1 y2
    go_wp2_with (at_builtin;refine wpList_append_rw _ rfl (.tmp 42) (.tmp 55) 41 rfl 48 i0 _ 24 Try.underlying41 hi hz0 hz1 hz2 rfl (by decide) (.slice Ao acc.length co) acc [P] rfl HR1.out (fun _ h=>h.elim) (some ⟨w2.heap.size,0,none⟩) 1 1 rfl rfl (Kn.Src.one (partK_mk _ _ P) (new_cells _ _ _ rfl)) a63 aby ?_;intro v' w3 HR2 hg2 hat2;obtain ⟨A2,c2,rfl,hc2⟩:=HR2.form1;obtain ⟨b0,b1,b2,b3,b4,b5⟩:=behind_cells hb hbo hBB hb2 hg2 HO.out HOL.out hEB.out HX0.out hs1;have u0:w3.cell? ⟨w.heap.size,0,none⟩=some (.slice (some ad) n.pieces.length c0):=(b0.cell (p:=⟨w.heap.size,0,none⟩) (by simp)).trans f0;have u1:w3.cell? ⟨w.heap.size,1,none⟩=some (.slice A1 n.joints.length c1):=(b0.cell (p:=⟨w.heap.size,1,none⟩) (by simp)).trans f1;have v0:=b1.cell 0 rfl;have v1:=b1.cell 1 rfl;have hs4:w.heap.size < w3.heap.size:=by omega)
    have HO2:=Lib.hid (own_next HO.out hat2 (by rw [size_alloc];omega))
    have HR2:=Lib.hid HR2
    have HB2:=Lib.hid b2
    have hbW:=HB0.trans (b0.mono (by omega:w.heap.size≤w.heap.size+1))
    clear hg2 hat2 hbx hBB hb2 HR1 hb1 hEB HO HOL b1 b2 hbo hsr0 hsr1 b5 hs2
    refine (implAt n (some ad) A1 c0 c1 e0 _ (h.below hbW) hg HEO).mono ?_
    rintro e w4 ⟨rfl,hb4⟩
    rw [HA.out]
    have hbY:=b0.trans (hb4.mono (by omega))
    have hbZ:=HB0.trans (hbY.mono (by omega:w.heap.size≤w.heap.size+1))
    obtain ⟨a1,rfl,y,E1,A3,c3,r0,r1,r2,l2,C2⟩:=jointK_at (Kn.C_below hbZ h.j) j hjl
    have hy:=HAT.out.1.symm.trans E1.out
    injection hy with hy
    subst hy
    have hme:=C2.1
    have u2:=cell_below hb4 u0
    have u3:=cell_below hb4 u1
    have v2:=cell_below hb4 v0
    have v3:=cell_below hb4 v1
    have HR4:=Lib.hid (HR2.out.below hb4)
    have HB4:=Lib.hid (HB2.out.below hb4 (by omega))
    have hs5:w.heap.size < w4.heap.size:=by have:=hb4.size;omega
    have hs6:w1.heap.size < w4.heap.size:=by have:=hb4.size;omega
    have hs9:w.heap.size+1 < w4.heap.size:=by have:=hb4.size;omega
    clear u0 u1 v0 v1 HR2 HB2 b3 b4 hs4
    by_cases hk:x.kind=2
    rotate_left
    ·have d4:(x.kind != 2)=true:=int_net hk
     have HEN:Hid (acc++[P]=goal):=Lib.hid (by have:=beyond_end HB.out HM.out (by omega) HAH.out HX.out (.inr hk);rw [HT.out,HPt.out] at this;exact this)
     clear hk
     go_wp2
     go_ret
     exact ⟨_,rfl,by rw [←HEN.out];exact HR4.out,fun b hb=>by have:=HO2.out b hb;omega,hbZ⟩
    have d4:(x.kind != 2)=false:=int_nef hk
    have hlen2:x.ends.length=2:=by have:=HJP.out.2.1;omega
    obtain ⟨m',hmm,hsp⟩:=beyond_spl HB.out HM.out (by omega) HAH.out HX.out hk
    rw [HT.out,HPt.out] at hsp
    have HSP:=Lib.hid hsp
    have HMM:=Lib.hid hmm
    have HEK:Hid (endP n.pieces.length (en x (1 - k))):=Lib.hid (en_ok HJP.out (by omega))
    obtain ⟨u',s',HEN⟩:∃(u':Nat) (s':Int),Hid (en x (1 - k)=⟨u',s'⟩):=⟨(en x (1 - k)).piece.toNat,(en x (1 - k)).side,Lib.hid (by have:=HEK.out.1.1;rw [Int.toNat_of_nonneg this])⟩
    have hu':u' < n.pieces.length:=by have:=HEK.out;rw [HEN.out] at this;obtain ⟨⟨b1,b2⟩,b3,b4⟩:=this;simp only at b1 b2 b3 b4;omega
    have HEE:Hid (endP n.pieces.length ⟨u',s'⟩):=Lib.hid (by rw [←HEN.out];exact HEK.out)
    have HPL:Hid (0 < pl n u'):=Lib.hid (by have:=pl_in hg.out (p:=(u':Int)) (by omega) (by omega);omega)
    have HXS:Hid (across (jt n (atJ n e0).1) (atJ n e0).2=[⟨u',s'⟩]∧howOf (jt n (atJ n e0).1) (atJ n e0).2=[0]):=Lib.hid (by rw [HA.out];simp only;rw [HX.out,across_plain hk,how_plain hk,HEN.out];exact ⟨rfl,rfl⟩)
    clear hk hlen2 hmm hsp r1 r2
    go_wp2_with fail
    refine (implOver n (some ad) (some a1) c0 c1 e0 _ (h.below hbZ) hg HEO).mono ?_
    rintro e w5 hov
    obtain ⟨Al,cl,Bl,dl,rfl,hcl,hAl,hBl,hb5⟩:=hov.to HXS.out.1 HXS.out.2
    obtain ⟨al,rfl,t0,t1,t2⟩:=endC_head hAl
    have hbV:=hbY.trans (hb5.mono (by omega:w.heap.size+1≤w4.heap.size))
    have hbU:=HB0.trans (hbV.mono (by omega:w.heap.size≤w.heap.size+1))
    have u4:=cell_below hb5 u2
    have u5:=cell_below hb5 u3
    have HB5:=Lib.hid (HB4.out.below hb5 (by omega))
    have HR5:=Lib.hid (HR4.out.below hb5)
    have hs7:w.heap.size < w5.heap.size:=by have:=hb5.size;omega
    have hs8:w.heap.size+1 < w5.heap.size:=by have:=hb5.size;omega
    have z7:=HB5.out.cell 0 rfl
    have z8:=HB5.out.cell 1 rfl
    have z9:=HB5.out.cell 2 rfl
    have z4:=HB5.out.frozen 0
    have z5:=HB5.out.frozen 1
    have z6:=HB5.out.frozen 2
    clear u2 u3 v2 v3 r0 HB4 HR4 hs5 hs6 hov hb4 C2 E1
    simp only [List.length_singleton]
    go_wp2_with fail
    go_region_with ((go_at_call 104;go_loud ((with_reducible refine (implEnter n _ (some ad) c0 ⟨u',s'⟩ _ (C_dr (Kn.C_below hbU h.p)) hg HEE.out).mono ?_);rintro e w6 ⟨rfl,hb6⟩;have B6:=(Blk_drew HB5.out).below hb6 hs8;have z7:=B6.cell 0 rfl;have z8:=B6.cell 1 rfl;have z9:=B6.cell 2 rfl;have z4:=B6.frozen 0;have z5:=B6.frozen 1;have z6:=B6.frozen 2;have hs9:w.heap.size+1 < w6.heap.size:=B6.lt;have HB6:=Lib.hid B6;clear B6)))
    all_goals go_wp2
    all_goals go_roundw
    all_goals first | (simp [intOf];omega) | exact ⟨m',u',wayOf ⟨u',s'⟩,0,0,acc++[P],by first | rfl | go_num,hu',by omega,by omega,Lib.hid (step_of_end HEE.out).2,HPL,Lib.hid (by have:=HSP.out;rw [HEN.out,show left - ((far+left) - far)=0 by omega] at this;exact this),Lib.hid (by have:=HM.out;have:=HMM.out;omega),Lib.hid (Kn.Rw.move (fun q hq=>place_far _ _ _ (by have:=HO2.out q hq;omega)) (fun _ h=>h.elim) (HR5.out.below (hb6:Below w5.heap.size w5.drew _))),HO2,Lib.hid ⟨by omega,by rw [List.length_append,List.length_singleton];omega⟩,Lib.hid (place_set _ _ _ HB6.out),place_below _ _ _ (hbV.drew.trans (hb6.mono (by show _≤w5.heap.size;omega))) (Nat.le_refl _)⟩
   ·have hq1:left≤z1 - far:=by omega
    have hq2:z1 - far≤left:=by omega
    clear hq
    have d1:decide (left < z1 - far)=false:=decide_eq_false (by omega)
    have d3:decide (0 < z1 - far)=true:=decide_eq_true (by omega)
    have HT:Hid (tilOf n u far left=far+left):=Lib.hid (by unfold tilOf;rw [HP.out,if_pos (by omega)])
    obtain ⟨P,HPt⟩:∃P,Hid (partN n u (1) far (far+left)=P):=⟨_,Lib.hid rfl⟩
    go_wp2_with fail
    refine (implLooked _ _ _).mono ?_
    rintro e w1 ⟨rfl,hb1⟩
    rw [HE.out]
    obtain ⟨c0',c1',c2',c3',c4',c5',c6'⟩:w1.cell? ⟨w.heap.size,0,none⟩=some (.slice (some ad) n.pieces.length c0)∧w1.cell? ⟨w.heap.size,1,none⟩=some (.slice A1 n.joints.length c1)∧w1.cell? ⟨w.heap.size+1,0,none⟩=some (.int .i64 u)∧w1.cell? ⟨w.heap.size+1,1,none⟩=some (.int .i64 (far))∧w1.cell? ⟨w.heap.size+1,2,none⟩=some (.int .i64 (1))∧w.heap.size < w1.heap.size∧w.heap.size+1 < w1.heap.size :=
     ⟨cell_below hb1 q0,cell_below hb1 q1,cell_below hb1 y0,cell_below hb1 y1,cell_below hb1 y2,by have:=hb1.size;omega,by have:=hb1.size;omega⟩
    have l9:=cell_below hb1 g1
    have l8:(ad.add (u*4)).block < w1.heap.size:=World.block_lt_of_cell? w1 ⟨(ad.add (u*4)).block,(ad.add (u*4)).off+1,none⟩ l9
    have hwr:IntKind.i64.wrap (z1 - far)=z1 - far:=wrap_small (by omega) (by omega)
    go_wp2
    go_quiet (fail)
    go_wp2_with fail
    obtain ⟨W1,hW1,hBB,hEB,hs2⟩:∃W,W=(w1.alloc (.cells #[.int .i64 e0.piece,.int .i64 e0.side] 102)).drewN nq∧Below wr.heap.size wr W∧Hid (Blk W w1.heap.size 102 [.int .i64 e0.piece,.int .i64 e0.side])∧w1.heap.size < W.heap.size:=⟨_,rfl,below_drewN (hb1.alloc hb1.size _) _,Lib.hid (Blk.new _ _ _ rfl),by simp⟩
    rw [←hW1]
    clear hW1 c0' c1' c2' c3' c4' c5' c6' l8 l9
    refine (partOf_q (P:=P) (by rw [←HPt.out,partN_fwd];congr 1 <;> omega)).mono ?_
    rintro e w2 ⟨rfl,hb2⟩
    have hbx:=hBB.trans (hb2.mono hBB.size)
    have hbo:=hb1.size
    have HR1:=Lib.hid ((HR.out.below hbx).below (below_alloc w2 (.cells #[.int .i64 P.piece,.int .i64 P.frm,.int .i64 P.til] 48)))
    clear g0 g1 g2 g3 HR q0 q1 y0 y1 y2
    go_wp2_with (at_builtin;refine wpList_append_rw _ rfl (.tmp 42) (.tmp 55) 41 rfl 48 i0 _ 24 Try.underlying41 hi hz0 hz1 hz2 rfl (by decide) (.slice Ao acc.length co) acc [P] rfl HR1.out (fun _ h=>h.elim) (some ⟨w2.heap.size,0,none⟩) 1 1 rfl rfl (Kn.Src.one (partK_mk _ _ P) (new_cells _ _ _ rfl)) a63 aby ?_;intro v' w3 HR2 hg2 hat2;obtain ⟨A2,c2,rfl,hc2⟩:=HR2.form1;obtain ⟨b0,b1,b2,b3,b4,b5⟩:=behind_cells hb hbo hBB hb2 hg2 HO.out HOL.out hEB.out HX0.out hs1;have u0:w3.cell? ⟨w.heap.size,0,none⟩=some (.slice (some ad) n.pieces.length c0):=(b0.cell (p:=⟨w.heap.size,0,none⟩) (by simp)).trans f0;have u1:w3.cell? ⟨w.heap.size,1,none⟩=some (.slice A1 n.joints.length c1):=(b0.cell (p:=⟨w.heap.size,1,none⟩) (by simp)).trans f1;have v0:=b1.cell 0 rfl;have v1:=b1.cell 1 rfl;have hs4:w.heap.size < w3.heap.size:=by omega)
    have HO2:=Lib.hid (own_next HO.out hat2 (by rw [size_alloc];omega))
    have HR2:=Lib.hid HR2
    have HB2:=Lib.hid b2
    have hbW:=HB0.trans (b0.mono (by omega:w.heap.size≤w.heap.size+1))
    clear hg2 hat2 hbx hBB hb2 HR1 hb1 hEB HO HOL b1 b2 hbo hsr0 hsr1 b5 hs2
    refine (implAt n (some ad) A1 c0 c1 e0 _ (h.below hbW) hg HEO).mono ?_
    rintro e w4 ⟨rfl,hb4⟩
    rw [HA.out]
    have hbY:=b0.trans (hb4.mono (by omega))
    have hbZ:=HB0.trans (hbY.mono (by omega:w.heap.size≤w.heap.size+1))
    obtain ⟨a1,rfl,y,E1,A3,c3,r0,r1,r2,l2,C2⟩:=jointK_at (Kn.C_below hbZ h.j) j hjl
    have hy:=HAT.out.1.symm.trans E1.out
    injection hy with hy
    subst hy
    have hme:=C2.1
    have u2:=cell_below hb4 u0
    have u3:=cell_below hb4 u1
    have v2:=cell_below hb4 v0
    have v3:=cell_below hb4 v1
    have HR4:=Lib.hid (HR2.out.below hb4)
    have HB4:=Lib.hid (HB2.out.below hb4 (by omega))
    have hs5:w.heap.size < w4.heap.size:=by have:=hb4.size;omega
    have hs6:w1.heap.size < w4.heap.size:=by have:=hb4.size;omega
    have hs9:w.heap.size+1 < w4.heap.size:=by have:=hb4.size;omega
    clear u0 u1 v0 v1 HR2 HB2 b3 b4 hs4
    by_cases hk:x.kind=2
    rotate_left
    ·have d4:(x.kind != 2)=true:=int_net hk
     have HEN:Hid (acc++[P]=goal):=Lib.hid (by have:=beyond_end HB.out HM.out (by omega) HAH.out HX.out (.inr hk);rw [HT.out,HPt.out] at this;exact this)
     clear hk
     go_wp2
     go_ret
     exact ⟨_,rfl,by rw [←HEN.out];exact HR4.out,fun b hb=>by have:=HO2.out b hb;omega,hbZ⟩
    have d4:(x.kind != 2)=false:=int_nef hk
    have hlen2:x.ends.length=2:=by have:=HJP.out.2.1;omega
    obtain ⟨m',hmm,hsp⟩:=beyond_spl HB.out HM.out (by omega) HAH.out HX.out hk
    rw [HT.out,HPt.out] at hsp
    have HSP:=Lib.hid hsp
    have HMM:=Lib.hid hmm
    have HEK:Hid (endP n.pieces.length (en x (1 - k))):=Lib.hid (en_ok HJP.out (by omega))
    obtain ⟨u',s',HEN⟩:∃(u':Nat) (s':Int),Hid (en x (1 - k)=⟨u',s'⟩):=⟨(en x (1 - k)).piece.toNat,(en x (1 - k)).side,Lib.hid (by have:=HEK.out.1.1;rw [Int.toNat_of_nonneg this])⟩
    have hu':u' < n.pieces.length:=by have:=HEK.out;rw [HEN.out] at this;obtain ⟨⟨b1,b2⟩,b3,b4⟩:=this;simp only at b1 b2 b3 b4;omega
    have HEE:Hid (endP n.pieces.length ⟨u',s'⟩):=Lib.hid (by rw [←HEN.out];exact HEK.out)
    have HPL:Hid (0 < pl n u'):=Lib.hid (by have:=pl_in hg.out (p:=(u':Int)) (by omega) (by omega);omega)
    have HXS:Hid (across (jt n (atJ n e0).1) (atJ n e0).2=[⟨u',s'⟩]∧howOf (jt n (atJ n e0).1) (atJ n e0).2=[0]):=Lib.hid (by rw [HA.out];simp only;rw [HX.out,across_plain hk,how_plain hk,HEN.out];exact ⟨rfl,rfl⟩)
    clear hk hlen2 hmm hsp r1 r2
    go_wp2_with fail
    refine (implOver n (some ad) (some a1) c0 c1 e0 _ (h.below hbZ) hg HEO).mono ?_
    rintro e w5 hov
    obtain ⟨Al,cl,Bl,dl,rfl,hcl,hAl,hBl,hb5⟩:=hov.to HXS.out.1 HXS.out.2
    obtain ⟨al,rfl,t0,t1,t2⟩:=endC_head hAl
    have hbV:=hbY.trans (hb5.mono (by omega:w.heap.size+1≤w4.heap.size))
    have hbU:=HB0.trans (hbV.mono (by omega:w.heap.size≤w.heap.size+1))
    have u4:=cell_below hb5 u2
    have u5:=cell_below hb5 u3
    have HB5:=Lib.hid (HB4.out.below hb5 (by omega))
    have HR5:=Lib.hid (HR4.out.below hb5)
    have hs7:w.heap.size < w5.heap.size:=by have:=hb5.size;omega
    have hs8:w.heap.size+1 < w5.heap.size:=by have:=hb5.size;omega
    have z7:=HB5.out.cell 0 rfl
    have z8:=HB5.out.cell 1 rfl
    have z9:=HB5.out.cell 2 rfl
    have z4:=HB5.out.frozen 0
    have z5:=HB5.out.frozen 1
    have z6:=HB5.out.frozen 2
    clear u2 u3 v2 v3 r0 HB4 HR4 hs5 hs6 hov hb4 C2 E1
    simp only [List.length_singleton]
    go_wp2_with fail
    go_region_with ((go_at_call 104;go_loud ((with_reducible refine (implEnter n _ (some ad) c0 ⟨u',s'⟩ _ (C_dr (Kn.C_below hbU h.p)) hg HEE.out).mono ?_);rintro e w6 ⟨rfl,hb6⟩;have B6:=(Blk_drew HB5.out).below hb6 hs8;have z7:=B6.cell 0 rfl;have z8:=B6.cell 1 rfl;have z9:=B6.cell 2 rfl;have z4:=B6.frozen 0;have z5:=B6.frozen 1;have z6:=B6.frozen 2;have hs9:w.heap.size+1 < w6.heap.size:=B6.lt;have HB6:=Lib.hid B6;clear B6)))
    all_goals go_wp2
    all_goals go_roundw
    all_goals first | (simp [intOf];omega) | exact ⟨m',u',wayOf ⟨u',s'⟩,0,left - (z1 - far),acc++[P],by first | rfl | go_num,hu',by omega,by omega,Lib.hid (step_of_end HEE.out).2,HPL,Lib.hid (by have:=HSP.out;rw [HEN.out,show left - ((far+left) - far)=left - (z1 - far) by omega] at this;exact this),Lib.hid (by have:=HM.out;have:=HMM.out;omega),Lib.hid (Kn.Rw.move (fun q hq=>place_far _ _ _ (by have:=HO2.out q hq;omega)) (fun _ h=>h.elim) (HR5.out.below (hb6:Below w5.heap.size w5.drew _))),HO2,Lib.hid ⟨by omega,by rw [List.length_append,List.length_singleton];omega⟩,Lib.hid (place_set _ _ _ HB6.out),place_below _ _ _ (hbV.drew.trans (hb6.mono (by show _≤w5.heap.size;omega))) (Nat.le_refl _)⟩
   ·have d1:decide (left < z1 - far)=false:=decide_eq_false (by omega)
    have d3:decide (0 < z1 - far)=true:=decide_eq_true (by omega)
    have HT:Hid (tilOf n u far left=z1):=Lib.hid (by unfold tilOf;rw [HP.out,if_neg (by omega)])
    obtain ⟨P,HPt⟩:∃P,Hid (partN n u (1) far (z1)=P):=⟨_,Lib.hid rfl⟩
    go_wp2_with fail
    refine (implLooked _ _ _).mono ?_
    rintro e w1 ⟨rfl,hb1⟩
    rw [HE.out]
    obtain ⟨c0',c1',c2',c3',c4',c5',c6'⟩:w1.cell? ⟨w.heap.size,0,none⟩=some (.slice (some ad) n.pieces.length c0)∧w1.cell? ⟨w.heap.size,1,none⟩=some (.slice A1 n.joints.length c1)∧w1.cell? ⟨w.heap.size+1,0,none⟩=some (.int .i64 u)∧w1.cell? ⟨w.heap.size+1,1,none⟩=some (.int .i64 (far))∧w1.cell? ⟨w.heap.size+1,2,none⟩=some (.int .i64 (1))∧w.heap.size < w1.heap.size∧w.heap.size+1 < w1.heap.size :=
     ⟨cell_below hb1 q0,cell_below hb1 q1,cell_below hb1 y0,cell_below hb1 y1,cell_below hb1 y2,by have:=hb1.size;omega,by have:=hb1.size;omega⟩
    have l9:=cell_below hb1 g1
    have l8:(ad.add (u*4)).block < w1.heap.size:=World.block_lt_of_cell? w1 ⟨(ad.add (u*4)).block,(ad.add (u*4)).off+1,none⟩ l9
    have hwr:IntKind.i64.wrap (z1 - far)=z1 - far:=wrap_small (by omega) (by omega)
    go_wp2
    go_quiet (fail)
    go_wp2_with fail
    obtain ⟨W1,hW1,hBB,hEB,hs2⟩:∃W,W=(w1.alloc (.cells #[.int .i64 e0.piece,.int .i64 e0.side] 102)).drewN nq∧Below wr.heap.size wr W∧Hid (Blk W w1.heap.size 102 [.int .i64 e0.piece,.int .i64 e0.side])∧w1.heap.size < W.heap.size:=⟨_,rfl,below_drewN (hb1.alloc hb1.size _) _,Lib.hid (Blk.new _ _ _ rfl),by simp⟩
    rw [←hW1]
    clear hW1 c0' c1' c2' c3' c4' c5' c6' l8 l9
    refine (partOf_q (P:=P) (by rw [←HPt.out,partN_fwd];congr 1 <;> omega)).mono ?_
    rintro e w2 ⟨rfl,hb2⟩
    have hbx:=hBB.trans (hb2.mono hBB.size)
    have hbo:=hb1.size
    have HR1:=Lib.hid ((HR.out.below hbx).below (below_alloc w2 (.cells #[.int .i64 P.piece,.int .i64 P.frm,.int .i64 P.til] 48)))
    clear g0 g1 g2 g3 HR q0 q1 y0 y1 y2
    go_wp2_with (at_builtin;refine wpList_append_rw _ rfl (.tmp 42) (.tmp 55) 41 rfl 48 i0 _ 24 Try.underlying41 hi hz0 hz1 hz2 rfl (by decide) (.slice Ao acc.length co) acc [P] rfl HR1.out (fun _ h=>h.elim) (some ⟨w2.heap.size,0,none⟩) 1 1 rfl rfl (Kn.Src.one (partK_mk _ _ P) (new_cells _ _ _ rfl)) a63 aby ?_;intro v' w3 HR2 hg2 hat2;obtain ⟨A2,c2,rfl,hc2⟩:=HR2.form1;obtain ⟨b0,b1,b2,b3,b4,b5⟩:=behind_cells hb hbo hBB hb2 hg2 HO.out HOL.out hEB.out HX0.out hs1;have u0:w3.cell? ⟨w.heap.size,0,none⟩=some (.slice (some ad) n.pieces.length c0):=(b0.cell (p:=⟨w.heap.size,0,none⟩) (by simp)).trans f0;have u1:w3.cell? ⟨w.heap.size,1,none⟩=some (.slice A1 n.joints.length c1):=(b0.cell (p:=⟨w.heap.size,1,none⟩) (by simp)).trans f1;have v0:=b1.cell 0 rfl;have v1:=b1.cell 1 rfl;have hs4:w.heap.size < w3.heap.size:=by omega)
    have HO2:=Lib.hid (own_next HO.out hat2 (by rw [size_alloc];omega))
    have HR2:=Lib.hid HR2
    have HB2:=Lib.hid b2
    have hbW:=HB0.trans (b0.mono (by omega:w.heap.size≤w.heap.size+1))
    clear hg2 hat2 hbx hBB hb2 HR1 hb1 hEB HO HOL b1 b2 hbo hsr0 hsr1 b5 hs2
    refine (implAt n (some ad) A1 c0 c1 e0 _ (h.below hbW) hg HEO).mono ?_
    rintro e w4 ⟨rfl,hb4⟩
    rw [HA.out]
    have hbY:=b0.trans (hb4.mono (by omega))
    have hbZ:=HB0.trans (hbY.mono (by omega:w.heap.size≤w.heap.size+1))
    obtain ⟨a1,rfl,y,E1,A3,c3,r0,r1,r2,l2,C2⟩:=jointK_at (Kn.C_below hbZ h.j) j hjl
    have hy:=HAT.out.1.symm.trans E1.out
    injection hy with hy
    subst hy
    have hme:=C2.1
    have u2:=cell_below hb4 u0
    have u3:=cell_below hb4 u1
    have v2:=cell_below hb4 v0
    have v3:=cell_below hb4 v1
    have HR4:=Lib.hid (HR2.out.below hb4)
    have HB4:=Lib.hid (HB2.out.below hb4 (by omega))
    have hs5:w.heap.size < w4.heap.size:=by have:=hb4.size;omega
    have hs6:w1.heap.size < w4.heap.size:=by have:=hb4.size;omega
    have hs9:w.heap.size+1 < w4.heap.size:=by have:=hb4.size;omega
    clear u0 u1 v0 v1 HR2 HB2 b3 b4 hs4
    by_cases hk:x.kind=2
    rotate_left
    ·have d4:(x.kind != 2)=true:=int_net hk
     have HEN:Hid (acc++[P]=goal):=Lib.hid (by have:=beyond_end HB.out HM.out (by omega) HAH.out HX.out (.inr hk);rw [HT.out,HPt.out] at this;exact this)
     clear hk
     go_wp2
     go_ret
     exact ⟨_,rfl,by rw [←HEN.out];exact HR4.out,fun b hb=>by have:=HO2.out b hb;omega,hbZ⟩
    have d4:(x.kind != 2)=false:=int_nef hk
    have hlen2:x.ends.length=2:=by have:=HJP.out.2.1;omega
    obtain ⟨m',hmm,hsp⟩:=beyond_spl HB.out HM.out (by omega) HAH.out HX.out hk
    rw [HT.out,HPt.out] at hsp
    have HSP:=Lib.hid hsp
    have HMM:=Lib.hid hmm
    have HEK:Hid (endP n.pieces.length (en x (1 - k))):=Lib.hid (en_ok HJP.out (by omega))
    obtain ⟨u',s',HEN⟩:∃(u':Nat) (s':Int),Hid (en x (1 - k)=⟨u',s'⟩):=⟨(en x (1 - k)).piece.toNat,(en x (1 - k)).side,Lib.hid (by have:=HEK.out.1.1;rw [Int.toNat_of_nonneg this])⟩
    have hu':u' < n.pieces.length:=by have:=HEK.out;rw [HEN.out] at this;obtain ⟨⟨b1,b2⟩,b3,b4⟩:=this;simp only at b1 b2 b3 b4;omega
    have HEE:Hid (endP n.pieces.length ⟨u',s'⟩):=Lib.hid (by rw [←HEN.out];exact HEK.out)
    have HPL:Hid (0 < pl n u'):=Lib.hid (by have:=pl_in hg.out (p:=(u':Int)) (by omega) (by omega);omega)
    have HXS:Hid (across (jt n (atJ n e0).1) (atJ n e0).2=[⟨u',s'⟩]∧howOf (jt n (atJ n e0).1) (atJ n e0).2=[0]):=Lib.hid (by rw [HA.out];simp only;rw [HX.out,across_plain hk,how_plain hk,HEN.out];exact ⟨rfl,rfl⟩)
    clear hk hlen2 hmm hsp r1 r2
    go_wp2_with fail
    refine (implOver n (some ad) (some a1) c0 c1 e0 _ (h.below hbZ) hg HEO).mono ?_
    rintro e w5 hov
    obtain ⟨Al,cl,Bl,dl,rfl,hcl,hAl,hBl,hb5⟩:=hov.to HXS.out.1 HXS.out.2
    obtain ⟨al,rfl,t0,t1,t2⟩:=endC_head hAl
    have hbV:=hbY.trans (hb5.mono (by omega:w.heap.size+1≤w4.heap.size))
    have hbU:=HB0.trans (hbV.mono (by omega:w.heap.size≤w.heap.size+1))
    have u4:=cell_below hb5 u2
    have u5:=cell_below hb5 u3
    have HB5:=Lib.hid (HB4.out.below hb5 (by omega))
    have HR5:=Lib.hid (HR4.out.below hb5)
    have hs7:w.heap.size < w5.heap.size:=by have:=hb5.size;omega
    have hs8:w.heap.size+1 < w5.heap.size:=by have:=hb5.size;omega
    have z7:=HB5.out.cell 0 rfl
    have z8:=HB5.out.cell 1 rfl
    have z9:=HB5.out.cell 2 rfl
    have z4:=HB5.out.frozen 0
    have z5:=HB5.out.frozen 1
    have z6:=HB5.out.frozen 2
    clear u2 u3 v2 v3 r0 HB4 HR4 hs5 hs6 hov hb4 C2 E1
    simp only [List.length_singleton]
    go_wp2_with fail
    go_region_with ((go_at_call 104;go_loud ((with_reducible refine (implEnter n _ (some ad) c0 ⟨u',s'⟩ _ (C_dr (Kn.C_below hbU h.p)) hg HEE.out).mono ?_);rintro e w6 ⟨rfl,hb6⟩;have B6:=(Blk_drew HB5.out).below hb6 hs8;have z7:=B6.cell 0 rfl;have z8:=B6.cell 1 rfl;have z9:=B6.cell 2 rfl;have z4:=B6.frozen 0;have z5:=B6.frozen 1;have z6:=B6.frozen 2;have hs9:w.heap.size+1 < w6.heap.size:=B6.lt;have HB6:=Lib.hid B6;clear B6)))
    all_goals go_wp2
    all_goals go_roundw
    all_goals first | (simp [intOf];omega) | exact ⟨m',u',wayOf ⟨u',s'⟩,0,left - (z1 - far),acc++[P],by first | rfl | go_num,hu',by omega,by omega,Lib.hid (step_of_end HEE.out).2,HPL,Lib.hid (by have:=HSP.out;rw [HEN.out,show left - ((z1) - far)=left - (z1 - far) by omega] at this;exact this),Lib.hid (by have:=HM.out;have:=HMM.out;omega),Lib.hid (Kn.Rw.move (fun q hq=>place_far _ _ _ (by have:=HO2.out q hq;omega)) (fun _ h=>h.elim) (HR5.out.below (hb6:Below w5.heap.size w5.drew _))),HO2,Lib.hid ⟨by omega,by rw [List.length_append,List.length_singleton];omega⟩,Lib.hid (place_set _ _ _ HB6.out),place_below _ _ _ (hbV.drew.trans (hb6.mono (by show _≤w5.heap.size;omega))) (Nat.le_refl _)⟩
  ·have y0:=HX0.out.cell 0 rfl
   have y1:=HX0.out.cell 1 rfl
   have y2:=HX0.out.cell 2 rfl
   obtain ⟨a,ha⟩:∃a,Hid (a=atOf n u (-1) far):=⟨_,Lib.hid rfl⟩
   rw [←ha.out] at y1
   have ha2:z1 - far≤a∧a≤z1 - far:=by have:=ha.out;unfold atOf at this;rw [if_neg (by decide),HP.out] at this;omega
   obtain ⟨ha3,ha4⟩:=ha2
   rcases Int.lt_trichotomy left (a) with hq | hq | hq
   ·have d1:decide (left < a)=true:=decide_eq_true (by omega)
    have d3:decide (0 < left)=true:=decide_eq_true (by omega)
    have HT:Hid (tilOf n u far left=far+left):=Lib.hid (by unfold tilOf;rw [HP.out,if_pos (by omega)])
    obtain ⟨P,HPt⟩:∃P,Hid (partN n u (-1) far (far+left)=P):=⟨_,Lib.hid rfl⟩
    go_wp2_with fail
    refine (implLooked _ _ _).mono ?_
    rintro e w1 ⟨rfl,hb1⟩
    rw [HE.out]
    obtain ⟨c0',c1',c2',c3',c4',c5',c6'⟩:w1.cell? ⟨w.heap.size,0,none⟩=some (.slice (some ad) n.pieces.length c0)∧w1.cell? ⟨w.heap.size,1,none⟩=some (.slice A1 n.joints.length c1)∧w1.cell? ⟨w.heap.size+1,0,none⟩=some (.int .i64 u)∧w1.cell? ⟨w.heap.size+1,1,none⟩=some (.int .i64 (a))∧w1.cell? ⟨w.heap.size+1,2,none⟩=some (.int .i64 (-1))∧w.heap.size < w1.heap.size∧w.heap.size+1 < w1.heap.size :=
     ⟨cell_below hb1 q0,cell_below hb1 q1,cell_below hb1 y0,cell_below hb1 y1,cell_below hb1 y2,by have:=hb1.size;omega,by have:=hb1.size;omega⟩
    have l9:=cell_below hb1 g1
    have l8:(ad.add (u*4)).block < w1.heap.size:=World.block_lt_of_cell? w1 ⟨(ad.add (u*4)).block,(ad.add (u*4)).off+1,none⟩ l9
    go_wp2_with fail
    obtain ⟨W1,hW1,hBB,hEB,hs2⟩:∃W,W=w1.alloc (.cells #[.int .i64 e0.piece,.int .i64 e0.side] 102)∧Below wr.heap.size wr W∧Hid (Blk W w1.heap.size 102 [.int .i64 e0.piece,.int .i64 e0.side])∧w1.heap.size < W.heap.size:=⟨_,rfl,hb1.alloc hb1.size _,Lib.hid (Blk.new _ _ _ rfl),by simp⟩
    rw [←hW1]
    clear hW1 c0' c1' c2' c3' c4' c5' c6' l8 l9
    refine (partOf_q (P:=P) (by rw [←HPt.out,partN_back,HP.out];congr 1 <;> omega)).mono ?_
    rintro e w2 ⟨rfl,hb2⟩
    have hbx:=hBB.trans (hb2.mono hBB.size)
    have hbo:=hb1.size
    have HR1:=Lib.hid ((HR.out.below hbx).below (below_alloc w2 (.cells #[.int .i64 P.piece,.int .i64 P.frm,.int .i64 P.til] 48)))
    clear g0 g1 g2 g3 HR q0 q1 y0 y1 y2
    go_wp2_with (at_builtin;refine wpList_append_rw _ rfl (.tmp 42) (.tmp 55) 41 rfl 48 i0 _ 24 Try.underlying41 hi hz0 hz1 hz2 rfl (by decide) (.slice Ao acc.length co) acc [P] rfl HR1.out (fun _ h=>h.elim) (some ⟨w2.heap.size,0,none⟩) 1 1 rfl rfl (Kn.Src.one (partK_mk _ _ P) (new_cells _ _ _ rfl)) a63 aby ?_;intro v' w3 HR2 hg2 hat2;obtain ⟨A2,c2,rfl,hc2⟩:=HR2.form1;obtain ⟨b0,b1,b2,b3,b4,b5⟩:=behind_cells hb hbo hBB hb2 hg2 HO.out HOL.out hEB.out HX0.out hs1;have u0:w3.cell? ⟨w.heap.size,0,none⟩=some (.slice (some ad) n.pieces.length c0):=(b0.cell (p:=⟨w.heap.size,0,none⟩) (by simp)).trans f0;have u1:w3.cell? ⟨w.heap.size,1,none⟩=some (.slice A1 n.joints.length c1):=(b0.cell (p:=⟨w.heap.size,1,none⟩) (by simp)).trans f1;have v0:=b1.cell 0 rfl;have v1:=b1.cell 1 rfl;have hs4:w.heap.size < w3.heap.size:=by omega)
    have HO2:=Lib.hid (own_next HO.out hat2 (by rw [size_alloc];omega))
    have HR2:=Lib.hid HR2
    have HB2:=Lib.hid b2
    have hbW:=HB0.trans (b0.mono (by omega:w.heap.size≤w.heap.size+1))
    clear hg2 hat2 hbx hBB hb2 HR1 hb1 hEB HO HOL b1 b2 hbo hsr0 hsr1 b5 hs2
    refine (implAt n (some ad) A1 c0 c1 e0 _ (h.below hbW) hg HEO).mono ?_
    rintro e w4 ⟨rfl,hb4⟩
    rw [HA.out]
    have hbY:=b0.trans (hb4.mono (by omega))
    have hbZ:=HB0.trans (hbY.mono (by omega:w.heap.size≤w.heap.size+1))
    obtain ⟨a1,rfl,y,E1,A3,c3,r0,r1,r2,l2,C2⟩:=jointK_at (Kn.C_below hbZ h.j) j hjl
    have hy:=HAT.out.1.symm.trans E1.out
    injection hy with hy
    subst hy
    have hme:=C2.1
    have u2:=cell_below hb4 u0
    have u3:=cell_below hb4 u1
    have v2:=cell_below hb4 v0
    have v3:=cell_below hb4 v1
    have HR4:=Lib.hid (HR2.out.below hb4)
    have HB4:=Lib.hid (HB2.out.below hb4 (by omega))
    have hs5:w.heap.size < w4.heap.size:=by have:=hb4.size;omega
    have hs6:w1.heap.size < w4.heap.size:=by have:=hb4.size;omega
    have hs9:w.heap.size+1 < w4.heap.size:=by have:=hb4.size;omega
    clear u0 u1 v0 v1 HR2 HB2 b3 b4 hs4
    by_cases hk:x.kind=2
    rotate_left
    ·have d4:(x.kind != 2)=true:=int_net hk
     have HEN:Hid (acc++[P]=goal):=Lib.hid (by have:=beyond_end HB.out HM.out (by omega) HAH.out HX.out (.inr hk);rw [HT.out,HPt.out] at this;exact this)
     clear hk
     go_wp2
     go_ret
     exact ⟨_,rfl,by rw [←HEN.out];exact HR4.out,fun b hb=>by have:=HO2.out b hb;omega,hbZ⟩
    have d4:(x.kind != 2)=false:=int_nef hk
    have hlen2:x.ends.length=2:=by have:=HJP.out.2.1;omega
    obtain ⟨m',hmm,hsp⟩:=beyond_spl HB.out HM.out (by omega) HAH.out HX.out hk
    rw [HT.out,HPt.out] at hsp
    have HSP:=Lib.hid hsp
    have HMM:=Lib.hid hmm
    have HEK:Hid (endP n.pieces.length (en x (1 - k))):=Lib.hid (en_ok HJP.out (by omega))
    obtain ⟨u',s',HEN⟩:∃(u':Nat) (s':Int),Hid (en x (1 - k)=⟨u',s'⟩):=⟨(en x (1 - k)).piece.toNat,(en x (1 - k)).side,Lib.hid (by have:=HEK.out.1.1;rw [Int.toNat_of_nonneg this])⟩
    have hu':u' < n.pieces.length:=by have:=HEK.out;rw [HEN.out] at this;obtain ⟨⟨b1,b2⟩,b3,b4⟩:=this;simp only at b1 b2 b3 b4;omega
    have HEE:Hid (endP n.pieces.length ⟨u',s'⟩):=Lib.hid (by rw [←HEN.out];exact HEK.out)
    have HPL:Hid (0 < pl n u'):=Lib.hid (by have:=pl_in hg.out (p:=(u':Int)) (by omega) (by omega);omega)
    have HXS:Hid (across (jt n (atJ n e0).1) (atJ n e0).2=[⟨u',s'⟩]∧howOf (jt n (atJ n e0).1) (atJ n e0).2=[0]):=Lib.hid (by rw [HA.out];simp only;rw [HX.out,across_plain hk,how_plain hk,HEN.out];exact ⟨rfl,rfl⟩)
    clear hk hlen2 hmm hsp r1 r2
    go_wp2_with fail
    refine (implOver n (some ad) (some a1) c0 c1 e0 _ (h.below hbZ) hg HEO).mono ?_
    rintro e w5 hov
    obtain ⟨Al,cl,Bl,dl,rfl,hcl,hAl,hBl,hb5⟩:=hov.to HXS.out.1 HXS.out.2
    obtain ⟨al,rfl,t0,t1,t2⟩:=endC_head hAl
    have hbV:=hbY.trans (hb5.mono (by omega:w.heap.size+1≤w4.heap.size))
    have hbU:=HB0.trans (hbV.mono (by omega:w.heap.size≤w.heap.size+1))
    have u4:=cell_below hb5 u2
    have u5:=cell_below hb5 u3
    have HB5:=Lib.hid (HB4.out.below hb5 (by omega))
    have HR5:=Lib.hid (HR4.out.below hb5)
    have hs7:w.heap.size < w5.heap.size:=by have:=hb5.size;omega
    have hs8:w.heap.size+1 < w5.heap.size:=by have:=hb5.size;omega
    have z7:=HB5.out.cell 0 rfl
    have z8:=HB5.out.cell 1 rfl
    have z9:=HB5.out.cell 2 rfl
    have z4:=HB5.out.frozen 0
    have z5:=HB5.out.frozen 1
    have z6:=HB5.out.frozen 2
    clear u2 u3 v2 v3 r0 HB4 HR4 hs5 hs6 hov hb4 C2 E1
    simp only [List.length_singleton]
    go_wp2_with fail
    go_region_with ((go_at_call 104;go_loud ((with_reducible refine (implEnter n _ (some ad) c0 ⟨u',s'⟩ _ (C_dr (Kn.C_below hbU h.p)) hg HEE.out).mono ?_);rintro e w6 ⟨rfl,hb6⟩;have B6:=(Blk_drew HB5.out).below hb6 hs8;have z7:=B6.cell 0 rfl;have z8:=B6.cell 1 rfl;have z9:=B6.cell 2 rfl;have z4:=B6.frozen 0;have z5:=B6.frozen 1;have z6:=B6.frozen 2;have hs9:w.heap.size+1 < w6.heap.size:=B6.lt;have HB6:=Lib.hid B6;clear B6)))
    all_goals go_wp2
    all_goals go_roundw
    all_goals first | (simp [intOf];omega) | exact ⟨m',u',wayOf ⟨u',s'⟩,0,0,acc++[P],by first | rfl | go_num,hu',by omega,by omega,Lib.hid (step_of_end HEE.out).2,HPL,Lib.hid (by have:=HSP.out;rw [HEN.out,show left - ((far+left) - far)=0 by omega] at this;exact this),Lib.hid (by have:=HM.out;have:=HMM.out;omega),Lib.hid (Kn.Rw.move (fun q hq=>place_far _ _ _ (by have:=HO2.out q hq;omega)) (fun _ h=>h.elim) (HR5.out.below (hb6:Below w5.heap.size w5.drew _))),HO2,Lib.hid ⟨by omega,by rw [List.length_append,List.length_singleton];omega⟩,Lib.hid (place_set _ _ _ HB6.out),place_below _ _ _ (hbV.drew.trans (hb6.mono (by show _≤w5.heap.size;omega))) (Nat.le_refl _)⟩
   ·have hq1:left≤a:=by omega
    have hq2:a≤left:=by omega
    clear hq
    have d1:decide (left < a)=false:=decide_eq_false (by omega)
    have d3:decide (0 < a)=true:=decide_eq_true (by omega)
    have HT:Hid (tilOf n u far left=far+left):=Lib.hid (by unfold tilOf;rw [HP.out,if_pos (by omega)])
    obtain ⟨P,HPt⟩:∃P,Hid (partN n u (-1) far (far+left)=P):=⟨_,Lib.hid rfl⟩
    go_wp2_with fail
    refine (implLooked _ _ _).mono ?_
    rintro e w1 ⟨rfl,hb1⟩
    rw [HE.out]
    obtain ⟨c0',c1',c2',c3',c4',c5',c6'⟩:w1.cell? ⟨w.heap.size,0,none⟩=some (.slice (some ad) n.pieces.length c0)∧w1.cell? ⟨w.heap.size,1,none⟩=some (.slice A1 n.joints.length c1)∧w1.cell? ⟨w.heap.size+1,0,none⟩=some (.int .i64 u)∧w1.cell? ⟨w.heap.size+1,1,none⟩=some (.int .i64 (a))∧w1.cell? ⟨w.heap.size+1,2,none⟩=some (.int .i64 (-1))∧w.heap.size < w1.heap.size∧w.heap.size+1 < w1.heap.size :=
     ⟨cell_below hb1 q0,cell_below hb1 q1,cell_below hb1 y0,cell_below hb1 y1,cell_below hb1 y2,by have:=hb1.size;omega,by have:=hb1.size;omega⟩
    have l9:=cell_below hb1 g1
    have l8:(ad.add (u*4)).block < w1.heap.size:=World.block_lt_of_cell? w1 ⟨(ad.add (u*4)).block,(ad.add (u*4)).off+1,none⟩ l9
    go_wp2_with fail
    obtain ⟨W1,hW1,hBB,hEB,hs2⟩:∃W,W=w1.alloc (.cells #[.int .i64 e0.piece,.int .i64 e0.side] 102)∧Below wr.heap.size wr W∧Hid (Blk W w1.heap.size 102 [.int .i64 e0.piece,.int .i64 e0.side])∧w1.heap.size < W.heap.size:=⟨_,rfl,hb1.alloc hb1.size _,Lib.hid (Blk.new _ _ _ rfl),by simp⟩
    rw [←hW1]
    clear hW1 c0' c1' c2' c3' c4' c5' c6' l8 l9
    refine (partOf_q (P:=P) (by rw [←HPt.out,partN_back,HP.out];congr 1 <;> omega)).mono ?_
    rintro e w2 ⟨rfl,hb2⟩
    have hbx:=hBB.trans (hb2.mono hBB.size)
    have hbo:=hb1.size
    have HR1:=Lib.hid ((HR.out.below hbx).below (below_alloc w2 (.cells #[.int .i64 P.piece,.int .i64 P.frm,.int .i64 P.til] 48)))
    clear g0 g1 g2 g3 HR q0 q1 y0 y1 y2
    go_wp2_with (at_builtin;refine wpList_append_rw _ rfl (.tmp 42) (.tmp 55) 41 rfl 48 i0 _ 24 Try.underlying41 hi hz0 hz1 hz2 rfl (by decide) (.slice Ao acc.length co) acc [P] rfl HR1.out (fun _ h=>h.elim) (some ⟨w2.heap.size,0,none⟩) 1 1 rfl rfl (Kn.Src.one (partK_mk _ _ P) (new_cells _ _ _ rfl)) a63 aby ?_;intro v' w3 HR2 hg2 hat2;obtain ⟨A2,c2,rfl,hc2⟩:=HR2.form1;obtain ⟨b0,b1,b2,b3,b4,b5⟩:=behind_cells hb hbo hBB hb2 hg2 HO.out HOL.out hEB.out HX0.out hs1;have u0:w3.cell? ⟨w.heap.size,0,none⟩=some (.slice (some ad) n.pieces.length c0):=(b0.cell (p:=⟨w.heap.size,0,none⟩) (by simp)).trans f0;have u1:w3.cell? ⟨w.heap.size,1,none⟩=some (.slice A1 n.joints.length c1):=(b0.cell (p:=⟨w.heap.size,1,none⟩) (by simp)).trans f1;have v0:=b1.cell 0 rfl;have v1:=b1.cell 1 rfl;have hs4:w.heap.size < w3.heap.size:=by omega)
    have HO2:=Lib.hid (own_next HO.out hat2 (by rw [size_alloc];omega))
    have HR2:=Lib.hid HR2
    have HB2:=Lib.hid b2
    have hbW:=HB0.trans (b0.mono (by omega:w.heap.size≤w.heap.size+1))
    clear hg2 hat2 hbx hBB hb2 HR1 hb1 hEB HO HOL b1 b2 hbo hsr0 hsr1 b5 hs2
    refine (implAt n (some ad) A1 c0 c1 e0 _ (h.below hbW) hg HEO).mono ?_
    rintro e w4 ⟨rfl,hb4⟩
    rw [HA.out]
    have hbY:=b0.trans (hb4.mono (by omega))
    have hbZ:=HB0.trans (hbY.mono (by omega:w.heap.size≤w.heap.size+1))
    obtain ⟨a1,rfl,y,E1,A3,c3,r0,r1,r2,l2,C2⟩:=jointK_at (Kn.C_below hbZ h.j) j hjl
    have hy:=HAT.out.1.symm.trans E1.out
    injection hy with hy
    subst hy
    have hme:=C2.1
    have u2:=cell_below hb4 u0
    have u3:=cell_below hb4 u1
    have v2:=cell_below hb4 v0
    have v3:=cell_below hb4 v1
    have HR4:=Lib.hid (HR2.out.below hb4)
    have HB4:=Lib.hid (HB2.out.below hb4 (by omega))
    have hs5:w.heap.size < w4.heap.size:=by have:=hb4.size;omega
    have hs6:w1.heap.size < w4.heap.size:=by have:=hb4.size;omega
    have hs9:w.heap.size+1 < w4.heap.size:=by have:=hb4.size;omega
    clear u0 u1 v0 v1 HR2 HB2 b3 b4 hs4
    by_cases hk:x.kind=2
    rotate_left
    ·have d4:(x.kind != 2)=true:=int_net hk
     have HEN:Hid (acc++[P]=goal):=Lib.hid (by have:=beyond_end HB.out HM.out (by omega) HAH.out HX.out (.inr hk);rw [HT.out,HPt.out] at this;exact this)
     clear hk
     go_wp2
     go_ret
     exact ⟨_,rfl,by rw [←HEN.out];exact HR4.out,fun b hb=>by have:=HO2.out b hb;omega,hbZ⟩
    have d4:(x.kind != 2)=false:=int_nef hk
    have hlen2:x.ends.length=2:=by have:=HJP.out.2.1;omega
    obtain ⟨m',hmm,hsp⟩:=beyond_spl HB.out HM.out (by omega) HAH.out HX.out hk
    rw [HT.out,HPt.out] at hsp
    have HSP:=Lib.hid hsp
    have HMM:=Lib.hid hmm
    have HEK:Hid (endP n.pieces.length (en x (1 - k))):=Lib.hid (en_ok HJP.out (by omega))
    obtain ⟨u',s',HEN⟩:∃(u':Nat) (s':Int),Hid (en x (1 - k)=⟨u',s'⟩):=⟨(en x (1 - k)).piece.toNat,(en x (1 - k)).side,Lib.hid (by have:=HEK.out.1.1;rw [Int.toNat_of_nonneg this])⟩
    have hu':u' < n.pieces.length:=by have:=HEK.out;rw [HEN.out] at this;obtain ⟨⟨b1,b2⟩,b3,b4⟩:=this;simp only at b1 b2 b3 b4;omega
    have HEE:Hid (endP n.pieces.length ⟨u',s'⟩):=Lib.hid (by rw [←HEN.out];exact HEK.out)
    have HPL:Hid (0 < pl n u'):=Lib.hid (by have:=pl_in hg.out (p:=(u':Int)) (by omega) (by omega);omega)
    have HXS:Hid (across (jt n (atJ n e0).1) (atJ n e0).2=[⟨u',s'⟩]∧howOf (jt n (atJ n e0).1) (atJ n e0).2=[0]):=Lib.hid (by rw [HA.out];simp only;rw [HX.out,across_plain hk,how_plain hk,HEN.out];exact ⟨rfl,rfl⟩)
    clear hk hlen2 hmm hsp r1 r2
    go_wp2_with fail
    refine (implOver n (some ad) (some a1) c0 c1 e0 _ (h.below hbZ) hg HEO).mono ?_
    rintro e w5 hov
    obtain ⟨Al,cl,Bl,dl,rfl,hcl,hAl,hBl,hb5⟩:=hov.to HXS.out.1 HXS.out.2
    obtain ⟨al,rfl,t0,t1,t2⟩:=endC_head hAl
    have hbV:=hbY.trans (hb5.mono (by omega:w.heap.size+1≤w4.heap.size))
    have hbU:=HB0.trans (hbV.mono (by omega:w.heap.size≤w.heap.size+1))
    have u4:=cell_below hb5 u2
    have u5:=cell_below hb5 u3
    have HB5:=Lib.hid (HB4.out.below hb5 (by omega))
    have HR5:=Lib.hid (HR4.out.below hb5)
    have hs7:w.heap.size < w5.heap.size:=by have:=hb5.size;omega
    have hs8:w.heap.size+1 < w5.heap.size:=by have:=hb5.size;omega
    have z7:=HB5.out.cell 0 rfl
    have z8:=HB5.out.cell 1 rfl
    have z9:=HB5.out.cell 2 rfl
    have z4:=HB5.out.frozen 0
    have z5:=HB5.out.frozen 1
    have z6:=HB5.out.frozen 2
    clear u2 u3 v2 v3 r0 HB4 HR4 hs5 hs6 hov hb4 C2 E1
    simp only [List.length_singleton]
    go_wp2_with fail
    go_region_with ((go_at_call 104;go_loud ((with_reducible refine (implEnter n _ (some ad) c0 ⟨u',s'⟩ _ (C_dr (Kn.C_below hbU h.p)) hg HEE.out).mono ?_);rintro e w6 ⟨rfl,hb6⟩;have B6:=(Blk_drew HB5.out).below hb6 hs8;have z7:=B6.cell 0 rfl;have z8:=B6.cell 1 rfl;have z9:=B6.cell 2 rfl;have z4:=B6.frozen 0;have z5:=B6.frozen 1;have z6:=B6.frozen 2;have hs9:w.heap.size+1 < w6.heap.size:=B6.lt;have HB6:=Lib.hid B6;clear B6)))
    all_goals go_wp2
    all_goals go_roundw
    all_goals first | (simp [intOf];omega) | exact ⟨m',u',wayOf ⟨u',s'⟩,0,left - (a),acc++[P],by first | rfl | go_num,hu',by omega,by omega,Lib.hid (step_of_end HEE.out).2,HPL,Lib.hid (by have:=HSP.out;rw [HEN.out,show left - ((far+left) - far)=left - (a) by omega] at this;exact this),Lib.hid (by have:=HM.out;have:=HMM.out;omega),Lib.hid (Kn.Rw.move (fun q hq=>place_far _ _ _ (by have:=HO2.out q hq;omega)) (fun _ h=>h.elim) (HR5.out.below (hb6:Below w5.heap.size w5.drew _))),HO2,Lib.hid ⟨by omega,by rw [List.length_append,List.length_singleton];omega⟩,Lib.hid (place_set _ _ _ HB6.out),place_below _ _ _ (hbV.drew.trans (hb6.mono (by show _≤w5.heap.size;omega))) (Nat.le_refl _)⟩
   ·have d1:decide (left < a)=false:=decide_eq_false (by omega)
    have d3:decide (0 < a)=true:=decide_eq_true (by omega)
    have HT:Hid (tilOf n u far left=z1):=Lib.hid (by unfold tilOf;rw [HP.out,if_neg (by omega)])
    obtain ⟨P,HPt⟩:∃P,Hid (partN n u (-1) far (z1)=P):=⟨_,Lib.hid rfl⟩
    go_wp2_with fail
    refine (implLooked _ _ _).mono ?_
    rintro e w1 ⟨rfl,hb1⟩
    rw [HE.out]
    obtain ⟨c0',c1',c2',c3',c4',c5',c6'⟩:w1.cell? ⟨w.heap.size,0,none⟩=some (.slice (some ad) n.pieces.length c0)∧w1.cell? ⟨w.heap.size,1,none⟩=some (.slice A1 n.joints.length c1)∧w1.cell? ⟨w.heap.size+1,0,none⟩=some (.int .i64 u)∧w1.cell? ⟨w.heap.size+1,1,none⟩=some (.int .i64 (a))∧w1.cell? ⟨w.heap.size+1,2,none⟩=some (.int .i64 (-1))∧w.heap.size < w1.heap.size∧w.heap.size+1 < w1.heap.size :=
     ⟨cell_below hb1 q0,cell_below hb1 q1,cell_below hb1 y0,cell_below hb1 y1,cell_below hb1 y2,by have:=hb1.size;omega,by have:=hb1.size;omega⟩
    have l9:=cell_below hb1 g1
    have l8:(ad.add (u*4)).block < w1.heap.size:=World.block_lt_of_cell? w1 ⟨(ad.add (u*4)).block,(ad.add (u*4)).off+1,none⟩ l9
    go_wp2_with fail
    obtain ⟨W1,hW1,hBB,hEB,hs2⟩:∃W,W=w1.alloc (.cells #[.int .i64 e0.piece,.int .i64 e0.side] 102)∧Below wr.heap.size wr W∧Hid (Blk W w1.heap.size 102 [.int .i64 e0.piece,.int .i64 e0.side])∧w1.heap.size < W.heap.size:=⟨_,rfl,hb1.alloc hb1.size _,Lib.hid (Blk.new _ _ _ rfl),by simp⟩
    rw [←hW1]
    clear hW1 c0' c1' c2' c3' c4' c5' c6' l8 l9
    refine (partOf_q (P:=P) (by rw [←HPt.out,partN_back,HP.out];congr 1 <;> omega)).mono ?_
    rintro e w2 ⟨rfl,hb2⟩
    have hbx:=hBB.trans (hb2.mono hBB.size)
    have hbo:=hb1.size
    have HR1:=Lib.hid ((HR.out.below hbx).below (below_alloc w2 (.cells #[.int .i64 P.piece,.int .i64 P.frm,.int .i64 P.til] 48)))
    clear g0 g1 g2 g3 HR q0 q1 y0 y1 y2
    go_wp2_with (at_builtin;refine wpList_append_rw _ rfl (.tmp 42) (.tmp 55) 41 rfl 48 i0 _ 24 Try.underlying41 hi hz0 hz1 hz2 rfl (by decide) (.slice Ao acc.length co) acc [P] rfl HR1.out (fun _ h=>h.elim) (some ⟨w2.heap.size,0,none⟩) 1 1 rfl rfl (Kn.Src.one (partK_mk _ _ P) (new_cells _ _ _ rfl)) a63 aby ?_;intro v' w3 HR2 hg2 hat2;obtain ⟨A2,c2,rfl,hc2⟩:=HR2.form1;obtain ⟨b0,b1,b2,b3,b4,b5⟩:=behind_cells hb hbo hBB hb2 hg2 HO.out HOL.out hEB.out HX0.out hs1;have u0:w3.cell? ⟨w.heap.size,0,none⟩=some (.slice (some ad) n.pieces.length c0):=(b0.cell (p:=⟨w.heap.size,0,none⟩) (by simp)).trans f0;have u1:w3.cell? ⟨w.heap.size,1,none⟩=some (.slice A1 n.joints.length c1):=(b0.cell (p:=⟨w.heap.size,1,none⟩) (by simp)).trans f1;have v0:=b1.cell 0 rfl;have v1:=b1.cell 1 rfl;have hs4:w.heap.size < w3.heap.size:=by omega)
    have HO2:=Lib.hid (own_next HO.out hat2 (by rw [size_alloc];omega))
    have HR2:=Lib.hid HR2
    have HB2:=Lib.hid b2
    have hbW:=HB0.trans (b0.mono (by omega:w.heap.size≤w.heap.size+1))
    clear hg2 hat2 hbx hBB hb2 HR1 hb1 hEB HO HOL b1 b2 hbo hsr0 hsr1 b5 hs2
    refine (implAt n (some ad) A1 c0 c1 e0 _ (h.below hbW) hg HEO).mono ?_
    rintro e w4 ⟨rfl,hb4⟩
    rw [HA.out]
    have hbY:=b0.trans (hb4.mono (by omega))
    have hbZ:=HB0.trans (hbY.mono (by omega:w.heap.size≤w.heap.size+1))
    obtain ⟨a1,rfl,y,E1,A3,c3,r0,r1,r2,l2,C2⟩:=jointK_at (Kn.C_below hbZ h.j) j hjl
    have hy:=HAT.out.1.symm.trans E1.out
    injection hy with hy
    subst hy
    have hme:=C2.1
    have u2:=cell_below hb4 u0
    have u3:=cell_below hb4 u1
    have v2:=cell_below hb4 v0
    have v3:=cell_below hb4 v1
    have HR4:=Lib.hid (HR2.out.below hb4)
    have HB4:=Lib.hid (HB2.out.below hb4 (by omega))
    have hs5:w.heap.size < w4.heap.size:=by have:=hb4.size;omega
    have hs6:w1.heap.size < w4.heap.size:=by have:=hb4.size;omega
    have hs9:w.heap.size+1 < w4.heap.size:=by have:=hb4.size;omega
    clear u0 u1 v0 v1 HR2 HB2 b3 b4 hs4
    by_cases hk:x.kind=2
    rotate_left
    ·have d4:(x.kind != 2)=true:=int_net hk
     have HEN:Hid (acc++[P]=goal):=Lib.hid (by have:=beyond_end HB.out HM.out (by omega) HAH.out HX.out (.inr hk);rw [HT.out,HPt.out] at this;exact this)
     clear hk
     go_wp2
     go_ret
     exact ⟨_,rfl,by rw [←HEN.out];exact HR4.out,fun b hb=>by have:=HO2.out b hb;omega,hbZ⟩
    have d4:(x.kind != 2)=false:=int_nef hk
    have hlen2:x.ends.length=2:=by have:=HJP.out.2.1;omega
    obtain ⟨m',hmm,hsp⟩:=beyond_spl HB.out HM.out (by omega) HAH.out HX.out hk
    rw [HT.out,HPt.out] at hsp
    have HSP:=Lib.hid hsp
    have HMM:=Lib.hid hmm
    have HEK:Hid (endP n.pieces.length (en x (1 - k))):=Lib.hid (en_ok HJP.out (by omega))
    obtain ⟨u',s',HEN⟩:∃(u':Nat) (s':Int),Hid (en x (1 - k)=⟨u',s'⟩):=⟨(en x (1 - k)).piece.toNat,(en x (1 - k)).side,Lib.hid (by have:=HEK.out.1.1;rw [Int.toNat_of_nonneg this])⟩
    have hu':u' < n.pieces.length:=by have:=HEK.out;rw [HEN.out] at this;obtain ⟨⟨b1,b2⟩,b3,b4⟩:=this;simp only at b1 b2 b3 b4;omega
    have HEE:Hid (endP n.pieces.length ⟨u',s'⟩):=Lib.hid (by rw [←HEN.out];exact HEK.out)
    have HPL:Hid (0 < pl n u'):=Lib.hid (by have:=pl_in hg.out (p:=(u':Int)) (by omega) (by omega);omega)
    have HXS:Hid (across (jt n (atJ n e0).1) (atJ n e0).2=[⟨u',s'⟩]∧howOf (jt n (atJ n e0).1) (atJ n e0).2=[0]):=Lib.hid (by rw [HA.out];simp only;rw [HX.out,across_plain hk,how_plain hk,HEN.out];exact ⟨rfl,rfl⟩)
    clear hk hlen2 hmm hsp r1 r2
    go_wp2_with fail
    refine (implOver n (some ad) (some a1) c0 c1 e0 _ (h.below hbZ) hg HEO).mono ?_
    rintro e w5 hov
    obtain ⟨Al,cl,Bl,dl,rfl,hcl,hAl,hBl,hb5⟩:=hov.to HXS.out.1 HXS.out.2
    obtain ⟨al,rfl,t0,t1,t2⟩:=endC_head hAl
    have hbV:=hbY.trans (hb5.mono (by omega:w.heap.size+1≤w4.heap.size))
    have hbU:=HB0.trans (hbV.mono (by omega:w.heap.size≤w.heap.size+1))
    have u4:=cell_below hb5 u2
    have u5:=cell_below hb5 u3
    have HB5:=Lib.hid (HB4.out.below hb5 (by omega))
    have HR5:=Lib.hid (HR4.out.below hb5)
    have hs7:w.heap.size < w5.heap.size:=by have:=hb5.size;omega
    have hs8:w.heap.size+1 < w5.heap.size:=by have:=hb5.size;omega
    have z7:=HB5.out.cell 0 rfl
    have z8:=HB5.out.cell 1 rfl
    have z9:=HB5.out.cell 2 rfl
    have z4:=HB5.out.frozen 0
    have z5:=HB5.out.frozen 1
    have z6:=HB5.out.frozen 2
    clear u2 u3 v2 v3 r0 HB4 HR4 hs5 hs6 hov hb4 C2 E1
    simp only [List.length_singleton]
    go_wp2_with fail
    go_region_with ((go_at_call 104;go_loud ((with_reducible refine (implEnter n _ (some ad) c0 ⟨u',s'⟩ _ (C_dr (Kn.C_below hbU h.p)) hg HEE.out).mono ?_);rintro e w6 ⟨rfl,hb6⟩;have B6:=(Blk_drew HB5.out).below hb6 hs8;have z7:=B6.cell 0 rfl;have z8:=B6.cell 1 rfl;have z9:=B6.cell 2 rfl;have z4:=B6.frozen 0;have z5:=B6.frozen 1;have z6:=B6.frozen 2;have hs9:w.heap.size+1 < w6.heap.size:=B6.lt;have HB6:=Lib.hid B6;clear B6)))
    all_goals go_wp2
    all_goals go_roundw
    all_goals first | (simp [intOf];omega) | exact ⟨m',u',wayOf ⟨u',s'⟩,0,left - (a),acc++[P],by first | rfl | go_num,hu',by omega,by omega,Lib.hid (step_of_end HEE.out).2,HPL,Lib.hid (by have:=HSP.out;rw [HEN.out,show left - ((z1) - far)=left - (a) by omega] at this;exact this),Lib.hid (by have:=HM.out;have:=HMM.out;omega),Lib.hid (Kn.Rw.move (fun q hq=>place_far _ _ _ (by have:=HO2.out q hq;omega)) (fun _ h=>h.elim) (HR5.out.below (hb6:Below w5.heap.size w5.drew _))),HO2,Lib.hid ⟨by omega,by rw [List.length_append,List.length_singleton];omega⟩,Lib.hid (place_set _ _ _ HB6.out),place_below _ _ _ (hbV.drew.trans (hb6.mono (by show _≤w5.heap.size;omega))) (Nat.le_refl _)⟩
end Go.Proofs.Ytjccgneimknbpaa.L
namespace Go.Proofs.Ytjccgneimknbpaa.L
open Go.RowKit
theorem Rw_slice {α:Type} {d:Kn α} {e:Nat} {w:World} {ok:Nat→Prop} {A:Option Addr} {n c:Nat} {xs:List α} (h:d.Rw e w ok (.slice A n c) xs):n=xs.length∧xs.length≤c∧d.C w (fun b=>ok b∨(Value.slice A n c).ownBlock=some b) A xs:=by
 obtain ⟨A',c',he,hc,hC⟩:=h.C
 injection he with h1 h2 h3
 subst h1
 subst h2
 subst h3
 exact ⟨rfl,hc,hC⟩
theorem one_across {x:Joint} {k:Nat} (q1:¬x.kind=1) (q3:¬x.kind=3) (h:1≤x.kind∧x.kind≤4):∃e,Hid (across x k=[e]):=by
 unfold across
 by_cases q2:x.kind=2
 ·rw [if_pos q2]
  exact ⟨_,Lib.hid rfl⟩
 ·rw [if_neg q2,if_neg q3,if_pos (by omega)]
  exact ⟨_,Lib.hid rfl⟩
theorem not_in_all {α:Type} {xs:List α} {k:Nat} {x:α} (h:¬inTo xs k x) (hk:xs.length≤k):¬x∈xs:=fun hm=>by
 obtain ⟨j,hj⟩:=List.mem_iff_getElem?.1 hm
 exact h ⟨j,Nat.lt_of_lt_of_le (List.getElem?_eq_some_iff.1 hj).1 hk,hj⟩
theorem RetC.to {α:Type} {d:Kn α} {xs ys:List α} {w w':World} {e:Ending} (h:RetC d xs w e w') (hx:xs=ys):RetC d ys w e w':=by subst hx;exact h
theorem own_not {α:Type} {d:Kn α} {e t:Nat} {w:World} {ok:Nat→Prop} {v:Value} {xs:List α} {g:Nat} {cs:List Value} (h:d.Rw e w ok v xs) (hb:Blk w g t cs) (ht:t≠e):¬v.ownBlock=some g:=by
 intro hv
 obtain ⟨inner,ho,_⟩:=h
 rcases ho.2 with ⟨rfl,_⟩ | ⟨b,cap,cur,rfl,_,hh,_⟩
 ·simp [Value.ownBlock] at hv
 ·simp only [Value.ownBlock,Option.some.injEq] at hv
  subst hv
  unfold Blk at hb
  rw [hh] at hb
  injection hb with hb
  injection hb with _ hb _
  exact ht hb.symm
theorem own_apart {α β:Type} {d:Kn α} {d':Kn β} {e e':Nat} {w:World} {ok ok':Nat→Prop} {v v':Value} {xs:List α} {ys:List β} (h:d.Rw e w ok v xs) (h':d'.Rw e' w ok' v' ys) (ht:e≠e') {b:Nat} (hv:v.ownBlock=some b):¬v'.ownBlock=some b:=by
 intro hv'
 obtain ⟨inner,ho,_⟩:=h
 obtain ⟨inner',ho',_⟩:=h'
 rcases ho.2 with ⟨rfl,_⟩ | ⟨b1,cap,cur,rfl,_,hh,_⟩
 ·simp [Value.ownBlock] at hv
 rcases ho'.2 with ⟨rfl,_⟩ | ⟨b2,cap',cur',rfl,_,hh',_⟩
 ·simp [Value.ownBlock] at hv'
 simp only [Value.ownBlock,Option.some.injEq] at hv hv'
 subst hv
 subst hv'
 rw [hh] at hh'
 injection hh' with hh'
 injection hh' with _ hh' _
 exact ht hh'
def FSet (g h:Nat) (vs vf:Value) (b:Nat):Prop:=b=g∨b=h∨vs.ownBlock=some b∨vf.ownBlock=some b
structure FS (tF tR eE eF:Nat) (w:World) (g h:Nat) (n:Net) (ss:List Signal) (lies:List Lie) (A0 A1 A2 A3:Option Addr) (c0 c1 c2 c3:Nat) (ov tr:Int) (vout v0 v1 v2 v4 v5 v6 vs vf:Value) (seen:List End) (fl:List Flank):Prop where
 f:Blk w g tF (finder n A0 A1 c0 c1 (.slice A2 ss.length c2) ov vout tr vs)
 r:Blk w h tR [v0,v1,v2,.slice A3 lies.length c3,v4,v5,v6,vf]
 net:NC eE w (Out w (FSet g h vs vf)) n A0 A1
 sig:signalK.C w (Out w (FSet g h vs vf)) A2 ss
 lie:lieK.C w (Out w (FSet g h vs vf)) A3 lies
 sn:endK.Rw eE w nobody vs seen
 fn:flankK.Rw eF w nobody vf fl
theorem NC.keep {eE:Nat} {w w1:World} {S S':Nat→Prop} {x:Net} {A0 A1:Option Addr} (hk:Keep S w w1) (hs:∀x,x < w.heap.size→S' x→S x) (h:NC eE w (Out w S) x A0 A1):NC eE w1 (Out w1 S') x A0 A1:=⟨Kn.C_keep hk hs h.p,Kn.C_keep hk hs h.j⟩
section
variable {tF tR eE eF:Nat} {w w1 w2 wa:World} {g h:Nat} {n:Net} {ss:List Signal} {lies:List Lie} {A0 A1 A2 A3:Option Addr} {c0 c1 c2 c3:Nat} {ov tr:Int} {vout v0 v1 v2 v4 v5 v6 vs vf v':Value} {seen:List End} {fl:List Flank}
theorem FS.below (hb:Below w.heap.size w w1) (F:FS tF tR eE eF w g h n ss lies A0 A1 A2 A3 c0 c1 c2 c3 ov tr vout v0 v1 v2 v4 v5 v6 vs vf seen fl):FS tF tR eE eF w1 g h n ss lies A0 A1 A2 A3 c0 c1 c2 c3 ov tr vout v0 v1 v2 v4 v5 v6 vs vf seen fl :=
 ⟨F.f.below hb F.f.lt,F.r.below hb F.r.lt,F.net.keep (Keep.of_below hb) (fun _ _ h=>h),Kn.C_keep (Keep.of_below hb) (fun _ _ h=>h) F.sig,Kn.C_keep (Keep.of_below hb) (fun _ _ h=>h) F.lie,F.sn.below hb,F.fn.below hb⟩
def Nx (v v':Value) (s:Nat):Prop:=∀b,v'.ownBlock=some b→v.ownBlock=some b∨s≤b
theorem Nx.refl (v:Value) (s:Nat):Nx v v s:=fun b hb=>.inl hb
theorem Nx.trans {a b c:Value} {s s':Nat} (h:Nx a b s) (k:Nx b c s') (hs:s≤s'):Nx a c s:=fun x hx=>by
 rcases k x hx with hx | hx
 ·exact h x hx
 ·exact .inr (Nat.le_trans hs hx)
theorem Nx.mono {a b:Value} {s s':Nat} (h:Nx a b s) (hs:s'≤s):Nx a b s':=fun x hx=>by
 rcases h x hx with hx | hx
 ·exact .inl hx
 ·exact .inr (Nat.le_trans hs hx)
theorem Nx.of {v v':Value} {s:Nat} (h:v'.ownBlock=v.ownBlock∨v'.ownBlock=some s):Nx v v' s:=fun b hb=>by
 rcases h with h | h
 ·exact .inl (by rw [←h];exact hb)
 ·rw [h] at hb
  injection hb with hb
  exact .inr (Nat.le_of_eq hb)
theorem FS.more (F:FS tF tR eE eF w g h n ss lies A0 A1 A2 A3 c0 c1 c2 c3 ov tr vout v0 v1 v2 v4 v5 v6 vs vf seen fl) (t1:tF≠eE) (t2:tF≠eF) (t3:tR≠eE) (t4:eE≠eF) (t5:tF≠tR) (t6:tR≠eF) (hb:Below w.heap.size w wa) (hg:wa.grownBy w2 vs.ownBlock) {e:End} (hR:endK.Rw eE w2 nobody v' (seen++[e])) (ha:v'.ownBlock=vs.ownBlock∨v'.ownBlock=some wa.heap.size) :
  FS tF tR eE eF (w2.setCell ⟨g,6,none⟩ v') g h n ss lies A0 A1 A2 A3 c0 c1 c2 c3 ov tr vout v0 v1 v2 v4 v5 v6 v' vf (seen++[e]) fl∧Keep (FSet g h vs vf) w (w2.setCell ⟨g,6,none⟩ v')∧Nx vs v' w.heap.size:=by
 have hk:Keep (FSet g h vs vf) w w2:=(Keep.of_below hb).grown hg (fun k hk _=>.inr (.inr (.inl hk)))
 have hgl:=F.f.lt
 have hgh:g≠h:=fun e=>by
  have h1:=F.f
  have h2:=F.r
  subst e
  unfold Blk at h1 h2
  rw [h1] at h2
  injection h2 with h2
  injection h2 with _ h2 _
  exact t5 h2
 have hf2:Blk w2 g tF (finder n A0 A1 c0 c1 (.slice A2 ss.length c2) ov vout tr vs):=(hg.block g (Nat.lt_of_lt_of_le hgl hb.size) (fun e=>own_not F.sn F.f t1 e.symm)).trans (F.f.below hb hgl)
 have hr2:Blk w2 h tR [v0,v1,v2,.slice A3 lies.length c3,v4,v5,v6,vf]:=(hg.block h (Nat.lt_of_lt_of_le F.r.lt hb.size) (fun e=>own_not F.sn F.r t3 e.symm)).trans (F.r.below hb F.r.lt)
 have hk2:Keep (FSet g h vs vf) w (w2.setCell ⟨g,6,none⟩ v'):=hk.setCell (fun _=>.inl rfl) v'
 have hnx:Nx vs v' w.heap.size:=(Nx.of ha).mono hb.size
 have hs:∀x,x < w.heap.size→FSet g h v' vf x→FSet g h vs vf x:=fun x hx hm=>by
  rcases hm with hm | hm | hm | hm
  ·exact .inl hm
  ·exact .inr (.inl hm)
  ·rcases hnx x hm with hm | hm
   ·exact .inr (.inr (.inl hm))
   ·omega
  ·exact .inr (.inr (.inr hm))
 have hR2:endK.Rw eE (w2.setCell ⟨g,6,none⟩ v') nobody v' (seen++[e]):=Kn.Rw.move (fun k hk=>Below.heap_setCell _ _ _ _ (fun e=>own_not hR hf2 t1 (by rw [←show k=g from e];exact hk))) (fun _ h=>h.elim) hR
 have hfn:flankK.Rw eF (w2.setCell ⟨g,6,none⟩ v') nobody vf fl:=Kn.Rw.move (fun k hkk=>by
  have hlt:=F.fn.lt k hkk
  rw [Below.heap_setCell _ _ _ _ (fun e=>own_not F.fn F.f t2 (by rw [←show k=g from e];exact hkk)),hg.block k (Nat.lt_of_lt_of_le hlt hb.size) (fun e=>own_apart F.sn F.fn t4 e.symm hkk),hb.block k hlt]) (fun _ h=>h.elim) F.fn
 exact ⟨⟨hf2.set_ 6 v',hr2.far (p:=⟨g,6,none⟩) (fun e=>hgh e.symm) v',F.net.keep hk2 hs,Kn.C_keep hk2 hs F.sig,Kn.C_keep hk2 hs F.lie,hR2,hfn⟩,hk2,hnx⟩
theorem FS.found (F:FS tF tR eE eF w g h n ss lies A0 A1 A2 A3 c0 c1 c2 c3 ov tr vout v0 v1 v2 v4 v5 v6 vs vf seen fl) (t1:tF≠eE) (t2:tF≠eF) (t3:tR≠eE) (t4:eE≠eF) (t5:tF≠tR) (t6:tR≠eF) (hb:Below w.heap.size w wa) (hg:wa.grownBy w2 vf.ownBlock) {e:Flank} (hR:flankK.Rw eF w2 nobody v' (fl++[e])) (ha:v'.ownBlock=vf.ownBlock∨v'.ownBlock=some wa.heap.size) :
  FS tF tR eE eF (w2.setCell ⟨h,7,none⟩ v') g h n ss lies A0 A1 A2 A3 c0 c1 c2 c3 ov tr vout v0 v1 v2 v4 v5 v6 vs v' seen (fl++[e])∧Keep (FSet g h vs vf) w (w2.setCell ⟨h,7,none⟩ v')∧Nx vf v' w.heap.size:=by
 have hk:Keep (FSet g h vs vf) w w2:=(Keep.of_below hb).grown hg (fun k hk _=>.inr (.inr (.inr hk)))
 have hgl:=F.f.lt
 have hgh:g≠h:=fun e=>by
  have h1:=F.f
  have h2:=F.r
  subst e
  unfold Blk at h1 h2
  rw [h1] at h2
  injection h2 with h2
  injection h2 with _ h2 _
  exact t5 h2
 have hf2:Blk w2 g tF (finder n A0 A1 c0 c1 (.slice A2 ss.length c2) ov vout tr vs):=(hg.block g (Nat.lt_of_lt_of_le hgl hb.size) (fun e=>own_not F.fn F.f t2 e.symm)).trans (F.f.below hb hgl)
 have hr2:Blk w2 h tR [v0,v1,v2,.slice A3 lies.length c3,v4,v5,v6,vf]:=(hg.block h (Nat.lt_of_lt_of_le F.r.lt hb.size) (fun e=>own_not F.fn F.r t6 e.symm)).trans (F.r.below hb F.r.lt)
 have hk2:Keep (FSet g h vs vf) w (w2.setCell ⟨h,7,none⟩ v'):=hk.setCell (fun _=>.inr (.inl rfl)) v'
 have hnx:Nx vf v' w.heap.size:=(Nx.of ha).mono hb.size
 have hs:∀x,x < w.heap.size→FSet g h vs v' x→FSet g h vs vf x:=fun x hx hm=>by
  rcases hm with hm | hm | hm | hm
  ·exact .inl hm
  ·exact .inr (.inl hm)
  ·exact .inr (.inr (.inl hm))
  ·rcases hnx x hm with hm | hm
   ·exact .inr (.inr (.inr hm))
   ·omega
 have hR2:flankK.Rw eF (w2.setCell ⟨h,7,none⟩ v') nobody v' (fl++[e]):=Kn.Rw.move (fun k hk=>Below.heap_setCell _ _ _ _ (fun e=>own_not hR hr2 t6 (by rw [←show k=h from e];exact hk))) (fun _ h=>h.elim) hR
 have hfn:endK.Rw eE (w2.setCell ⟨h,7,none⟩ v') nobody vs seen:=Kn.Rw.move (fun k hkk=>by
  have hlt:=F.sn.lt k hkk
  rw [Below.heap_setCell _ _ _ _ (fun e=>own_not F.sn F.r t3 (by rw [←show k=h from e];exact hkk)),hg.block k (Nat.lt_of_lt_of_le hlt hb.size) (fun e=>own_apart F.sn F.fn t4 hkk e.symm),hb.block k hlt]) (fun _ h=>h.elim) F.sn
 exact ⟨⟨hf2.far (p:=⟨h,7,none⟩) hgh v',hr2.set_ 7 v',F.net.keep hk2 hs,Kn.C_keep hk2 hs F.sig,Kn.C_keep hk2 hs F.lie,hfn,hR2⟩,hk2,hnx⟩
theorem FS.new (F:FS tF tR eE eF w g h n ss lies A0 A1 A2 A3 c0 c1 c2 c3 ov tr vout v0 v1 v2 v4 v5 v6 vs vf seen fl) {b:Nat} (hb:w.heap.size≤b):¬FSet g h vs vf b:=fun hm=>by
 have h1:=F.f.lt
 have h2:=F.r.lt
 rcases hm with hm | hm | hm | hm
 ·omega
 ·omega
 ·have:=F.sn.lt b hm
  omega
 ·have:=F.fn.lt b hm
  omega
theorem FS.fMore (F:FS tF tR eE eF w g h n ss lies A0 A1 A2 A3 c0 c1 c2 c3 ov tr vout v0 v1 v2 v4 v5 v6 vs vf seen fl) (t1:tF≠eE) (hb:Below w.heap.size w wa) (hg:wa.grownBy w2 vs.ownBlock):Blk w2 g tF (finder n A0 A1 c0 c1 (.slice A2 ss.length c2) ov vout tr vs) :=
 (hg.block g (Nat.lt_of_lt_of_le F.f.lt hb.size) (fun e=>own_not F.sn F.f t1 e.symm)).trans (F.f.below hb F.f.lt)
theorem FS.rFound (F:FS tF tR eE eF w g h n ss lies A0 A1 A2 A3 c0 c1 c2 c3 ov tr vout v0 v1 v2 v4 v5 v6 vs vf seen fl) (t6:tR≠eF) (hb:Below w.heap.size w wa) (hg:wa.grownBy w2 vf.ownBlock):Blk w2 h tR [v0,v1,v2,.slice A3 lies.length c3,v4,v5,v6,vf] :=
 (hg.block h (Nat.lt_of_lt_of_le F.r.lt hb.size) (fun e=>own_not F.fn F.r t6 e.symm)).trans (F.r.below hb F.r.lt)
def RetF (tF tR eE eF:Nat) (g h:Nat) (n:Net) (ss:List Signal) (lies:List Lie) (A0 A1 A2 A3:Option Addr) (c0 c1 c2 c3:Nat) (ov tr:Int) (vout v0 v1 v2 v4 v5 v6 vs vf:Value) (st:List End × List Flank) (w:World) (en:Ending) (w':World):Prop :=
 en=.returned (.tuple #[])∧∃vs' vf',FS tF tR eE eF w' g h n ss lies A0 A1 A2 A3 c0 c1 c2 c3 ov tr vout v0 v1 v2 v4 v5 v6 vs' vf' st.1 st.2∧Keep (FSet g h vs vf) w w'∧Nx vs vs' w.heap.size∧Nx vf vf' w.heap.size
theorem RetF.after {vs1 vf1:Value} {st:List End × List Flank} {en:Ending} {w':World} (hk:Keep (FSet g h vs vf) w wa) (h1:Nx vs vs1 w.heap.size) (h2:Nx vf vf1 w.heap.size) (hR:RetF tF tR eE eF g h n ss lies A0 A1 A2 A3 c0 c1 c2 c3 ov tr vout v0 v1 v2 v4 v5 v6 vs1 vf1 st wa en w'):RetF tF tR eE eF g h n ss lies A0 A1 A2 A3 c0 c1 c2 c3 ov tr vout v0 v1 v2 v4 v5 v6 vs vf st w en w':=by
 obtain ⟨rfl,vs',vf',F,K,N1,N2⟩:=hR
 refine ⟨rfl,vs',vf',F,hk.trans K (fun x hx hm=>?_),h1.trans N1 hk.size,h2.trans N2 hk.size⟩
 rcases hm with hm | hm | hm | hm
 ·exact .inl hm
 ·exact .inr (.inl hm)
 ·rcases h1 x hm with hm | hm
  ·exact .inr (.inr (.inl hm))
  ·omega
 ·rcases h2 x hm with hm | hm
  ·exact .inr (.inr (.inr hm))
  ·omega
theorem FS.last (F:FS tF tR eE eF w g h n ss lies A0 A1 A2 A3 c0 c1 c2 c3 ov tr vout v0 v1 v2 v4 v5 v6 vs vf seen fl) (t1:tF≠eE) (t2:tF≠eF) (t3:tR≠eE) (t4:eE≠eF) (t5:tF≠tR) (t6:tR≠eF) (hb:Below w.heap.size w wa) (hg:wa.grownBy w2 vf.ownBlock) {e:Flank} (hR:flankK.Rw eF w2 nobody v' (fl++[e])) (ha:v'.ownBlock=vf.ownBlock∨v'.ownBlock=some wa.heap.size) :
  RetF tF tR eE eF g h n ss lies A0 A1 A2 A3 c0 c1 c2 c3 ov tr vout v0 v1 v2 v4 v5 v6 vs vf (seen,fl++[e]) w (.returned (.tuple #[])) (w2.setCell ⟨h,7,none⟩ v'):=by
 obtain ⟨G1,G2,G3⟩:=F.found t1 t2 t3 t4 t5 t6 hb hg hR ha
 exact ⟨rfl,vs,v',G1,G2,Nx.refl _ _,G3⟩
theorem FSet.next {vs vf vs' vf':Value} {s:Nat} (h1:Nx vs vs' s) (h2:Nx vf vf' s):∀x,x < s→FSet g h vs' vf' x→FSet g h vs vf x:=fun x hx hm=>by
 rcases hm with hm | hm | hm | hm
 ·exact .inl hm
 ·exact .inr (.inl hm)
 ·rcases h1 x hm with hm | hm
  ·exact .inr (.inr (.inl hm))
  ·omega
 ·rcases h2 x hm with hm | hm
  ·exact .inr (.inr (.inr hm))
  ·omega
end
end Go.Proofs.Ytjccgneimknbpaa.L
namespace Go.Proofs.Ytjccgneimknbpaa.L
open Go
section
variable {P:Program} {l:List Oper} {Q:Exit→Act→World→Prop} {S:World→Prop} {t:Nat}
def Rg (P:Program) (ops:Array Oper) (Q:Exit→Act→World→Prop) (S:World→Prop) (t:Nat):Nat→Array Bool→Act→World→Prop
 | 0,listed,a,w=>Region.ready .any ops listed=[]∧Q .normal a w
 | fuel+1,listed,a,w=>(Region.ready .any ops listed=[]→Q .normal a w) ∧
  ∀i∈Region.ready .any ops listed,wpOp P ops Q i (fun a' w'=>(S w'∨(listed.setIfInBounds i true).getD t false=true)∧Rg P ops Q S t fuel (listed.setIfInBounds i true) a' w') a w
theorem Rg.any {ops:Array Oper}:∀(fuel:Nat) (listed:Array Bool) (a:Act) (w:World),Rg P ops Q S t fuel listed a w→wpAny P .any ops Q fuel listed a w
 | 0,_,_,_,h=>h
 | fuel+1,_,_,_,h=>⟨h.1,fun i hi=>wpOp_mono (fun a' w' h'=>Rg.any fuel _ a' w' h'.2) (h.2 i hi)⟩
def RgC (ops:Array Oper) (listed:Array Bool):Prop:=∀j oj,ops[j]?=some oj→listed.getD j false=true→∀e∈oj.after,Region.binds .any e=true→listed.getD e.on false=true
def rgC (ops:Array Oper) (listed:Array Bool):Bool:=(List.range ops.size).all fun j=>!listed.getD j false || ((ops[j]?).map (·.after.all fun e=>!Region.binds .any e || listed.getD e.on false)).getD true
theorem rgC_spec {ops:Array Oper} {listed:Array Bool} (h:rgC ops listed=true):RgC ops listed:=fun j oj hj hl e he hb=>by
 have hlt:j < ops.size:=(Array.getElem?_eq_some_iff.1 hj).1
 have h1:=List.all_eq_true.1 h j (List.mem_range.2 hlt)
 rw [hl,hj] at h1
 simp only [Bool.not_true,Bool.false_or,Option.map_some,Option.getD_some] at h1
 have h2:=Array.all_eq_true'.1 h1 e he
 rw [hb] at h2
 simpa using h2
theorem RgC.set {ops:Array Oper} {listed:Array Bool} {i:Nat} (inv:RgC ops listed) (hi:i∈Region.ready .any ops listed):RgC ops (listed.setIfInBounds i true):=fun j oj hj hl e he hb=>by
 obtain ⟨_,oi,hoi,hall⟩:=mem_ready.1 hi
 by_cases hij:i=j
 ·subst hij
  have:oj=oi:=Option.some.inj (hj.symm.trans hoi)
  subst this
  exact getD_set_true (hall e he hb)
 ·rw [getD_set_ne false hij] at hl
  exact getD_set_true (inv j oj hj hl e he hb)
def rgA (ops:Array Oper):Nat→Nat→Nat→Bool
 | 0,t,i=>Region.waitsFor .any ops t i
 | f+1,t,i=>Region.waitsFor .any ops t i || (List.range ops.size).any fun k=>Region.waitsFor .any ops t k && rgA ops f k i
theorem rgA_listed {ops:Array Oper} {listed:Array Bool} (inv:RgC ops listed):∀(f t i:Nat),(∀ot,ops[t]?=some ot→∀e∈ot.after,Region.binds .any e=true→listed.getD e.on false=true)→rgA ops f t i=true→listed.getD i false=true
 | 0,t,i,hd,h=>by
  obtain ⟨ot,hot,e,he,hb,hon⟩:=Region.waitsFor_spec h
  rw [←hon]
  exact hd ot hot e he hb
 | f+1,t,i,hd,h=>by
  rw [rgA,Bool.or_eq_true] at h
  rcases h with h | h
  ·obtain ⟨ot,hot,e,he,hb,hon⟩:=Region.waitsFor_spec h
   rw [←hon]
   exact hd ot hot e he hb
  ·obtain ⟨k,hk,h⟩:=List.any_eq_true.1 h
   rw [Bool.and_eq_true] at h
   obtain ⟨ot,hot,e,he,hb,hon⟩:=Region.waitsFor_spec h.1
   have hl:listed.getD k false=true:=by
    rw [←hon]
    exact hd ot hot e he hb
   exact rgA_listed inv f k i (fun ok hok e he hb=>inv k ok hok hl e he hb) h.2
theorem Rg.first {ops:Array Oper} {S':World→Prop} {i:Nat} {oi:Oper} {v:Value} (hi:ops[i]?=some oi) (hsel:∀(j:Nat) (o:Oper) cs b,ops[j]?=some o→o.op≠.select cs b)
  (hQ:∀c a w,Q (.panic c) (a.put oi.dst v) w→Q (.panic c) a w) (hit:i≠t)
  (hS':∀(listed:Array Bool) (j:Nat) (w:World),RgC ops listed→listed.getD i false=false→j∈Region.ready .any ops listed→j≠i→(S w∨(listed.setIfInBounds j true).getD t false=true)→S' w) :
  ∀(fuel:Nat) (listed:Array Bool) (a:Act) (w:World),RgC ops listed →
   (∀j oj,ops[j]?=some oj→j≠i→listed.getD j true=false→(∀e∈oj.after,Region.binds .any e=true→e.on≠i)→oi.apart ops oj=true) →
   i∈Region.ready .any ops listed→YieldsIf P ops S' oi v a→S' w→(S w∨listed.getD t false=true) →
   Rg P ops Q S t fuel (listed.setIfInBounds i true) (a.put oi.dst v) w→Rg P ops Q S t (fuel+1) listed a w:=by
 intro fuel
 induction fuel with
 | zero =>
  intro listed a w inv _ hr hy hS hT H
  refine ⟨fun h=>(by rw [h] at hr;cases hr),fun j hj=>?_⟩
  by_cases hji:j=i
  ·subst hji
   exact hy.wpOp hi hS ⟨by rw [getD_set_ne false hit];exact hT,H⟩
  ·have:=ready_mono hj hji
   rw [H.1] at this
   cases this
 | succ fuel ih =>
  intro listed a w inv hfree hr hy hS hT H
  refine ⟨fun h=>(by rw [h] at hr;cases hr),fun j hj=>?_⟩
  by_cases hji:j=i
  ·subst hji
   exact hy.wpOp hi hS ⟨by rw [getD_set_ne false hit];exact hT,H⟩
  ·have h1:=H.2 j (ready_mono hj hji)
   obtain ⟨hjun,oj,hoj,hall⟩:=mem_ready.1 hj
   have hnot:∀e∈oj.after,Region.binds .any e=true→e.on≠i:=fun e he hb heq=>by
    have h1:=hall e he hb
    have h0:=(mem_ready.1 hr).1
    rw [heq,getD_both h0] at h1
    cases h1
   have h2:=wpOp_putIf hoj (hfree j oj hoj hji hjun hnot) (fun cs b=>hsel i oi cs b hi) (fun cs b=>hsel j oj cs b hoj) hQ hy h1
   have hfree':∀k ok,ops[k]?=some ok→k≠i→(listed.setIfInBounds j true).getD k true=false →
     (∀e∈ok.after,Region.binds .any e=true→e.on≠i)→oi.apart ops ok=true:=fun k ok hk hki hun hno=>by
    refine hfree k ok hk hki ?_ hno
    by_cases hjk:j=k
    ·subst hjk;exact hjun
    ·rw [getD_set_ne true hjk] at hun;exact hun
   have hiun:listed.getD i false=false:=getD_both (mem_ready.1 hr).1
   refine wpOp_mono (fun a' w' h3=>?_) h2
   have hT':S w'∨(listed.setIfInBounds j true).getD t false=true:=h3.2.1.imp id (fun h=>by
    rw [Array.setIfInBounds_comm _ _ (Ne.symm hji),getD_set_ne false hit] at h
    exact h)
   refine ⟨hT',ih (listed.setIfInBounds j true) a' w' (inv.set hj) hfree' (ready_mono hr (Ne.symm hji)) h3.1 (hS' listed j w' inv hiun hj hji hT') hT' ?_⟩
   rw [Array.setIfInBounds_comm _ _ hji]
   exact h3.2.2
theorem head_get {i:Nat} {o:Oper} (h:(l.drop i).head?=some o):l.toArray[i]?=some o:=by
 rw [List.getElem?_toArray]
 rw [List.head?_drop] at h
 exact h
def rgT (l:List Oper) (listed:Array Bool) (t i:Nat):Bool :=
 Region.noSelect l.toArray && Region.free .any l.toArray listed i && (Region.ready .any l.toArray listed).contains i && decide (i≠t) && rgC l.toArray listed
theorem Rg.held {fuel:Nat} {listed:Array Bool} {a:Act} {w:World} (i:Nat) {oi:Oper} {v:Value} (ho:(l.drop i).head?=some oi) (hB:(rgT l listed t i && rgA l.toArray 6 t i)=true)
  (hQ:∀c a w,Q (.panic c) (a.put oi.dst v) w→Q (.panic c) a w) (hw:Region.wanted oi (yielded l.toArray a.tmps)=true) (hS:S w) (hy:∀w,S w→(execOp a.eval oi).run P w=.ok (.value v) w)
  (h:Rg P l.toArray Q S t fuel (listed.setIfInBounds i true) (a.put oi.dst v) w):Rg P l.toArray Q S t (fuel+1) listed a w:=by
 have hi:=head_get ho
 simp only [rgT,Bool.and_eq_true,decide_eq_true_eq] at hB
 obtain ⟨⟨⟨⟨⟨h1,h2⟩,h3⟩,h4⟩,h5⟩,h6⟩:=hB
 refine Rg.first (S':=S) hi (Region.noSelect_spec h1) hQ h4 (fun L j w' inv hun hj hji hT=>?_) fuel listed a w (rgC_spec h5) (Region.free_spec hi h2) (by simpa using h3) (.inl ⟨hw,hy⟩) hS (.inl hS) h
 rcases hT with hT | hT
 ·exact hT
 ·exfalso
  have hd:∀ot,l.toArray[t]?=some ot→∀e∈ot.after,Region.binds .any e=true→L.getD e.on false=true:=fun ot hot e he hb=>by
   by_cases hjt:j=t
   ·subst hjt
    obtain ⟨_,o',ho',hall⟩:=mem_ready.1 hj
    obtain rfl:ot=o':=Option.some.inj (hot.symm.trans ho')
    exact hall e he hb
   ·rw [getD_set_ne false hjt] at hT
    exact inv t ot hot hT e he hb
  have:=rgA_listed inv 6 t i hd h6
  rw [hun] at this
  cases this
theorem Rg.pure {fuel:Nat} {listed:Array Bool} {a:Act} {w:World} (i:Nat) {oi:Oper} {v:Value} (ho:(l.drop i).head?=some oi) (hB:rgT l listed t i=true)
  (hQ:∀c a w,Q (.panic c) (a.put oi.dst v) w→Q (.panic c) a w) (hw:Region.wanted oi (yielded l.toArray a.tmps)=true) (hS:S w) (hy:∀w,(execOp a.eval oi).run P w=.ok (.value v) w)
  (h:Rg P l.toArray Q S t fuel (listed.setIfInBounds i true) (a.put oi.dst v) w):Rg P l.toArray Q S t (fuel+1) listed a w:=by
 have hi:=head_get ho
 simp only [rgT,Bool.and_eq_true,decide_eq_true_eq] at hB
 obtain ⟨⟨⟨⟨h1,h2⟩,h3⟩,h4⟩,h5⟩:=hB
 exact Rg.first (S':=fun _=>True) hi (Region.noSelect_spec h1) hQ h4 (fun _ _ _ _ _ _ _ _=>trivial) fuel listed a w (rgC_spec h5) (Region.free_spec hi h2) (by simpa using h3) (.inl ⟨hw,fun w _=>hy w⟩) trivial (.inl hS) h
theorem Rg.one {fuel:Nat} {listed:Array Bool} {a:Act} {w:World} (i:Nat) {o:Oper} (ho:(l.drop i).head?=some o) (hr:Region.ready .any l.toArray listed=[i])
  (h:∀K:Act→World→Prop,Shut (∀a w,S w→Rg P l.toArray Q S t fuel (listed.setIfInBounds i true) a w→K a w)→if Region.wanted o (yielded l.toArray a.tmps)=true then Oper.wp P o a w K Q else K (a.put o.dst undef) w):Rg P l.toArray Q S t (fuel+1) listed a w:=by
 refine ⟨fun h=>(by rw [hr] at h;cases h),fun j hj=>?_⟩
 rw [hr] at hj
 obtain rfl:j=i:=by simpa using hj
 exact wpOp_step (head_get ho) (fun K hK=>h K (fun a w hS hR=>hK a w ⟨.inl hS,hR⟩))
theorem Rg.two {fuel:Nat} {listed:Array Bool} {a:Act} {w:World} (i j:Nat) {o o':Oper} (ho:(l.drop i).head?=some o) (ho':(l.drop j).head?=some o') (hr:Region.ready .any l.toArray listed=[i,j])
  (h:∀K:Act→World→Prop,Shut (∀a w,S w→Rg P l.toArray Q S t fuel (listed.setIfInBounds i true) a w→K a w)→if Region.wanted o (yielded l.toArray a.tmps)=true then Oper.wp P o a w K Q else K (a.put o.dst undef) w)
  (h':∀K:Act→World→Prop,Shut (∀a w,S w→Rg P l.toArray Q S t fuel (listed.setIfInBounds j true) a w→K a w)→if Region.wanted o' (yielded l.toArray a.tmps)=true then Oper.wp P o' a w K Q else K (a.put o'.dst undef) w):Rg P l.toArray Q S t (fuel+1) listed a w:=by
 refine ⟨fun h=>(by rw [hr] at h;cases h),fun k hk=>?_⟩
 rw [hr] at hk
 rcases List.mem_cons.1 hk with rfl | hk
 ·exact wpOp_step (head_get ho) (fun K hK=>h K (fun a w hS hR=>hK a w ⟨.inl hS,hR⟩))
 ·obtain rfl:k=j:=by simpa using hk
  exact wpOp_step (head_get ho') (fun K hK=>h' K (fun a w hS hR=>hK a w ⟨.inl hS,hR⟩))
def rgS (ops:Array Oper) (t:Nat):List Nat→Array Bool→Bool
 | [],listed=>(Region.ready .any ops listed).isEmpty
 | k::r,listed=>decide (Region.ready .any ops listed=[k]) && (listed.setIfInBounds k true).getD t false && rgS ops t r (listed.setIfInBounds k true)
theorem Rg.rowAux:∀(r:List Nat) (listed:Array Bool) (a:Act) (w:World) (fuel:Nat),r.length≤fuel→(∀k∈r,k < l.length)→rgS l.toArray t r listed=true→wpList P l.toArray Q (r.filterMap fun k=>(l.drop k).head?) a w→Rg P l.toArray Q S t fuel listed a w
 | [],listed,a,w,fuel,hf,hl,hB,h=>by
  have hr:Region.ready .any l.toArray listed=[]:=by simpa [rgS] using hB
  cases fuel with
  | zero=>exact ⟨hr,h⟩
  | succ fuel=>exact ⟨fun _=>h,by rw [hr];simp⟩
 | k::r,listed,a,w,fuel,hf,hl,hB,h=>by
  obtain ⟨fuel,rfl⟩:∃m,fuel=m+1:=⟨fuel - 1,by simp at hf;omega⟩
  simp only [rgS,Bool.and_eq_true,decide_eq_true_eq] at hB
  obtain ⟨⟨hr,ht⟩,hB⟩:=hB
  have hk:k < l.length:=hl k (by simp)
  have h0:(l.drop k).head?=some l[k]:=by rw [List.head?_drop,List.getElem?_eq_getElem hk]
  refine ⟨fun h=>(by rw [hr] at h;cases h),fun j hj=>?_⟩
  rw [hr] at hj
  obtain rfl:j=k:=by simpa using hj
  rw [List.filterMap_cons,h0] at h
  have hw:wpOp P l.toArray Q j (wpList P l.toArray Q (r.filterMap fun k=>(l.drop k).head?)) a w:=by
   unfold wpOp
   rw [head_get h0]
   exact h
  exact wpOp_mono (fun a' w' h'=>⟨.inr ht,Rg.rowAux r _ a' w' fuel (by simp at hf;omega) (fun k hk=>hl k (by simp [hk])) hB h'⟩) hw
theorem Rg.row {fuel:Nat} {listed:Array Bool} {a:Act} {w:World} (r:List Nat) (os:List Oper) (ho:(r.filterMap fun k=>(l.drop k).head?)=os) (hB:(decide (r.length≤fuel) && r.all (fun k=>decide (k < l.length)) && rgS l.toArray t r listed)=true)
  (h:wpList P l.toArray Q os a w):Rg P l.toArray Q S t fuel listed a w:=by
 simp only [Bool.and_eq_true,decide_eq_true_eq,List.all_eq_true] at hB
 subst ho
 exact Rg.rowAux r listed a w fuel hB.1.1 hB.1.2 hB.2 h
theorem Rg.start {id:Nat} {a:Act} {w:World} (t:Nat) (S:World→Prop) (m:Nat) (hl:l.length=m) (hm:P.follows .mixedOrders=true) (h:Rg P l.toArray Q S t m (Array.replicate m false) a w.drew):(Code.region id l.toArray true).wp P Q a w:=by
 subst hl
 exact wp_region_any hm (Rg.any _ _ _ _ h)
end
end Go.Proofs.Ytjccgneimknbpaa.L
namespace Go.Proofs.Ytjccgneimknbpaa.L
open Go.RowKit
theorem step_call {P:Program} {ops:Array Oper} {o:Oper} {a:Act} {w:World} {K:Act→World→Prop} {Q:Exit→Act→World→Prop} {E:Prop} (f:Nat) (hgd:o.guard=none) {xs:Array Operand} {ts:Array TypeId}
  (ho:o.op=.call { callee:=.value (.func f),args:=xs,argTypes:=ts }) (h:Oper.wp P o a w K Q):if Region.wanted o (yielded ops a.tmps)=true then Oper.wp P o a w K Q else E:=by
 have hw:Region.wanted o (yielded ops a.tmps)=true:=by simp [Region.wanted,hgd]
 rw [if_pos hw]
 exact h
theorem Rw_bound {α:Type} {d:Kn α} {e:Nat} {w:World} {ok:Nat→Prop} {v:Value} {xs:List α} (h:d.Rw e w ok v xs):d.Rw e w (fun b=>ok b∧b < w.heap.size) v xs:=by
 obtain ⟨inner,ho,hi⟩:=h
 exact ⟨inner,ho,fun j x hj=>d.K_bound (hi j x hj)⟩
theorem blk_ne {w:World} {g h t t':Nat} {cs cs':List Value} (hg:Blk w g t cs) (hh:Blk w h t' cs') (ht:t≠t'):g≠h:=fun e=>by
 subst e
 unfold Blk at hg hh
 rw [hg] at hh
 injection hh with hh
 injection hh with _ hh _
 exact ht hh
def OkJ (B h:Nat) (v0 v1:Value) (b:Nat):Prop:=B≤b∧¬b=h∧¬v0.ownBlock=some b∧¬v1.ownBlock=some b
structure NS (We w:World) (h g k Bb:Nat) (ps:List Piece) (js:List Joint) (v0 v1:Value):Prop where
 f:Blk w h 26 [v0,v1]
 p:pieceK.Rw 64 w nobody v0 ps
 j:(jointK 102).Rw 97 w (OkJ We.heap.size h v0 v1) v1 js
 hB:We.heap.size≤h
 o0:∀b,v0.ownBlock=some b→We.heap.size≤b
 o1:∀b,v1.ownBlock=some b→We.heap.size≤b
 gB:g < We.heap.size
 bB:Bb≤We.heap.size
 c:Cb w g k Bb
 K:Keep (fun b=>b=g) We w
section
variable {We w w' wa w2:World} {h g k m Bb:Nat} {ps:List Piece} {js:List Joint} {v0 v1 v':Value}
theorem NS.size (H:NS We w h g k Bb ps js v0 v1):We.heap.size≤w.heap.size:=H.K.size
theorem NS.cursor (H:NS We w h g k Bb ps js v0 v1) (hk:Keep (fun b=>b=g) w w') (hc:Cb w' g m Bb):NS We w' h g m Bb ps js v0 v1:=by
 have hg:=H.gB
 refine ⟨H.f.keep hk (fun e=>?_),H.p.grownK hk (fun b hb e=>?_) (fun _ hb=>hb.elim),H.j.grownK hk (fun b hb e=>?_) (fun b hb _ e=>?_),H.hB,H.o0,H.o1,H.gB,H.bB,hc,H.K.trans hk (fun _ _ e=>e)⟩
 ·have:=H.hB;omega
 ·have:=H.o0 b hb;omega
 ·have:=H.o1 b hb;omega
 ·have:=hb.1;omega
theorem NS.below (H:NS We w h g k Bb ps js v0 v1) (hb:Below w.heap.size w w'):NS We w' h g k Bb ps js v0 v1 :=
 ⟨H.f.below hb H.f.lt,H.p.below hb,H.j.below hb,H.hB,H.o0,H.o1,H.gB,H.bB,H.c.below hb,H.K.below hb⟩
theorem NS.drew (H:NS We w h g k Bb ps js v0 v1):NS We w.drew h g k Bb ps js v0 v1:=H.below (Below.refl _ _).drew
theorem NS.rest (H:NS We w h g k Bb ps js v0 v1) {v:Value} (hv:∀b,v.ownBlock=some b→We.heap.size≤b) (hb:Below w.heap.size w wa) (hg:wa.grownBy w2 v.ownBlock) (u:Value) (i:Nat) :
  Cb (w2.setCell ⟨h,i,none⟩ u) g k Bb∧Keep (fun b=>b=g) We (w2.setCell ⟨h,i,none⟩ u)∧Keep (fun b=>b=h∨v.ownBlock=some b) w (w2.setCell ⟨h,i,none⟩ u):=by
 have hK:Keep (fun b=>b=h∨v.ownBlock=some b) w (w2.setCell ⟨h,i,none⟩ u) :=
  ((Keep.of_below hb).grown hg (fun k hk _=>.inr hk)).setCell (p:=⟨h,i,none⟩) (fun _=>.inl rfl) u
 have hBh:=H.hB
 have hgB:=H.gB
 have hbB:=H.bB
 refine ⟨H.c.keep hK (fun e=>?_) (fun b hb' _ e=>?_),H.K.trans hK (fun x hx e=>?_),hK⟩
 ·rcases e with e | e
  ·omega
  ·have:=hv g e;omega
 ·rcases e with e | e
  ·omega
  ·have:=hv b e;omega
 ·rcases e with e | e
  ·omega
  ·have:=hv x e;omega
theorem NS.addP {x:Piece} (H:NS We w h g k Bb ps js v0 v1) (hb:Below w.heap.size w wa) (hr:pieceK.Rw 64 w2 nobody v' (ps++[x])) (hg:wa.grownBy w2 v0.ownBlock) (hat:v'.ownBlock=v0.ownBlock∨v'.ownBlock=some wa.heap.size) :
  NS We (w2.setCell ⟨h,0,none⟩ v') h g k Bb (ps++[x]) js v' v1∧Keep (fun b=>b=h∨v0.ownBlock=some b) w (w2.setCell ⟨h,0,none⟩ v'):=by
 obtain ⟨h1,h2,h3⟩:=H.rest H.o0 hb hg v' 0
 have hws:w.heap.size≤wa.heap.size:=hb.size
 have hf:Blk wa h 26 [v0,v1]:=H.f.below hb H.f.lt
 have hn0:¬v0.ownBlock=some h:=own_not H.p H.f (by decide)
 have hn1:¬v1.ownBlock=some h:=own_not H.j H.f (by decide)
 have hf2:Blk w2 h 26 [v0,v1]:=(hg.block h hf.lt (fun e=>hn0 e.symm)).trans hf
 have hn':¬v'.ownBlock=some h:=own_not hr hf2 (by decide)
 have hB:=H.K.size
 refine ⟨⟨hf2.set_ 0 v',Kn.Rw.move (fun b hb=>Below.heap_setCell _ _ _ _ (fun e=>hn' (by rw [←show b=h from e];exact hb))) (fun _ e=>e.elim) hr,?_,H.hB,own_next H.o0 hat (Nat.le_trans hB hws),H.o1,H.gB,H.bB,h1,h2⟩,h3⟩
 have hjb:=Rw_bound H.j
 refine Kn.Rw.mono (fun b hb=>?_) (Kn.Rw.grownK h3 (fun b hb e=>?_) (fun b hb _ e=>?_) hjb)
 ·obtain ⟨⟨a1,a2,a3,a4⟩,a5⟩:=hb
  refine ⟨a1,a2,fun e=>?_,a4⟩
  rcases hat with hat | hat
  ·exact a3 (hat▸e)
  ·rw [hat] at e
   have:=Option.some.inj e
   omega
 ·rcases e with e | e
  ·exact hn1 (e▸hb)
  ·exact own_apart H.p H.j (by decide) e hb
 ·rcases e with e | e
  ·exact hb.1.2.1 e
  ·exact hb.1.2.2.1 e
theorem NS.addJ {x:Joint} (H:NS We w h g k Bb ps js v0 v1) (hb:Below w.heap.size w wa) (hr:(jointK 102).Rw 97 w2 (fun b=>OkJ We.heap.size h v0 v1 b∧b < wa.heap.size) v' (js++[x])) (hg:wa.grownBy w2 v1.ownBlock) (hat:v'.ownBlock=v1.ownBlock∨v'.ownBlock=some wa.heap.size) :
  NS We (w2.setCell ⟨h,1,none⟩ v') h g k Bb ps (js++[x]) v0 v'∧Keep (fun b=>b=h∨v1.ownBlock=some b) w (w2.setCell ⟨h,1,none⟩ v'):=by
 obtain ⟨h1,h2,h3⟩:=H.rest H.o1 hb hg v' 1
 have hws:w.heap.size≤wa.heap.size:=hb.size
 have hf:Blk wa h 26 [v0,v1]:=H.f.below hb H.f.lt
 have hn0:¬v0.ownBlock=some h:=own_not H.p H.f (by decide)
 have hn1:¬v1.ownBlock=some h:=own_not H.j H.f (by decide)
 have hf2:Blk w2 h 26 [v0,v1]:=(hg.block h hf.lt (fun e=>hn1 e.symm)).trans hf
 have hn':¬v'.ownBlock=some h:=own_not hr hf2 (by decide)
 have hB:=H.K.size
 refine ⟨⟨hf2.set_ 1 v',H.p.grownK h3 (fun b hb e=>?_) (fun _ e=>e.elim),?_,H.hB,H.o0,own_next H.o1 hat (Nat.le_trans hB hws),H.gB,H.bB,h1,h2⟩,h3⟩
 ·rcases e with e | e
  ·exact hn0 (e▸hb)
  ·exact own_apart H.j H.p (by decide) e hb
 ·refine Kn.Rw.mono (fun b hb=>?_) (Kn.Rw.move (fun b hb=>Below.heap_setCell _ _ _ _ (fun e=>hn' (by rw [←show b=h from e];exact hb))) (fun b hb=>Below.heap_setCell _ _ _ _ (fun e=>hb.1.2.1 e)) hr)
  obtain ⟨⟨a1,a2,a3,a4⟩,a5⟩:=hb
  refine ⟨a1,a2,a3,fun e=>?_⟩
  rcases hat with hat | hat
  ·exact a4 (hat▸e)
  ·rw [hat] at e
   have:=Option.some.inj e
   omega
theorem NS.forJ (H:NS We w h g k Bb ps js v0 v1) (hb:Below w.heap.size w wa):(jointK 102).Rw 97 wa (fun b=>OkJ We.heap.size h v0 v1 b∧b < wa.heap.size) v1 js :=
 Kn.Rw.below hb (Kn.Rw.mono (fun b hb'=>⟨hb'.1,Nat.lt_of_lt_of_le hb'.2 hb.size⟩) (Rw_bound H.j))
theorem NS.okNew (H:NS We w h g k Bb ps js v0 v1) {b:Nat} (hb:w.heap.size≤b) (hlt:b < wa.heap.size):OkJ We.heap.size h v0 v1 b∧b < wa.heap.size:=by
 have h1:=H.f.lt
 have h2:=H.K.size
 refine ⟨⟨by omega,by omega,fun e=>?_,fun e=>?_⟩,hlt⟩
 ·have:=H.p.lt b e;omega
 ·have:=H.j.lt b e;omega
end
end Go.Proofs.Ytjccgneimknbpaa.L
namespace Go.Proofs.Ytjccgneimknbpaa.L
open Go.RowKit
open Classical
noncomputable def succs (n:Net) (e:End):List End :=
 let jk:=atJ n ⟨e.piece,1 - e.side⟩
 let x:=jt n jk.1
 if x.kind=3 then (if jk.2=0 then [en x 1,en x 2] else []) else across x jk.2
structure Shut (n:Net) (seen:List End) (fl:List Flank) (seen':List End) (fl':List Flank) (e:End):Prop where
 has:e∈seen'
 sub:∀v∈seen,v∈seen'
 kept:fl'=[]→fl=[]
 shut:fl'=[]→∀v∈seen',v∈seen∨(¬succs n v=[]∧∀u∈succs n v,u∈seen')
section
variable {n:Net} {ss:List Signal} {lies:List Lie} {a:Int}
end
end Go.Proofs.Ytjccgneimknbpaa.L
namespace Go.Proofs.Ytjccgneimknbpaa.L
open Classical
noncomputable def sws (n:Net):List Int:=((List.range n.joints.length).filter (fun j=>decide ((jt n j).kind=3))).map (fun (j:Nat)=>(j:Int))
noncomputable def free (n:Net) (r:Route):Nat:=(sws n).length - r.lies.length
section
variable {n:Net} {go:St→Route→Int→Int→Int→St} {r:Route} {x:Joint} {j k:Nat} {st:St}
end
section
variable {n:Net} {go:St→Route→Int→Int→Int→St} {r:Route} {x:Joint} {j k c:Nat}
end
end Go.Proofs.Ytjccgneimknbpaa.L
namespace Go.Proofs.Ytjccgneimknbpaa.L
open Go.RowKit
open Classical
theorem nameF_list (i:Nat):(nameF i).data.toList=UInt8.ofNat (97+i % 26)::Lib.decDigits i:=by
 unfold nameF
 rw [ByteArray.data_append,Array.toList_append,strOfNums_data]
 have h:(97+(i:Int) % 26).toNat=97+i % 26:=by omega
 simp only [List.map_cons,List.map_nil,h,List.singleton_append]
 rfl
theorem nameF_ne {i k:Nat} (h:¬i % 26=k % 26):¬nameF i=nameF k:=by
 intro e
 have h1:=congrArg (fun s:ByteArray=>s.data.toList) e
 simp only [nameF_list] at h1
 injection h1 with h2 _
 have h3:=congrArg UInt8.toNat h2
 simp only [UInt8.toNat_ofNat'] at h3
 omega
theorem dec_dig:∀(m u:Nat),u≤m→∀b∈Lib.decDigits u,nameB b.toNat:=by
 have dig:∀d,d < 10→nameB (UInt8.ofNat (48+d)).toNat:=fun d hd=>by
  unfold nameB
  simp only [UInt8.toNat_ofNat']
  omega
 intro m
 induction m with
 | zero =>
  intro u hu b hb
  rw [Lib.decDigits,dif_pos (by omega),List.mem_singleton] at hb
  rw [hb]
  exact dig u (by omega)
 | succ m ih =>
  intro u hu b hb
  by_cases h:u < 10
  ·rw [Lib.decDigits,dif_pos h,List.mem_singleton] at hb
   rw [hb]
   exact dig u h
  ·rw [Lib.decDigits,dif_neg h,List.mem_append,List.mem_singleton] at hb
   rcases hb with hb | hb
   ·exact ih _ (by omega) b hb
   ·rw [hb]
    exact dig _ (Nat.mod_lt _ (by omega))
theorem dec_len {u:Nat} (h:u < 1000):(Lib.decDigits u).length≤3∧1≤(Lib.decDigits u).length:=by
 by_cases h1:u < 10
 ·rw [Lib.decDigits,dif_pos h1]
  simp
 rw [Lib.decDigits,dif_neg h1]
 by_cases h2:u / 10 < 10
 ·rw [Lib.decDigits,dif_pos h2]
  simp
 rw [Lib.decDigits,dif_neg h2,Lib.decDigits,dif_pos (by omega)]
 simp
theorem nameF_size {i:Nat} (h:i < 1000):(nameF i).size≤4∧2≤(nameF i).size:=by
 have h1:(nameF i).size=(nameF i).data.toList.length:=by rw [Array.length_toList];rfl
 rw [h1,nameF_list,List.length_cons]
 have:=dec_len h
 omega
theorem nameTo_of {s:ByteArray} (h:∀b∈s.data.toList,nameB b.toNat) (k:Nat):nameTo s k:=fun j hj _=>by
 refine h _ ?_
 have:j < s.data.toList.length:=by rw [Array.length_toList];exact hj
 have e:s[j]=s.data.toList[j]:=by rw [Array.getElem_toList];rfl
 rw [e]
 exact List.getElem_mem this
theorem nameF_ok {i:Nat} (h:i < 1000):nameP (nameF i):=by
 have hs:=nameF_size h
 refine ⟨by omega,by omega,nameTo_of (fun b hb=>?_) _⟩
 rw [nameF_list] at hb
 rcases List.mem_cons.1 hb with rfl | hb
 ·unfold nameB
  simp only [UInt8.toNat_ofNat']
  omega
 ·exact dec_dig i i (Nat.le_refl _) b hb
def PcOk (i:Nat) (p:Piece):Prop:=p.name=nameF i∧(1≤p.len∧p.len≤320)∧(1≤p.speed∧p.speed≤10000)∧1≤p.brake∧p.brake≤1000
def JnOk (i:Nat) (x:Joint):Prop:=(1≤x.kind∧x.kind≤4)∧(x.ends.length:Int)=x.kind∧(x.kind < 3→x.name=⟨#[]⟩)∧(3≤x.kind→x.name=nameF (100+i))
def EachOk {α:Type} (P:Nat→α→Prop) (xs:List α):Prop:=∀(i:Nat) x,xs[i]?=some x→P i x
theorem EachOk.nil {α:Type} {P:Nat→α→Prop}:EachOk P []:=fun i x h=>by simp at h
theorem EachOk.snoc {α:Type} {P:Nat→α→Prop} {xs:List α} {x:α} (h:EachOk P xs) (hx:P xs.length x):EachOk P (xs++[x]):=fun i y hy=>by
 by_cases hi:i < xs.length
 ·rw [List.getElem?_append_left hi] at hy
  exact h i y hy
 ·have h1:=(List.getElem?_eq_some_iff.1 hy).1
  rw [List.length_append,List.length_singleton] at h1
  obtain rfl:i=xs.length:=by omega
  rw [List.getElem?_append_right (Nat.le_refl _),Nat.sub_self] at hy
  obtain rfl:=Option.some.inj hy
  exact hx
theorem tot_app {α:Type} (f:α→Nat) (xs ys:List α):tot f (xs++ys)=tot f xs+tot f ys:=by simp [tot]
theorem tot_sing {α:Type} (f:α→Nat) (x:α):tot f [x]=f x:=by simp [tot]
theorem tot_perm {α:Type} (f:α→Nat) {xs ys:List α} (h:xs.Perm ys):tot f xs=tot f ys:=by
 induction h with
 | nil=>rfl
 | cons x _ ih=>simp only [tot,List.map_cons,List.sum_cons] at ih ⊢;omega
 | swap x y l=>simp only [tot,List.map_cons,List.sum_cons];omega
 | trans _ _ ih1 ih2=>omega
theorem usesIn_app (a b:List End) (e:End):usesIn (a++b) e=usesIn a e+usesIn b e:=tot_app _ _ _
theorem usesIn_sing (a e:End):usesIn [a] e=if a=e then 1 else 0:=by
 unfold usesIn
 rw [tot_sing]
 by_cases h:a=e
 ·rw [eqv_true h,if_pos rfl,if_pos h]
 ·rw [eqv_false h,if_neg (by simp),if_neg h]
def Once (k:Nat) (js:List Joint) (rest:List End):Prop:=∀e,uses js e+usesIn rest e=if endP k e then 1 else 0
theorem Once.nil:Once 0 [] []:=fun e=>by
 have:¬endP 0 e:=fun h=>by have:=h.1;omega
 rw [if_neg this]
 rfl
theorem endP_succ (k:Nat) (e:End):endP (k+1) e↔endP k e∨e=⟨k,0⟩∨e=⟨k,1⟩:=by
 obtain ⟨p,s⟩:=e
 unfold endP
 simp only [End.mk.injEq]
 omega
theorem Once.piece {k:Nat} {js:List Joint} {rest:List End} (h:Once k js rest):Once (k+1) js (rest++[⟨k,0⟩,⟨k,1⟩]):=fun e=>by
 have h1:=h e
 have h2:usesIn (rest++[⟨k,0⟩,⟨k,1⟩]) e=usesIn rest e+((if (⟨k,0⟩:End)=e then 1 else 0)+(if (⟨k,1⟩:End)=e then 1 else 0)):=by
  rw [show ([⟨k,0⟩,⟨k,1⟩]:List End)=[⟨k,0⟩]++[⟨k,1⟩] from rfl,usesIn_app,usesIn_app,usesIn_sing,usesIn_sing]
 rw [h2]
 by_cases c0:(⟨k,0⟩:End)=e
 ·subst c0
  have n0:¬endP k ⟨(k:Int),0⟩:=fun h=>by have:=h.1;simp only at this;omega
  rw [if_neg n0] at h1
  rw [if_pos rfl,if_neg (by simp),if_pos ((endP_succ k _).2 (.inr (.inl rfl)))]
  omega
 by_cases c1:(⟨k,1⟩:End)=e
 ·subst c1
  have n0:¬endP k ⟨(k:Int),1⟩:=fun h=>by have:=h.1;simp only at this;omega
  rw [if_neg n0] at h1
  rw [if_neg (by simp),if_pos rfl,if_pos ((endP_succ k _).2 (.inr (.inr rfl)))]
  omega
 rw [if_neg c0,if_neg c1]
 by_cases ce:endP k e
 ·rw [if_pos ce] at h1
  rw [if_pos ((endP_succ k e).2 (.inl ce))]
  omega
 ·rw [if_neg ce] at h1
  rw [if_neg (fun hs=>by
   rcases (endP_succ k e).1 hs with hs | hs | hs
   ·exact ce hs
   ·exact c0 hs.symm
   ·exact c1 hs.symm)]
  omega
theorem Once.perm {k:Nat} {js:List Joint} {a b:List End} (h:Once k js a) (hp:b.Perm a):Once k js b:=fun e=>by
 rw [show usesIn b e=usesIn a e from tot_perm _ hp]
 exact h e
theorem Once.joint {k:Nat} {js:List Joint} {x:Joint} {rest:List End} (h:Once k js (x.ends++rest)):Once k (js++[x]) rest:=fun e=>by
 have h1:=h e
 rw [usesIn_app] at h1
 unfold uses at h1 ⊢
 rw [tot_app,tot_sing]
 omega
theorem Once.ends {k:Nat} {js:List Joint} {rest:List End} (h:Once k js rest):∀x∈js,∀e∈x.ends,endP k e:=fun x hx e he=>by
 refine Classical.byContradiction fun hc=>?_
 have h1:=h e
 rw [if_neg hc] at h1
 obtain ⟨i,hi⟩:=List.mem_iff_getElem?.1 he
 have h2:=usesIn_one hi
 have h3:usesIn x.ends e≤uses js e:=tot_in (f:=fun j:Joint=>usesIn j.ends e) hx
 omega
structure Dn (k:Nat) (ps:List Piece) (js:List Joint) (rest:List End):Prop where
 p:EachOk PcOk ps
 len:ps.length=k
 j:EachOk JnOk js
 u:Once k js rest
 t:tot (fun x=>x.ends.length) js+rest.length=2*k
theorem Dn.nil:Dn 0 [] [] []:=⟨EachOk.nil,rfl,EachOk.nil,Once.nil,rfl⟩
theorem Dn.piece {k:Nat} {ps:List Piece} {js:List Joint} {rest:List End} {p:Piece} (h:Dn k ps js rest) (hp:PcOk k p):Dn (k+1) (ps++[p]) js (rest++[⟨k,0⟩,⟨k,1⟩]):=by
 have hk:=h.len
 have ht:=h.t
 exact ⟨h.p.snoc (by rw [hk];exact hp),by rw [List.length_append,List.length_singleton,hk],h.j,h.u.piece,by rw [List.length_append];simp only [List.length_cons,List.length_nil];omega⟩
theorem Dn.swap {k:Nat} {ps:List Piece} {js:List Joint} {rest:List End} {i m:Nat} {x y:End} (h:Dn k ps js rest) (hi:rest[i]?=some x) (hm:rest[m]?=some y):Dn k ps js ((rest.set i y).set m x):=by
 obtain ⟨i1,i2⟩:=List.getElem?_eq_some_iff.1 hi
 obtain ⟨m1,m2⟩:=List.getElem?_eq_some_iff.1 hm
 subst i2 m2
 refine ⟨h.p,h.len,h.j,h.u.perm (List.set_set_perm i1 m1),?_⟩
 rw [List.length_set,List.length_set]
 exact h.t
theorem Dn.perm {k:Nat} {ps:List Piece} {js:List Joint} {a b:List End} (h:Dn k ps js a) (hp:b.Perm a):Dn k ps js b:=⟨h.p,h.len,h.j,h.u.perm hp,by rw [hp.length_eq];exact h.t⟩
theorem Dn.joint {k:Nat} {ps:List Piece} {js:List Joint} {x:Joint} {rest:List End} (h:Dn k ps js (x.ends++rest)) (hx:JnOk js.length x):Dn k ps (js++[x]) rest:=by
 have ht:=h.t
 refine ⟨h.p,h.len,h.j.snoc hx,h.u.joint,?_⟩
 rw [tot_app,tot_sing]
 rw [List.length_append] at ht
 omega
theorem Dn.jlen {k:Nat} {ps:List Piece} {js:List Joint} {rest:List End} (h:Dn k ps js rest):js.length+rest.length≤2*k:=by
 have ht:=h.t
 have key:∀l:List Joint,(∀x∈l,1≤x.ends.length)→l.length≤tot (fun x=>x.ends.length) l:=by
  intro l
  induction l with
  | nil=>intro _;exact Nat.zero_le _
  | cons a l ih =>
   intro hl
   have h1:=ih (fun x hx=>hl x (by simp [hx]))
   have h2:=hl a (by simp)
   have h3:tot (fun x:Joint=>x.ends.length) (a::l)=a.ends.length+tot (fun x=>x.ends.length) l:=by simp [tot]
   rw [List.length_cons,h3]
   omega
 have:=key js (fun x hx=>by
  obtain ⟨i,hi⟩:=List.mem_iff_getElem?.1 hx
  have:=h.j i x hi
  have h1:=this.1
  have h2:=this.2.1
  omega)
 omega
structure Dr (n:Net):Prop where
 d:Dn n.pieces.length n.pieces n.joints []
 pos:1≤n.pieces.length
 le:n.pieces.length≤10
 few:n.pieces.length≤9∨∀x∈n.joints,x.kind=1∨x.kind=3
theorem Dr.jle {n:Net} (h:Dr n):n.joints.length≤20:=by
 have h1:=h.d.jlen
 have h2:=h.le
 omega
theorem Dr.ok {n:Net} (h:Dr n):netOk n=⟨0,0⟩:=by
 have hjl:=h.jle
 have hle:=h.le
 have hpos:=h.pos
 have hpn:∀{i:Nat} {p:Piece},n.pieces[i]?=some p→p.name=nameF i:=fun {i p} hp=>(h.d.p i p hp).1
 have hjn:∀{i:Nat} {x:Joint},n.joints[i]?=some x→3≤x.kind→x.name=nameF (100+i):=fun {i x} hx=>(h.d.j i x hx).2.2.2
 refine netOk_0 ?_ (fun i hi=>?_) (fun i hi=>?_) (fun i hi=>?_) (fun i hi=>?_)
 ·rintro (e | e | e) <;> omega
 ·rintro ⟨p,hp,hb⟩
  obtain ⟨e1,e2,e3,e4⟩:=h.d.p i p hp
  rcases hb with hb | ⟨j,hj,hs⟩
  ·refine hb ⟨by rw [e1];exact nameF_ok (by omega),by omega,by omega,e3.1,e3.2,e4.1,e4.2⟩
  ·rw [List.getElem?_map,Option.map_eq_some_iff] at hs
   obtain ⟨q,hq,hs⟩:=hs
   rw [hpn hq,e1] at hs
   exact nameF_ne (by omega) hs
 ·rintro ⟨x,hx,hb⟩
  obtain ⟨e1,e2,_,_⟩:=h.d.j i x hx
  exact hb ⟨e1,e2,h.d.u.ends x (List.mem_of_getElem? hx)⟩
 ·rintro ⟨x,hx,hb⟩
  obtain ⟨e1,e2,e3,e4⟩:=h.d.j i x hx
  rcases hb with ⟨b1,b2⟩ | ⟨b1,b2⟩
  ·exact b2 (e3 b1)
  ·rcases b2 with b2 | ⟨j,hj,hs⟩
   ·exact b2 (by rw [e4 b1];exact nameF_ok (by omega))
   ·rw [List.getElem?_map,Option.map_eq_some_iff] at hs
    obtain ⟨y,hy,hs⟩:=hs
    obtain ⟨f1,f2,f3,f4⟩:=h.d.j j y hy
    rw [e4 b1] at hs
    by_cases hk:y.kind < 3
    ·rw [f3 hk] at hs
     have h1:=(nameF_size (i:=100+i) (by omega)).2
     rw [←hs] at h1
     exact absurd h1 (by decide)
    ·rw [f4 (by omega)] at hs
     exact nameF_ne (by omega) hs
 ·have key:∀s:Int,(s=0∨s=1)→uses n.joints ⟨i,s⟩=1:=fun s hs=>by
   have h1:=h.d.u ⟨i,s⟩
   rw [if_pos (by unfold endP;simp only;omega)] at h1
   exact h1
  rintro (e | e)
  ·exact e (key 0 (.inl rfl))
  ·exact e (key 1 (.inr rfl))
structure Ss (n:Net) (ss:List Signal):Prop where
 name:EachOk (fun i s=>s.name=nameF i∧signalP n s) ss
 apart:∀i,i < ss.length→¬before ss i i
 len:ss.length≤8
theorem Ss.ok {n:Net} {ss:List Signal} (hn:Dr n) (h:Ss n ss):signalsOk n ss=⟨0,0⟩:=by
 have:=h.len
 refine signalsOk_0 hn.ok (by omega) (fun j hj=>?_) h.apart
 rintro ⟨s,hs,hb⟩
 exact hb (h.name j s hs).2
theorem before_app {ss:List Signal} {x:Signal} {i k:Nat} (hi:i < ss.length) (hk:k≤i) (h:before (ss++[x]) i k):before ss i k:=by
 obtain ⟨j,a,b,hj,ha,hb,hc⟩:=h
 rw [List.getElem?_append_left (by omega)] at ha
 rw [List.getElem?_append_left hi] at hb
 exact ⟨j,a,b,hj,ha,hb,hc⟩
theorem Ss.nil {n:Net}:Ss n []:=⟨EachOk.nil,fun i hi=>by simp at hi,by simp⟩
theorem Ss.snoc {n:Net} {ss:List Signal} {x:Signal} (h:Ss n ss) (hx:x.name=nameF ss.length∧signalP n x) (hb:¬before (ss++[x]) ss.length ss.length) (hl:ss.length < 8):Ss n (ss++[x]):=by
 refine ⟨h.name.snoc hx,fun i hi hbi=>?_,by rw [List.length_append,List.length_singleton];omega⟩
 rw [List.length_append,List.length_singleton] at hi
 by_cases e:i=ss.length
 ·subst e
  exact hb hbi
 ·exact h.apart i (by omega) (before_app (by omega) (Nat.le_refl _) hbi)
structure Sm (n:Net):Prop where
 p:n.pieces.length≤300
 j:n.joints.length≤300
 pn:∀p∈n.pieces,p.name.size≤40
 jn:∀x∈n.joints,x.name.size≤40∧x.ends.length≤40
theorem tot_bound {α:Type} {f:α→Nat} {c:Nat}:∀{xs:List α},(∀x∈xs,f x≤c)→tot f xs≤xs.length*c
 | [],_=>by simp [tot]
 | a::l,h=>by
  have h1:=tot_bound (xs:=l) (fun x hx=>h x (by simp [hx]))
  have h2:=h a (by simp)
  have h3:tot f (a::l)=f a+tot f l:=by simp [tot]
  rw [h3,List.length_cons,Nat.succ_mul]
  omega
theorem Sm.netIn {n:Net} (h:Sm n):NetIn n:=by
 have hp:=h.p
 have hj:=h.j
 have t1:=tot_bound (f:=Piece.n) (c:=40) (xs:=n.pieces) h.pn
 have t2:=tot_bound (f:=Joint.n) (c:=80) (xs:=n.joints) (fun x hx=>by have:=h.jn x hx;unfold Joint.n;omega)
 have t3:=Nat.mul_le_mul_right 40 hp
 have t4:=Nat.mul_le_mul_right 80 hj
 refine ⟨?_,fun p hp=>?_,fun x hx=>?_⟩
 ·unfold Net.n lenS
  omega
 ·have:=h.pn p hp
  unfold Piece.fit maxN
  omega
 ·have:=(h.jn x hx).1
  unfold Joint.fit maxN
  omega
theorem Dr.sm {n:Net} (h:Dr n):Sm n:=by
 have h1:=h.jle
 have h2:=h.le
 refine ⟨by omega,by omega,fun p hp=>?_,fun x hx=>?_⟩
 ·obtain ⟨i,hi⟩:=List.mem_iff_getElem?.1 hp
  have:=(List.getElem?_eq_some_iff.1 hi).1
  rw [(h.d.p i p hi).1]
  have:=nameF_size (i:=i) (by omega)
  omega
 ·obtain ⟨i,hi⟩:=List.mem_iff_getElem?.1 hx
  have:=(List.getElem?_eq_some_iff.1 hi).1
  obtain ⟨e1,e2,e3,e4⟩:=h.d.j i x hi
  refine ⟨?_,by omega⟩
  by_cases hk:x.kind < 3
  ·rw [e3 hk]
   exact Nat.zero_le _
  ·rw [e4 (by omega)]
   have:=nameF_size (i:=100+i) (by omega)
   omega
theorem sigIn_of {ss:List Signal} (hl:ss.length≤300) (h:∀s∈ss,s.name.size≤40):SigIn ss:=by
 have t1:=tot_bound (f:=Signal.n) (c:=40) (xs:=ss) h
 have t3:=Nat.mul_le_mul_right 40 hl
 refine ⟨?_,fun s hs=>?_⟩
 ·unfold lenS
  omega
 ·have:=h s hs
  unfold Signal.fit maxN
  omega
theorem Ss.names {n:Net} {ss:List Signal} (h:Ss n ss):∀s∈ss,s.name.size≤40:=fun s hs=>by
 obtain ⟨i,hi⟩:=List.mem_iff_getElem?.1 hs
 have h1:=(List.getElem?_eq_some_iff.1 hi).1
 have h2:=h.len
 rw [(h.name i s hi).1]
 have:=nameF_size (i:=i) (by omega)
 omega
theorem Ss.sigIn {n:Net} {ss:List Signal} (h:Ss n ss):SigIn ss:=sigIn_of (by have:=h.len;omega) h.names
end Go.Proofs.Ytjccgneimknbpaa.L
namespace Go.Proofs.Ytjccgneimknbpaa.L
open Go.RowKit
theorem dinfo64:(Try.prog.info? 64).map (fun i=>(i.zero,i.size,i.bytes))=some (some (.agg #[.string ⟨#[]⟩,.int .i64 0,.int .i64 0,.int .i64 0]),4,40):=by kernel_rfl
theorem dinfo97:(Try.prog.info? 97).map (fun i=>(i.zero,i.size,i.bytes))=some (some (.agg #[.int .i64 0,.string ⟨#[]⟩,.slice none 0 0]),3,48):=by kernel_rfl
theorem dinfo102:(Try.prog.info? 102).map (fun i=>(i.zero,i.size,i.bytes))=some (some (.agg #[.int .i64 0,.int .i64 0]),2,16):=by kernel_rfl
theorem dinfo62:(Try.prog.info? 62).map (fun i=>(i.zero,i.size,i.bytes))=some (some (.agg #[.string ⟨#[]⟩,.int .i64 0,.int .i64 0,.int .i64 0]),4,40):=by kernel_rfl
def RetPc (We w:World) (h g k Bb:Nat) (ps:List Piece) (js:List Joint) (v0 v1:Value) (e:Ending) (w':World):Prop :=
 e=.returned (.int .i64 ps.length)∧∃x v',Hid (PcOk ps.length x)∧Hid (NS We w' h g k Bb (ps++[x]) js v' v1)∧Hid (Keep (fun b=>b=g∨b=h∨v0.ownBlock=some b) w w')
set_option maxRecDepth 100000 in
set_option maxHeartbeats 4000000 in
theorem drPiece (We w:World) (q h g k Bb:Nat) (ps:List Piece) (js:List Joint) (v0 v1:Value) (H:Hid (NS We w h g k Bb ps js v0 v1)) (HQ:Hid (Blk w q 159 [.pointer (some ⟨g,0,none⟩)])) (hk:k≤1125899906842000) (hl:ps.length≤200) :
  Calls Try.prog 88 #[.pointer (some ⟨q,0,none⟩),.pointer (some ⟨h,0,none⟩)] w (RetPc We w h g (k+2) Bb ps js v0 v1):=by
 obtain ⟨A0,c0,rfl,hc0,_⟩:=H.out.p.form
 have s0:=H.out.f.cell 0 rfl
 have q0:=HQ.out.cell 0 rfl
 have hhz:h < w.heap.size:=H.out.f.lt
 have hqz:q < w.heap.size:=HQ.out.lt
 have hgh:¬h=g:=fun e=>by have h1:=H.out.hB;have h2:=H.out.gB;omega
 have HGQ:Hid (¬q=g):=Lib.hid (fun e=>by
  obtain ⟨A,c,bs,i,sd,h1,_⟩:=H.out.c.ex
  exact blk_ne HQ.out h1 (by decide) e)
 have m63:ps.length+1≤maxLen:=by simp only [maxLen];omega
 have mby:(ps.length+1)*40≤140737488355328:=by omega
 obtain ⟨iP,hiP,hzP,hyP,hxP⟩:=info_parts dinfo64
 go_enter Try.func88,Try.ntmps88
 go_wp2
 refine Rg.start 19 (fun w'=>w'.cell? ⟨h,0,none⟩=some (.slice A0 ps.length c0)∧w'.cell? ⟨q,0,none⟩=some (.pointer (some ⟨g,0,none⟩))) 23 rfl (by kernel_rfl) ?_
 have hHeld:w.drew.cell? ⟨h,0,none⟩=some (.slice A0 ps.length c0)∧w.drew.cell? ⟨q,0,none⟩=some (.pointer (some ⟨g,0,none⟩)):=⟨s0,q0⟩
 refine Rg.pure 0 (v:=?v1) rfl (by kernel_rfl) (fun _ _ _ h=>h) (by rfl) hHeld ?y1 ?h1
 case y1=>(intro wA;go_simp;first | done | with_reducible rfl)
 simp only [Act.put,List.setIfInBounds_toArray,List.set_cons_zero,List.set_cons_succ]
 refine Rg.pure 1 (v:=?v2) rfl (by kernel_rfl) (fun _ _ _ h=>h) (by rfl) hHeld ?y2 ?h2
 case y2=>(intro wA;go_simp;first | done | with_reducible rfl)
 simp only [Act.put,List.setIfInBounds_toArray,List.set_cons_zero,List.set_cons_succ]
 refine Rg.pure 2 (v:=?v3) rfl (by kernel_rfl) (fun _ _ _ h=>h) (by rfl) hHeld ?y3 ?h3
 case y3=>(intro wA;go_simp;first | done | with_reducible rfl)
 simp only [Act.put,List.setIfInBounds_toArray,List.set_cons_zero,List.set_cons_succ]
 refine Rg.pure 3 (v:=?v4) rfl (by kernel_rfl) (fun _ _ _ h=>h) (by rfl) hHeld ?y4 ?h4
 case y4=>(intro wA;go_simp;first | done | with_reducible rfl)
 simp only [Act.put,List.setIfInBounds_toArray,List.set_cons_zero,List.set_cons_succ]
 refine Rg.held 4 (v:=?v5) rfl (by kernel_rfl) (fun _ _ _ h=>h) (by rfl) hHeld ?y5 ?h5
 case y5=>(intro wA hSw;(try dsimp only at hSw);go_simp;first | done | with_reducible rfl)
 simp only [Act.put,List.setIfInBounds_toArray,List.set_cons_zero,List.set_cons_succ]
 refine Rg.pure 5 (v:=?v6) rfl (by kernel_rfl) (fun _ _ _ h=>h) (by rfl) hHeld ?y6 ?h6
 case y6=>(intro wA;go_simp;first | done | with_reducible rfl)
 simp only [Act.put,List.setIfInBounds_toArray,List.set_cons_zero,List.set_cons_succ]
 refine Rg.pure 6 (v:=?v7) rfl (by kernel_rfl) (fun _ _ _ h=>h) (by rfl) hHeld ?y7 ?h7
 case y7=>(intro wA;go_simp;first | done | with_reducible rfl)
 simp only [Act.put,List.setIfInBounds_toArray,List.set_cons_zero,List.set_cons_succ]
 refine Rg.pure 7 (v:=?v8) rfl (by kernel_rfl) (fun _ _ _ h=>h) (by rfl) hHeld ?y8 ?h8
 case y8=>(intro wA;go_simp;first | done | with_reducible rfl)
 simp only [Act.put,List.setIfInBounds_toArray,List.set_cons_zero,List.set_cons_succ]
 refine Rg.held 8 (v:=?v9) rfl (by kernel_rfl) (fun _ _ _ h=>h) (by rfl) hHeld ?y9 ?h9
 case y9=>(intro wA hSw;(try dsimp only at hSw);go_simp;first | done | with_reducible rfl)
 simp only [Act.put,List.setIfInBounds_toArray,List.set_cons_zero,List.set_cons_succ]
 refine Rg.pure 9 (v:=?v10) rfl (by kernel_rfl) (fun _ _ _ h=>h) (by rfl) hHeld ?y10 ?h10
 case y10=>(intro wA;go_simp;first | done | with_reducible rfl)
 simp only [Act.put,List.setIfInBounds_toArray,List.set_cons_zero,List.set_cons_succ]
 refine Rg.pure 11 (v:=?v11) rfl (by kernel_rfl) (fun _ _ _ h=>h) (by rfl) hHeld ?y11 ?h11
 case y11=>(intro wA;go_simp;first | done | with_reducible rfl)
 simp only [Act.put,List.setIfInBounds_toArray,List.set_cons_zero,List.set_cons_succ]
 refine Rg.pure 12 (v:=?v12) rfl (by kernel_rfl) (fun _ _ _ h=>h) (by rfl) hHeld ?y12 ?h12
 case y12=>(intro wA;go_simp;first | done | with_reducible rfl)
 simp only [Act.put,List.setIfInBounds_toArray,List.set_cons_zero,List.set_cons_succ]
 refine Rg.pure 13 (v:=?v13) rfl (by kernel_rfl) (fun _ _ _ h=>h) (by rfl) hHeld ?y13 ?h13
 case y13=>(intro wA;go_simp;first | done | with_reducible rfl)
 simp only [Act.put,List.setIfInBounds_toArray,List.set_cons_zero,List.set_cons_succ]
 refine Rg.held 14 (v:=?v14) rfl (by kernel_rfl) (fun _ _ _ h=>h) (by rfl) hHeld ?y14 ?h14
 case y14=>(intro wA hSw;(try dsimp only at hSw);go_simp;first | done | with_reducible rfl)
 simp only [Act.put,List.setIfInBounds_toArray,List.set_cons_zero,List.set_cons_succ]
 refine Rg.one 10 rfl (by kernel_rfl) (fun K hK=>?_)
 refine step_call 59 rfl rfl ?_
 go_simp
 go_at_call 59
 (with_reducible refine (curName ps.length g _ (by omega)).mono ?_)
 rintro e w1 ⟨rfl,hb1⟩
 have hb1:Below w.heap.size w w1:=Below.trans (Below.refl _ _).drew hb1
 have H1:=Lib.hid (H.out.below hb1)
 have HQ1:=Lib.hid (HQ.out.below hb1 hqz)
 have hHeld:w1.cell? ⟨h,0,none⟩=some (.slice A0 ps.length c0)∧w1.cell? ⟨q,0,none⟩=some (.pointer (some ⟨g,0,none⟩)):=⟨cell_below hb1 s0,cell_below hb1 q0⟩
 refine hK.out _ _ hHeld ?_
 clear hK K
 try simp only [Act.put,List.setIfInBounds_toArray,List.set_cons_zero,List.set_cons_succ]
 refine Rg.one 15 rfl (by kernel_rfl) (fun K hK=>?_)
 refine step_call 32 rfl rfl ?_
 go_simp
 go_at_call 32
 (with_reducible refine (curWide 300 299 g k Bb _ (Lib.hid H1.out.c) (by omega) (by omega) (by omega)).mono ?_)
 rintro e w2 ⟨vl,rfl,HV,HC,HK2⟩
 have vl0:=HV.out.1
 have vl1:=HV.out.2
 have H2:=Lib.hid (H1.out.cursor HK2.out HC.out)
 have HQ2:=Lib.hid (HQ1.out.keep HK2.out HGQ.out)
 have hHeld:w2.cell? ⟨h,0,none⟩=some (.slice A0 ps.length c0)∧w2.cell? ⟨q,0,none⟩=some (.pointer (some ⟨g,0,none⟩)):=⟨H2.out.f.cell 0 rfl,HQ2.out.cell 0 rfl⟩
 refine hK.out _ _ hHeld ?_
 clear hK K
 try simp only [Act.put,List.setIfInBounds_toArray,List.set_cons_zero,List.set_cons_succ]
 have wv:IntKind.i64.wrap (20+vl)=20+vl:=by rw [IntKind.wrap_i64];omega
 refine Rg.pure 16 (v:=?v15) rfl (by kernel_rfl) (fun _ _ _ h=>h) (by rfl) hHeld ?y15 ?h15
 case y15=>(intro wA;go_simp;first | done | with_reducible rfl)
 simp only [Act.put,List.setIfInBounds_toArray,List.set_cons_zero,List.set_cons_succ]
 refine Rg.pure 17 (v:=?v16) rfl (by kernel_rfl) (fun _ _ _ h=>h) (by rfl) hHeld ?y16 ?h16
 case y16=>(intro wA;go_simp;first | done | with_reducible rfl)
 simp only [Act.put,List.setIfInBounds_toArray,List.set_cons_zero,List.set_cons_succ]
 try simp only [wv]
 refine Rg.one 18 rfl (by kernel_rfl) (fun K hK=>?_)
 go_simp
 obtain ⟨x,hx⟩:∃x:Piece,Hid (x=⟨nameF ps.length,20+vl,100,20⟩):=⟨_,Lib.hid rfl⟩
 have hba:Below w2.heap.size w2 (w2.alloc (.cells #[.string (nameF ps.length),.int .i64 (20+vl),.int .i64 100,.int .i64 20] 64)):=below_alloc _ _
 refine hK.out _ _ ⟨cell_below hba hHeld.1,cell_below hba hHeld.2⟩ ?_
 clear hK K
 try simp only [Act.put,List.setIfInBounds_toArray,List.set_cons_zero,List.set_cons_succ]
 refine Rg.row [19,20,21,22] [_,_,_,_] rfl (by kernel_rfl) ?_
 have HX:Hid (PcOk ps.length x):=Lib.hid (by rw [hx.out];refine ⟨rfl,?_⟩;simp only;omega)
 have SRC:Hid (Kn.Src pieceK (w2.alloc (.cells #[.string (nameF ps.length),.int .i64 (20+vl),.int .i64 100,.int .i64 20] 64)) nobody (some ⟨w2.heap.size,0,none⟩) [x]):=Lib.hid (by rw [hx.out];exact Kn.Src.one (pieceK_mk _ _ ⟨nameF ps.length,20+vl,100,20⟩) (new_cells _ _ _ rfl))
 clear hHeld s0 q0
 go_wp2_with (at_builtin;refine wpList_append_rw _ rfl (.tmp 15) (.tmp 29) 23 rfl 64 iP _ 40 Try.underlying23 hiP hzP hyP hxP rfl (by decide) (.slice A0 ps.length c0) ps [x] rfl (H2.out.p.below hba) (fun _ h=>h.elim) (some ⟨w2.heap.size,0,none⟩) 1 1 rfl rfl SRC.out m63 mby ?_;intro v' w3 HR hg hat;obtain ⟨A9,c9,rfl,hc9⟩:=HR.form1;have hA:=H2.out.addP hba HR hg hat;have hBf:Blk w3 h 26 [.slice A0 ps.length c0,v1]:=(hg.block h (by have:=H2.out.f.lt;rw [size_alloc];omega) (fun e=>own_not H2.out.p H2.out.f (by decide) e.symm)).trans (H2.out.f.below hba H2.out.f.lt);have u0:=hBf.frozen 0;have hz3:h < w3.heap.size:=hBf.lt;have u1:=hBf.cell 0 rfl)
 go_ret
 exact ⟨rfl,x,_,HX,Lib.hid hA.1,Lib.hid (((Keep.of_below (S:=fun b=>b=g∨b=h∨(Value.slice A0 ps.length c0).ownBlock=some b) hb1).trans HK2.out (fun _ _ e=>.inl e)).trans hA.2 (fun _ _ e=>e.elim (fun e=>.inr (.inl e)) (fun e=>.inr (.inr e))))⟩
end Go.Proofs.Ytjccgneimknbpaa.L
namespace Go.Proofs.Ytjccgneimknbpaa.L
open Go.RowKit
theorem flat2:∀(xs:List End) (j i:Nat) (x:End) (u:Value),xs[j]?=some x→x.cs[i]?=some u→i < 2→(xs.flatMap End.cs)[j*2+i]?=some u
 | [],j,i,x,u,h,_,_=>by simp at h
 | a::xs,0,i,x,u,h,hu,hi=>by
  obtain rfl:a=x:=by simpa using h
  rw [List.flatMap_cons,Nat.zero_mul,Nat.zero_add,List.getElem?_append_left (by simpa using hi)]
  exact hu
 | a::xs,j+1,i,x,u,h,hu,hi=>by
  have:=flat2 xs j i x u (by simpa using h) hu hi
  rw [List.flatMap_cons,List.getElem?_append_right (by simp;omega)]
  have e:(j+1)*2+i - (End.cs a).length=j*2+i:=by simp;omega
  rw [e]
  exact this
theorem endsC {w:World} {b t:Nat} (xs:List End) (hl:decide (xs.length≤9)=true) (h:Blk w b t (xs.flatMap End.cs)):endK.C w (fun z=>z=b) (some ⟨b,0,none⟩) xs:=by
 have hl':=of_decide_eq_true hl
 refine ⟨by omega,fun _=>⟨⟨b,0,none⟩,rfl,rfl,h.lt,fun j x hj=>⟨x.cs,endK_mk _ _ x,fun i u hu=>?_⟩⟩⟩
 have hi:i < 2:=(List.getElem?_eq_some_iff.1 hu).1
 rw [add_zero]
 exact h.cell _ (flat2 xs j i x u hj hu hi)
theorem C_drewS {α:Type} {d:Kn α} {w:World} {ok:Nat→Prop} {A:Option Addr} {xs:List α} (h:d.C w ok A xs):d.C w.drew ok A xs :=
 Kn.C_move (w:=w) (fun _ _=>rfl) h
theorem curNameZ (u g:Nat) (z:Int) (w:World) (hz:z=(u:Int)) (hu:u≤1048576):Calls Try.prog 59 #[.pointer (some ⟨g,0,none⟩),.int .i64 z] w (RetStr (nameF u) w):=by
 subst hz
 exact curName u g w hu
def RetDr (g k Bb:Nat) (w:World) (e:Ending) (w':World):Prop :=
 ∃n A0 A1 c0 c1,e=.returned (.agg #[.slice A0 n.pieces.length c0,.slice A1 n.joints.length c1])∧Hid (Dr n)∧Hid (NC 102 w' (fun b=>w.heap.size≤b) n A0 A1)∧Hid (Cb w' g k Bb)∧Hid (Keep (fun b=>b=g) w w')
theorem drPieces (g:Nat) (w:World):Calls Try.prog 87 #[.pointer (some ⟨g,0,none⟩)] w (fun e w'=>∃q,e=.returned (.pointer (some ⟨q,0,none⟩))∧w.heap.size≤q∧Hid (Blk w' q 159 [.pointer (some ⟨g,0,none⟩)])∧Hid (Below w.heap.size w w')):=by
 go_enter Try.func87,Try.ntmps87
 go_wp2
 go_ret
 exact ⟨w.heap.size,rfl,Nat.le_refl _,Lib.hid (Blk.new _ _ _ rfl),Lib.hid (below_alloc _ _)⟩
section
variable {We w w':World} {h g k Bb r t:Nat} {ps:List Piece} {js:List Joint} {v0 v1:Value} {cs:List Value}
theorem NS.sideP (H:NS We w h g k Bb ps js v0 v1) (hb:Blk w r t cs) (hK:Keep (fun b=>b=g∨b=h∨v0.ownBlock=some b) w w') (h1:¬r=g) (h2:¬r=h) (ht:t≠64):Blk w' r t cs :=
 hb.keep hK (fun e=>e.elim h1 (fun e=>e.elim h2 (own_not H.p hb ht)))
theorem NS.sideJ (H:NS We w h g k Bb ps js v0 v1) (hb:Blk w r t cs) (hK:Keep (fun b=>b=h∨v1.ownBlock=some b) w w') (h2:¬r=h) (ht:t≠97):Blk w' r t cs :=
 hb.keep hK (fun e=>e.elim h2 (own_not H.j hb ht))
end
def K13 (js:List Joint):Prop:=∀x∈js,x.kind=1∨x.kind=3
theorem K13.snoc {js:List Joint} {x:Joint} (h:K13 js) (hx:x.kind=1∨x.kind=3):K13 (js++[x]):=fun y hy=>by
 rcases List.mem_append.1 hy with hy | hy
 ·exact h y hy
 ·rw [List.mem_singleton.1 hy]
  exact hx
theorem seven {α:Type} (x1 x2 x3 x4 x5 x6 x7:α):[x1,x2,x4,x6,x3,x5,x7].Perm [x1,x2,x3,x4,x5,x6,x7]:=by
 refine ((((List.perm_middle (a:=x3) (l₁:=[x4,x6]) (l₂:=[x5,x7])).trans ?_).cons x2).cons x1)
 exact (((List.Perm.swap x5 x6 [x7]).cons x4).cons x3)
theorem jn_end {i:Nat} {e:End}:JnOk i ⟨1,⟨#[]⟩,[e]⟩:=⟨⟨by show (1:Int)≤1;omega,by show (1:Int)≤4;omega⟩,rfl,fun _=>rfl,fun h=>by have:(3:Int)≤1:=h;omega⟩
theorem jn_switch {i:Nat} {a b c:End}:JnOk i ⟨3,nameF (100+i),[a,b,c]⟩:=⟨⟨by show (1:Int)≤3;omega,by show (3:Int)≤4;omega⟩,rfl,fun h=>by have:(3:Int) < 3:=h;omega,fun _=>rfl⟩
theorem station_start {x:Piece} (h:PcOk 0 x):Dn 1 [x] [⟨1,⟨#[]⟩,[⟨0,0⟩]⟩] [⟨0,1⟩]:=(Dn.nil.piece h).joint (x:=⟨1,⟨#[]⟩,[⟨0,0⟩]⟩) (rest:=[⟨0,1⟩]) jn_end
theorem station_round {n:Nat} {ps:List Piece} {js:List Joint} {x y z:Piece} (h:Dn (n+1) ps js [⟨n,1⟩]) (hx:PcOk (n+1) x) (hy:PcOk (n+2) y) (hz:PcOk (n+3) z) :
  Dn (n+4) (ps++[x]++[y]++[z]) (js++[⟨3,nameF (100+js.length),[⟨n,1⟩,⟨(n+1:Nat),0⟩,⟨(n+2:Nat),0⟩]⟩]++[⟨3,nameF (100+(js.length+1)),[⟨(n+3:Nat),0⟩,⟨(n+1:Nat),1⟩,⟨(n+2:Nat),1⟩]⟩]) [⟨(n+3:Nat),1⟩]:=by
 have h3:=((h.piece hx).piece hy).piece hz
 have h4:=h3.perm (seven (⟨n,1⟩:End) ⟨(n+1:Nat),0⟩ ⟨(n+1:Nat),1⟩ ⟨(n+2:Nat),0⟩ ⟨(n+2:Nat),1⟩ ⟨(n+3:Nat),0⟩ ⟨(n+3:Nat),1⟩)
 have h5:=Dn.joint (x:=⟨3,nameF (100+js.length),[⟨n,1⟩,⟨(n+1:Nat),0⟩,⟨(n+2:Nat),0⟩]⟩) (rest:=[⟨(n+3:Nat),0⟩,⟨(n+1:Nat),1⟩,⟨(n+2:Nat),1⟩,⟨(n+3:Nat),1⟩]) h4 jn_switch
 refine Dn.joint (x:=⟨3,nameF (100+(js.length+1)),[⟨(n+3:Nat),0⟩,⟨(n+1:Nat),1⟩,⟨(n+2:Nat),1⟩]⟩) (rest:=[⟨(n+3:Nat),1⟩]) h5 ?_
 rw [List.length_append,List.length_singleton]
 exact jn_switch
theorem station_end {n:Nat} {ps:List Piece} {js:List Joint} (h:Dn (n+1) ps js [⟨n,1⟩]) (h13:K13 js) (hn:n+1≤10):Dr ⟨ps,js++[⟨1,⟨#[]⟩,[⟨n,1⟩]⟩]⟩:=by
 have h1:=Dn.joint (x:=⟨1,⟨#[]⟩,[⟨n,1⟩]⟩) (rest:=[]) h jn_end
 have hl:=h.len
 refine ⟨by rw [hl];exact h1,by rw [hl];omega,by rw [hl];omega,.inr (h13.snoc (.inl rfl))⟩
set_option maxRecDepth 100000 in
set_option maxHeartbeats 4000000 in
theorem drStation (w:World) (g k Bb:Nat) (hc:Hid (Cb w g k Bb)) (hB:Bb≤w.heap.size) (hk:k≤1125899906841000):Calls Try.prog 57 #[.pointer (some ⟨g,0,none⟩)] w (RetDr g (k+40) Bb w):=by
 have hgw:g < w.heap.size:=hc.out.lt
 have iJ:=info_parts dinfo97
 obtain ⟨iJ,hiJ,hzJ,hyJ,hxJ⟩:=iJ
 go_enter Try.func57,Try.ntmps57
 go_upto_region 2 with (fail)
 obtain ⟨We,hWe,hWs,hbe,HRe⟩:∃W,Hid (W=w.alloc (.cells #[.slice none 0 0,.slice none 0 0] 26))∧W.heap.size=w.heap.size+1∧Hid (Below w.heap.size w W)∧Hid (Blk W w.heap.size 26 [.slice none 0 0,.slice none 0 0]):=⟨_,Lib.hid rfl,size_alloc _ _,Lib.hid (below_alloc _ _),Lib.hid (Blk.new _ _ _ rfl)⟩
 obtain ⟨W1,hW1,H1⟩:∃W,W=(w.alloc (.cells #[.slice none 0 0,.slice none 0 0] 26)).alloc (.cells #[.slice none 0 0,.slice none 0 0] 26)∧Hid (NS We W (w.heap.size+1) g k Bb [] [] (.slice none 0 0) (.slice none 0 0)):=by
  rw [←hWe.out]
  have hb:Below We.heap.size We (We.alloc (.cells #[.slice none 0 0,.slice none 0 0] 26)):=below_alloc _ _
  exact ⟨_,rfl,Lib.hid ⟨Blk.new _ _ _ hWs.symm,Kn.Rw.nil,Kn.Rw.nil,by omega,by simp [Value.ownBlock],by simp [Value.ownBlock],by omega,by omega,(hc.out.below hbe.out).below hb,Keep.of_below hb⟩⟩
 rw [←hW1]
 clear hW1
 go_wp2_with fail
 refine (drPieces g W1).mono ?_
 rintro e w2 ⟨q,rfl,hq,HQ2,HB2⟩
 have H2:=Lib.hid (H1.out.below HB2.out)
 have hqg:¬q=g:=fun e=>by have:=H1.out.size;omega
 have hqh:¬q=w.heap.size+1:=fun e=>by have:=H1.out.f.lt;omega
 have hrg:¬w.heap.size=g:=by omega
 have hrh:¬w.heap.size=w.heap.size+1:=by omega
 clear H1 hq HB2
 go_wp2_with fail
 refine (curPick 3 2 g k Bb _ (Lib.hid H2.out.c) (by omega) (by omega) (by omega) (by omega)).mono ?_
 rintro e w3 ⟨v3,rfl,HV3,HC3,HK3⟩
 have v3a:=HV3.out.1
 have v3b:=HV3.out.2
 have H3:=Lib.hid (H2.out.cursor HK3.out HC3.out)
 have HQ3:=Lib.hid (HQ2.out.keep HK3.out hqg)
 clear H2 HQ2 HC3 HK3
 go_wp2_with fail
 refine (drPiece We w3 q (w.heap.size+1) g (k+2) Bb [] [] _ _ H3 HQ3 (by omega) (by decide)).mono ?_
 rintro e w4 ⟨rfl,x,v0,HX,H4,HK4⟩
 have HQ4:=Lib.hid (H3.out.sideP HQ3.out HK4.out hqg hqh (by decide))
 have HD4:=Lib.hid (station_start HX.out)
 have HE4:=Lib.hid (Blk.new w4 102 [.int .i64 0,.int .i64 0] rfl)
 clear H3 HQ3 HK4
 obtain ⟨W5,hW5,hb5,SRC5⟩:∃W,W=(w4.alloc (.cells #[.int .i64 0,.int .i64 0] 102)).alloc (.cells #[.int .i64 1,.string ⟨#[]⟩,.slice (some ⟨w4.heap.size,0,none⟩) 1 1] 97)∧Below w4.heap.size w4 W∧Hid (Kn.Src (jointK 102) W (fun b=>OkJ We.heap.size (w.heap.size+1) v0 (.slice none 0 0) b∧b < W.heap.size) (some ⟨w4.heap.size+1,0,none⟩) [⟨1,⟨#[]⟩,[⟨0,0⟩]⟩]):=by
  have hb:Below w4.heap.size w4 ((w4.alloc (.cells #[.int .i64 0,.int .i64 0] 102)).alloc (.cells #[.int .i64 1,.string ⟨#[]⟩,.slice (some ⟨w4.heap.size,0,none⟩) 1 1] 97)):=(below_alloc _ _).alloc (by rw [size_alloc];omega) _
  refine ⟨_,rfl,hb,Lib.hid (Kn.Src.one (jointK_mk (x:=⟨1,⟨#[]⟩,[⟨0,0⟩]⟩) (Nat.le_refl _) (Kn.C_mono (fun z hz=>H4.out.okNew (by subst hz;exact Nat.le_refl _) (by subst hz;rw [size_alloc,size_alloc];omega)) (Kn.C_below (below_alloc _ _) (endsC [⟨0,0⟩] (by rfl) HE4.out)))) (new_cells _ _ _ (by rw [size_alloc])))⟩
 have hn1:=own_not H4.out.j H4.out.f (by decide)
 have m63:([]:List Joint).length+1≤maxLen:=by simp only [maxLen,List.length_nil];omega
 have mby:(([]:List Joint).length+1)*48≤140737488355328:=by simp only [List.length_nil];omega
 have u4:=H4.out.f.cell 1 rfl
 have z4:w.heap.size+1 < w4.heap.size:=H4.out.f.lt
 go_upto_region 6 with (at_builtin;(try rw [←hW5]);refine wpList_append_rw _ rfl (.tmp 18) (.tmp 23) 24 rfl 97 iJ _ 48 Try.underlying24 hiJ hzJ hyJ hxJ rfl (by decide) (.slice none 0 0) [] [⟨1,⟨#[]⟩,[⟨0,0⟩]⟩] rfl (H4.out.forJ hb5) (fun b hb=>hb.1.2.2.2) (some ⟨w4.heap.size+1,0,none⟩) 1 1 rfl rfl SRC5.out m63 mby ?_;intro v' w5 HR hg hat;obtain ⟨A9,c9,rfl,hc9⟩:=HR.form1;have hA:=H4.out.addJ hb5 HR hg hat;have hBf:Blk w5 (w.heap.size+1) 26 [v0,.slice none 0 0]:=(hg.block (w.heap.size+1) (by have h1:=H4.out.f.lt;have h2:=hb5.size;omega) (fun e=>hn1 e.symm)).trans (H4.out.f.below hb5 H4.out.f.lt);have u0:=hBf.frozen 1;have hz3:w.heap.size+1 < w5.heap.size:=hBf.lt;have u1:=hBf.cell 1 rfl)
 have H6:=Lib.hid hA.1
 have HQ6:=Lib.hid (H4.out.sideJ HQ4.out hA.2 hqh (by decide))
 clear H4 HQ4 hA hBf u0 hz3 u1 HR hg hat hn1 u4 z4 hW5 hb5 SRC5 HE4 m63 mby hc9
 go_loopw [5,6] (fun kv pv wr=>∃(t n m:Nat) (ps:List Piece) (js:List Joint) (v0 v1:Value),t≤3∧kv=.int .i64 t∧pv=.int .i64 n∧n+3*t≤9∧m+6*t≤k+30∧Hid (Dn (n+1) ps js [⟨n,1⟩])∧Hid (K13 js)∧Hid (NS We wr (w.heap.size+1) g m Bb ps js v0 v1)∧Hid (Blk wr q 159 [.pointer (some ⟨g,0,none⟩)])) (fun kv _ _=>(intOf kv).toNat)
 case atStart=>exact ⟨(1+v3).toNat,0,k+2+2,_,_,_,_,by omega,by rw [Int.toNat_of_nonneg (by omega)],rfl,by omega,by omega,HD4,Lib.hid (fun y hy=>.inl (by rw [List.mem_singleton.1 hy])),H6,HQ6⟩
 case round =>
 clear H6 HQ6 HD4 HV3 v3a v3b HX
 obtain ⟨t,n,m,ps,js,v0,v1,ht,rfl,rfl,hnt,hmt,HD,H13,H,HQ⟩:=hrel
 have hpl:ps.length=n+1:=HD.out.len
 have hjl:js.length≤20:=by have:=HD.out.jlen;omega
 by_cases htp:0 < t
 ·have d0:decide ((0:Int) < (t:Int))=true:=decide_eq_true (by omega)
  go_wp2_with fail
  refine (drPiece We wr q (w.heap.size+1) g m Bb ps js v0 v1 H HQ (by omega) (by omega)).mono ?_
  rintro e wa ⟨rfl,x,v0a,HXa,Ha,HKa⟩
  have HQa:=Lib.hid (H.out.sideP HQ.out HKa.out hqg hqh (by decide))
  obtain ⟨a,ha,HAE⟩:∃a:Int,Hid (((ps.length:Nat):Int)=a)∧Hid (a=((n+1:Nat):Int)):=⟨_,Lib.hid rfl,Lib.hid (by rw [hpl])⟩
  rw [ha.out]
  obtain ⟨ps1,hps1,hpl1⟩:∃l,Hid (l=ps++[x])∧l.length=n+2:=⟨_,Lib.hid rfl,by rw [List.length_append,List.length_singleton,hpl]⟩
  rw [←hps1.out] at Ha
  clear H HQ HKa
  go_wp2_with fail
  refine (drPiece We wa q (w.heap.size+1) g (m+2) Bb ps1 js v0a v1 Ha HQa (by omega) (by omega)).mono ?_
  rintro e wb ⟨rfl,y,v0b,HYb,Hb,HKb⟩
  have HQb:=Lib.hid (Ha.out.sideP HQa.out HKb.out hqg hqh (by decide))
  obtain ⟨b,hb,HBE⟩:∃a:Int,Hid (((ps1.length:Nat):Int)=a)∧Hid (a=((n+2:Nat):Int)):=⟨_,Lib.hid rfl,Lib.hid (by rw [hpl1])⟩
  rw [hb.out]
  obtain ⟨ps2,hps2,hpl2⟩:∃l,Hid (l=ps1++[y])∧l.length=n+3:=⟨_,Lib.hid rfl,by rw [List.length_append,List.length_singleton,hpl1]⟩
  rw [←hps2.out] at Hb
  clear Ha HQa HKb
  go_wp2_with fail
  refine (drPiece We wb q (w.heap.size+1) g (m+2+2) Bb ps2 js v0b v1 Hb HQb (by omega) (by omega)).mono ?_
  rintro e wd ⟨rfl,z,v0d,HZd,Hd,HKd⟩
  have HQd:=Lib.hid (Hb.out.sideP HQb.out HKd.out hqg hqh (by decide))
  obtain ⟨c,hcc,HCE⟩:∃a:Int,Hid (((ps2.length:Nat):Int)=a)∧Hid (a=((n+3:Nat):Int)):=⟨_,Lib.hid rfl,Lib.hid (by rw [hpl2])⟩
  rw [hcc.out]
  obtain ⟨ps3,hps3,hpl3⟩:∃l,Hid (l=ps2++[z])∧l.length=n+4:=⟨_,Lib.hid rfl,by rw [List.length_append,List.length_singleton,hpl2]⟩
  rw [←hps3.out] at Hd
  clear Hb HQb HKd
  clear ha hb hcc
  go_upto_region 11 with (fail)
  obtain ⟨v0,hv0⟩:∃v,v=v0d:=⟨_,rfl⟩
  rw [←hv0] at Hd
  clear hv0
  go_cut [] (fun wc=>∃v1' js',Hid (js'=js++[⟨3,nameF (100+js.length),[⟨n,1⟩,⟨a,0⟩,⟨b,0⟩]⟩])∧Hid (js'.length=js.length+1)∧Hid (NS We wc (w.heap.size+1) g (m+2+2+2) Bb ps3 js' v0 v1')∧Hid (Keep (fun b=>b=w.heap.size+1∨v1.ownBlock=some b) wd wc))
  case first =>
   obtain ⟨A1,c1,rfl,hc1,_⟩:=Hd.out.j.form
   have s1:=Hd.out.f.cell 1 rfl
   have hhz:w.heap.size+1 < wd.heap.size:=Hd.out.f.lt
   have m63:js.length+1≤maxLen:=by simp only [maxLen];omega
   have mby:(js.length+1)*48≤140737488355328:=by omega
   refine Rg.start 17 (fun w'=>w'.cell? ⟨w.heap.size+1,1,none⟩=some (.slice A1 js.length c1)) 20 rfl (by kernel_rfl) ?_
   have hHeld:wd.drew.cell? ⟨w.heap.size+1,1,none⟩=some (.slice A1 js.length c1):=s1
   refine Rg.pure 0 (v:=?v1) rfl (by kernel_rfl) (fun _ _ _ h=>h) (by rfl) hHeld ?y1 ?h1
   case y1=>(intro wA;go_simp;first | done | with_reducible rfl)
   simp only [Act.put,List.setIfInBounds_toArray,List.set_cons_zero,List.set_cons_succ]
   refine Rg.held 1 (v:=?v2) rfl (by kernel_rfl) (fun _ _ _ h=>h) (by rfl) hHeld ?y2 ?h2
   case y2=>(intro wA hSw;(try dsimp only at hSw);go_simp;first | done | with_reducible rfl)
   simp only [Act.put,List.setIfInBounds_toArray,List.set_cons_zero,List.set_cons_succ]
   refine Rg.pure 2 (v:=?v3) rfl (by kernel_rfl) (fun _ _ _ h=>h) (by rfl) hHeld ?y3 ?h3
   case y3=>(intro wA;go_simp;first | done | with_reducible rfl)
   simp only [Act.put,List.setIfInBounds_toArray,List.set_cons_zero,List.set_cons_succ]
   refine Rg.pure 3 (v:=?v4) rfl (by kernel_rfl) (fun _ _ _ h=>h) (by rfl) hHeld ?y4 ?h4
   case y4=>(intro wA;go_simp;first | done | with_reducible rfl)
   simp only [Act.put,List.setIfInBounds_toArray,List.set_cons_zero,List.set_cons_succ]
   refine Rg.held 4 (v:=?v5) rfl (by kernel_rfl) (fun _ _ _ h=>h) (by rfl) hHeld ?y5 ?h5
   case y5=>(intro wA hSw;(try dsimp only at hSw);go_simp;first | done | with_reducible rfl)
   simp only [Act.put,List.setIfInBounds_toArray,List.set_cons_zero,List.set_cons_succ]
   refine Rg.pure 5 (v:=?v6) rfl (by kernel_rfl) (fun _ _ _ h=>h) (by rfl) hHeld ?y6 ?h6
   case y6=>(intro wA;go_simp;first | done | with_reducible rfl)
   simp only [Act.put,List.setIfInBounds_toArray,List.set_cons_zero,List.set_cons_succ]
   refine Rg.pure 6 (v:=?v7) rfl (by kernel_rfl) (fun _ _ _ h=>h) (by rfl) hHeld ?y7 ?h7
   case y7=>(intro wA;go_simp;first | done | with_reducible rfl)
   simp only [Act.put,List.setIfInBounds_toArray,List.set_cons_zero,List.set_cons_succ]
   refine Rg.pure 8 (v:=?v8) rfl (by kernel_rfl) (fun _ _ _ h=>h) (by rfl) hHeld ?y8 ?h8
   case y8=>(intro wA;go_simp;first | done | with_reducible rfl)
   simp only [Act.put,List.setIfInBounds_toArray,List.set_cons_zero,List.set_cons_succ]
   refine Rg.pure 9 (v:=?v9) rfl (by kernel_rfl) (fun _ _ _ h=>h) (by rfl) hHeld ?y9 ?h9
   case y9=>(intro wA;go_simp;first | done | with_reducible rfl)
   simp only [Act.put,List.setIfInBounds_toArray,List.set_cons_zero,List.set_cons_succ]
   refine Rg.pure 10 (v:=?v10) rfl (by kernel_rfl) (fun _ _ _ h=>h) (by rfl) hHeld ?y10 ?h10
   case y10=>(intro wA;go_simp;first | done | with_reducible rfl)
   simp only [Act.put,List.setIfInBounds_toArray,List.set_cons_zero,List.set_cons_succ]
   refine Rg.pure 11 (v:=?v11) rfl (by kernel_rfl) (fun _ _ _ h=>h) (by rfl) hHeld ?y11 ?h11
   case y11=>(intro wA;go_simp;first | done | with_reducible rfl)
   simp only [Act.put,List.setIfInBounds_toArray,List.set_cons_zero,List.set_cons_succ]
   refine Rg.pure 12 (v:=?v12) rfl (by kernel_rfl) (fun _ _ _ h=>h) (by rfl) hHeld ?y12 ?h12
   case y12=>(intro wA;go_simp;first | done | with_reducible rfl)
   simp only [Act.put,List.setIfInBounds_toArray,List.set_cons_zero,List.set_cons_succ]
   refine Rg.pure 13 (v:=?v13) rfl (by kernel_rfl) (fun _ _ _ h=>h) (by rfl) hHeld ?y13 ?h13
   case y13=>(intro wA;go_simp;first | done | with_reducible rfl)
   simp only [Act.put,List.setIfInBounds_toArray,List.set_cons_zero,List.set_cons_succ]
   have wj:IntKind.i64.wrap (100+(js.length:Int))=100+(js.length:Int):=by rw [IntKind.wrap_i64];omega
   try simp only [wj]
   refine Rg.two 7 14 rfl rfl (by kernel_rfl) (fun K hK=>?_) (fun K hK=>?_)
   ·refine step_call 59 rfl rfl ?_
    go_simp
    go_at_call 59
    (with_reducible refine (curNameZ (100+js.length) g _ _ (by omega) (by omega)).mono ?_)
    rintro e w1 ⟨rfl,hb1⟩
    have hbx:Below wd.heap.size wd w1:=Below.trans (Below.refl _ _).drew hb1
    refine hK.out _ _ (cell_below hbx s1) ?_
    clear hK K
    try simp only [Act.put,List.setIfInBounds_toArray,List.set_cons_zero,List.set_cons_succ]
    refine Rg.one 14 rfl (by kernel_rfl) (fun K hK=>?_)
    go_simp
    have hbx2:Below wd.heap.size wd (w1.alloc (.cells #[.int .i64 n,.int .i64 1,.int .i64 a,.int .i64 0,.int .i64 b,.int .i64 0] 102)):=hbx.alloc hbx.size _
    have EC:Hid (endK.C (w1.alloc (.cells #[.int .i64 n,.int .i64 1,.int .i64 a,.int .i64 0,.int .i64 b,.int .i64 0] 102)) (fun z=>z=w1.heap.size) (some ⟨w1.heap.size,0,none⟩) [⟨n,1⟩,⟨a,0⟩,⟨b,0⟩]∧w1.heap.size < (w1.alloc (.cells #[.int .i64 n,.int .i64 1,.int .i64 a,.int .i64 0,.int .i64 b,.int .i64 0] 102)).heap.size):=Lib.hid ⟨endsC [⟨n,1⟩,⟨a,0⟩,⟨b,0⟩] (by rfl) (Blk.new w1 102 [.int .i64 n,.int .i64 1,.int .i64 a,.int .i64 0,.int .i64 b,.int .i64 0] rfl),by rw [size_alloc];omega⟩
    refine hK.out _ _ (cell_below hbx2 s1) ?_
    clear hK K
    try simp only [Act.put,List.setIfInBounds_toArray,List.set_cons_zero,List.set_cons_succ]
    have wx0:Below wd.heap.size wd (w1.alloc (.cells #[.int .i64 n,.int .i64 1,.int .i64 a,.int .i64 0,.int .i64 b,.int .i64 0] 102)):=hbx2
    have hHeld:=cell_below hbx2 s1
    refine Rg.pure 15 (v:=?v14) rfl (by kernel_rfl) (fun _ _ _ h=>h) (by rfl) hHeld ?y14 ?h14
    case y14=>(intro wA;go_simp;first | done | with_reducible rfl)
    simp only [Act.put,List.setIfInBounds_toArray,List.set_cons_zero,List.set_cons_succ]
    refine Rg.one 16 rfl (by kernel_rfl) (fun K hK=>?_)
    go_simp
    have hba:Below wd.heap.size wd ((w1.alloc (.cells #[.int .i64 n,.int .i64 1,.int .i64 a,.int .i64 0,.int .i64 b,.int .i64 0] 102)).alloc (.cells #[.int .i64 3,.string (nameF (100+js.length)),.slice (some ⟨w1.heap.size,0,none⟩) 3 3] 97)):=wx0.alloc wx0.size _
    refine hK.out _ _ (cell_below hba (Hd.out.f.cell 1 rfl)) ?_
    clear hK K
    try simp only [Act.put,List.setIfInBounds_toArray,List.set_cons_zero,List.set_cons_succ]
    refine Rg.row [17,18,19] [_,_,_] rfl (by kernel_rfl) ?_
    have SRC:Hid (Kn.Src (jointK 102) ((w1.alloc (.cells #[.int .i64 n,.int .i64 1,.int .i64 a,.int .i64 0,.int .i64 b,.int .i64 0] 102)).alloc (.cells #[.int .i64 3,.string (nameF (100+js.length)),.slice (some ⟨w1.heap.size,0,none⟩) 3 3] 97)) (fun zz=>OkJ We.heap.size (w.heap.size+1) v0 (.slice A1 js.length c1) zz∧zz < ((w1.alloc (.cells #[.int .i64 n,.int .i64 1,.int .i64 a,.int .i64 0,.int .i64 b,.int .i64 0] 102)).alloc (.cells #[.int .i64 3,.string (nameF (100+js.length)),.slice (some ⟨w1.heap.size,0,none⟩) 3 3] 97)).heap.size) (some ⟨w1.heap.size+1,0,none⟩) [⟨3,nameF (100+js.length),[⟨n,1⟩,⟨a,0⟩,⟨b,0⟩]⟩]) :=
     Lib.hid (Kn.Src.one (jointK_mk (x:=⟨3,nameF (100+js.length),[⟨n,1⟩,⟨a,0⟩,⟨b,0⟩]⟩) (Nat.le_refl _) (Kn.C_mono (fun z hz=>Hd.out.okNew (by subst hz;first | exact Nat.le_refl _ | exact hbx.size) (by subst hz;rw [size_alloc];first | exact Nat.lt_succ_of_lt EC.out.2 | exact Nat.lt_succ_of_lt EC.out.2)) (Kn.C_below (below_alloc _ _) EC.out.1))) (new_cells _ _ _ (by first | rfl | rw [size_alloc])))
    have hn1:=own_not Hd.out.j Hd.out.f (by decide)
    clear hHeld
    go_wp2_with (at_builtin;refine wpList_append_rw _ rfl (.tmp 37) (.tmp 52) 24 rfl 97 iJ _ 48 Try.underlying24 hiJ hzJ hyJ hxJ rfl (by decide) (.slice A1 js.length c1) js [⟨3,nameF (100+js.length),[⟨n,1⟩,⟨a,0⟩,⟨b,0⟩]⟩] rfl (Hd.out.forJ hba) (fun zz hb=>hb.1.2.2.2) (some ⟨w1.heap.size+1,0,none⟩) 1 1 rfl rfl SRC.out m63 mby ?_;intro v' w3 HR hg hat;obtain ⟨A9,c9,rfl,hc9⟩:=HR.form1;have hA:=Hd.out.addJ hba HR hg hat;have hBf:Blk w3 (w.heap.size+1) 26 [v0,.slice A1 js.length c1]:=(hg.block (w.heap.size+1) (by have h1:=Hd.out.f.lt;have h2:=hba.size;omega) (fun e=>hn1 e.symm)).trans (Hd.out.f.below hba Hd.out.f.lt);have u0:=hBf.frozen 1;have hz3:w.heap.size+1 < w3.heap.size:=hBf.lt;have u1:=hBf.cell 1 rfl)
    go_meet
    case rel=>exact ⟨_,_,Lib.hid rfl,Lib.hid (by rw [List.length_append,List.length_singleton]),Lib.hid hA.1,Lib.hid hA.2⟩
   ·go_simp
    have hbx:Below wd.heap.size wd (wd.alloc (.cells #[.int .i64 n,.int .i64 1,.int .i64 a,.int .i64 0,.int .i64 b,.int .i64 0] 102)).drew:=(below_alloc _ _).drew
    refine hK.out _ _ (cell_below hbx s1) ?_
    clear hK K
    try simp only [Act.put,List.setIfInBounds_toArray,List.set_cons_zero,List.set_cons_succ]
    refine Rg.one 7 rfl (by kernel_rfl) (fun K hK=>?_)
    refine step_call 59 rfl rfl ?_
    go_simp
    go_at_call 59
    (with_reducible refine (curNameZ (100+js.length) g _ _ (by omega) (by omega)).mono ?_)
    rintro e w1 ⟨rfl,hb1⟩
    have hbx2:Below wd.heap.size wd w1:=hbx.trans (hb1.mono hbx.size)
    have EC:Hid (endK.C w1 (fun z=>z=wd.heap.size) (some ⟨wd.heap.size,0,none⟩) [⟨n,1⟩,⟨a,0⟩,⟨b,0⟩]∧wd.heap.size < w1.heap.size):=Lib.hid ⟨Kn.C_below hb1 (C_drewS (endsC [⟨n,1⟩,⟨a,0⟩,⟨b,0⟩] (by rfl) (Blk.new wd 102 [.int .i64 n,.int .i64 1,.int .i64 a,.int .i64 0,.int .i64 b,.int .i64 0] rfl))),by have:=hb1.size;simp at this;omega⟩
    refine hK.out _ _ (cell_below hbx2 s1) ?_
    clear hK K
    try simp only [Act.put,List.setIfInBounds_toArray,List.set_cons_zero,List.set_cons_succ]
    have wx0:Below wd.heap.size wd w1:=hbx2
    have hHeld:=cell_below hbx2 s1
    refine Rg.pure 15 (v:=?v15) rfl (by kernel_rfl) (fun _ _ _ h=>h) (by rfl) hHeld ?y15 ?h15
    case y15=>(intro wA;go_simp;first | done | with_reducible rfl)
    simp only [Act.put,List.setIfInBounds_toArray,List.set_cons_zero,List.set_cons_succ]
    refine Rg.one 16 rfl (by kernel_rfl) (fun K hK=>?_)
    go_simp
    have hba:Below wd.heap.size wd (w1.alloc (.cells #[.int .i64 3,.string (nameF (100+js.length)),.slice (some ⟨wd.heap.size,0,none⟩) 3 3] 97)):=wx0.alloc wx0.size _
    refine hK.out _ _ (cell_below hba (Hd.out.f.cell 1 rfl)) ?_
    clear hK K
    try simp only [Act.put,List.setIfInBounds_toArray,List.set_cons_zero,List.set_cons_succ]
    refine Rg.row [17,18,19] [_,_,_] rfl (by kernel_rfl) ?_
    have SRC:Hid (Kn.Src (jointK 102) (w1.alloc (.cells #[.int .i64 3,.string (nameF (100+js.length)),.slice (some ⟨wd.heap.size,0,none⟩) 3 3] 97)) (fun zz=>OkJ We.heap.size (w.heap.size+1) v0 (.slice A1 js.length c1) zz∧zz < (w1.alloc (.cells #[.int .i64 3,.string (nameF (100+js.length)),.slice (some ⟨wd.heap.size,0,none⟩) 3 3] 97)).heap.size) (some ⟨w1.heap.size,0,none⟩) [⟨3,nameF (100+js.length),[⟨n,1⟩,⟨a,0⟩,⟨b,0⟩]⟩]) :=
     Lib.hid (Kn.Src.one (jointK_mk (x:=⟨3,nameF (100+js.length),[⟨n,1⟩,⟨a,0⟩,⟨b,0⟩]⟩) (Nat.le_refl _) (Kn.C_mono (fun z hz=>Hd.out.okNew (by subst hz;first | exact Nat.le_refl _ | exact hbx.size) (by subst hz;rw [size_alloc];first | exact Nat.lt_succ_of_lt EC.out.2 | exact Nat.lt_succ_of_lt EC.out.2)) (Kn.C_below (below_alloc _ _) EC.out.1))) (new_cells _ _ _ (by first | rfl | rw [size_alloc])))
    have hn1:=own_not Hd.out.j Hd.out.f (by decide)
    clear hHeld
    go_wp2_with (at_builtin;refine wpList_append_rw _ rfl (.tmp 37) (.tmp 52) 24 rfl 97 iJ _ 48 Try.underlying24 hiJ hzJ hyJ hxJ rfl (by decide) (.slice A1 js.length c1) js [⟨3,nameF (100+js.length),[⟨n,1⟩,⟨a,0⟩,⟨b,0⟩]⟩] rfl (Hd.out.forJ hba) (fun zz hb=>hb.1.2.2.2) (some ⟨w1.heap.size,0,none⟩) 1 1 rfl rfl SRC.out m63 mby ?_;intro v' w3 HR hg hat;obtain ⟨A9,c9,rfl,hc9⟩:=HR.form1;have hA:=Hd.out.addJ hba HR hg hat;have hBf:Blk w3 (w.heap.size+1) 26 [v0,.slice A1 js.length c1]:=(hg.block (w.heap.size+1) (by have h1:=Hd.out.f.lt;have h2:=hba.size;omega) (fun e=>hn1 e.symm)).trans (Hd.out.f.below hba Hd.out.f.lt);have u0:=hBf.frozen 1;have hz3:w.heap.size+1 < w3.heap.size:=hBf.lt;have u1:=hBf.cell 1 rfl)
    go_meet
    case rel=>exact ⟨_,_,Lib.hid rfl,Lib.hid (by rw [List.length_append,List.length_singleton]),Lib.hid hA.1,Lib.hid hA.2⟩
  obtain ⟨v1e,js1,hjs1,hjl1,He,HKe⟩:=hcut
  have hjl1b:js1.length≤21:=by have:=hjl1.out;omega
  have HQe:=Lib.hid (Hd.out.sideJ HQd.out HKe.out hqh (by decide))
  clear Hd HQd HKe
  obtain ⟨we,rfl⟩:∃wo:World,wo=wc:=⟨_,rfl⟩
  go_upto_region 12 with (fail)
  go_cut [] (fun wc=>∃v1' js',Hid (js'=js1++[⟨3,nameF (100+js1.length),[⟨c,0⟩,⟨a,1⟩,⟨b,1⟩]⟩])∧Hid (js'.length=js1.length+1)∧Hid (NS We wc (w.heap.size+1) g (m+2+2+2) Bb ps3 js' v0 v1')∧Hid (Keep (fun b=>b=w.heap.size+1∨v1e.ownBlock=some b) we wc))
  case first =>
   obtain ⟨A1,c1,rfl,hc1,_⟩:=He.out.j.form
   have s1:=He.out.f.cell 1 rfl
   have hhz:w.heap.size+1 < we.heap.size:=He.out.f.lt
   have m63:js1.length+1≤maxLen:=by simp only [maxLen];omega
   have mby:(js1.length+1)*48≤140737488355328:=by omega
   refine Rg.start 17 (fun w'=>w'.cell? ⟨w.heap.size+1,1,none⟩=some (.slice A1 js1.length c1)) 20 rfl (by kernel_rfl) ?_
   have hHeld:we.drew.cell? ⟨w.heap.size+1,1,none⟩=some (.slice A1 js1.length c1):=s1
   refine Rg.pure 0 (v:=?v16) rfl (by kernel_rfl) (fun _ _ _ h=>h) (by rfl) hHeld ?y16 ?h16
   case y16=>(intro wA;go_simp;first | done | with_reducible rfl)
   simp only [Act.put,List.setIfInBounds_toArray,List.set_cons_zero,List.set_cons_succ]
   refine Rg.held 1 (v:=?v17) rfl (by kernel_rfl) (fun _ _ _ h=>h) (by rfl) hHeld ?y17 ?h17
   case y17=>(intro wA hSw;(try dsimp only at hSw);go_simp;first | done | with_reducible rfl)
   simp only [Act.put,List.setIfInBounds_toArray,List.set_cons_zero,List.set_cons_succ]
   refine Rg.pure 2 (v:=?v18) rfl (by kernel_rfl) (fun _ _ _ h=>h) (by rfl) hHeld ?y18 ?h18
   case y18=>(intro wA;go_simp;first | done | with_reducible rfl)
   simp only [Act.put,List.setIfInBounds_toArray,List.set_cons_zero,List.set_cons_succ]
   refine Rg.pure 3 (v:=?v19) rfl (by kernel_rfl) (fun _ _ _ h=>h) (by rfl) hHeld ?y19 ?h19
   case y19=>(intro wA;go_simp;first | done | with_reducible rfl)
   simp only [Act.put,List.setIfInBounds_toArray,List.set_cons_zero,List.set_cons_succ]
   refine Rg.held 4 (v:=?v20) rfl (by kernel_rfl) (fun _ _ _ h=>h) (by rfl) hHeld ?y20 ?h20
   case y20=>(intro wA hSw;(try dsimp only at hSw);go_simp;first | done | with_reducible rfl)
   simp only [Act.put,List.setIfInBounds_toArray,List.set_cons_zero,List.set_cons_succ]
   refine Rg.pure 5 (v:=?v21) rfl (by kernel_rfl) (fun _ _ _ h=>h) (by rfl) hHeld ?y21 ?h21
   case y21=>(intro wA;go_simp;first | done | with_reducible rfl)
   simp only [Act.put,List.setIfInBounds_toArray,List.set_cons_zero,List.set_cons_succ]
   refine Rg.pure 6 (v:=?v22) rfl (by kernel_rfl) (fun _ _ _ h=>h) (by rfl) hHeld ?y22 ?h22
   case y22=>(intro wA;go_simp;first | done | with_reducible rfl)
   simp only [Act.put,List.setIfInBounds_toArray,List.set_cons_zero,List.set_cons_succ]
   refine Rg.pure 8 (v:=?v23) rfl (by kernel_rfl) (fun _ _ _ h=>h) (by rfl) hHeld ?y23 ?h23
   case y23=>(intro wA;go_simp;first | done | with_reducible rfl)
   simp only [Act.put,List.setIfInBounds_toArray,List.set_cons_zero,List.set_cons_succ]
   refine Rg.pure 9 (v:=?v24) rfl (by kernel_rfl) (fun _ _ _ h=>h) (by rfl) hHeld ?y24 ?h24
   case y24=>(intro wA;go_simp;first | done | with_reducible rfl)
   simp only [Act.put,List.setIfInBounds_toArray,List.set_cons_zero,List.set_cons_succ]
   refine Rg.pure 10 (v:=?v25) rfl (by kernel_rfl) (fun _ _ _ h=>h) (by rfl) hHeld ?y25 ?h25
   case y25=>(intro wA;go_simp;first | done | with_reducible rfl)
   simp only [Act.put,List.setIfInBounds_toArray,List.set_cons_zero,List.set_cons_succ]
   refine Rg.pure 11 (v:=?v26) rfl (by kernel_rfl) (fun _ _ _ h=>h) (by rfl) hHeld ?y26 ?h26
   case y26=>(intro wA;go_simp;first | done | with_reducible rfl)
   simp only [Act.put,List.setIfInBounds_toArray,List.set_cons_zero,List.set_cons_succ]
   refine Rg.pure 12 (v:=?v27) rfl (by kernel_rfl) (fun _ _ _ h=>h) (by rfl) hHeld ?y27 ?h27
   case y27=>(intro wA;go_simp;first | done | with_reducible rfl)
   simp only [Act.put,List.setIfInBounds_toArray,List.set_cons_zero,List.set_cons_succ]
   refine Rg.pure 13 (v:=?v28) rfl (by kernel_rfl) (fun _ _ _ h=>h) (by rfl) hHeld ?y28 ?h28
   case y28=>(intro wA;go_simp;first | done | with_reducible rfl)
   simp only [Act.put,List.setIfInBounds_toArray,List.set_cons_zero,List.set_cons_succ]
   have wj:IntKind.i64.wrap (100+(js1.length:Int))=100+(js1.length:Int):=by rw [IntKind.wrap_i64];omega
   try simp only [wj]
   refine Rg.two 7 14 rfl rfl (by kernel_rfl) (fun K hK=>?_) (fun K hK=>?_)
   ·refine step_call 59 rfl rfl ?_
    go_simp
    go_at_call 59
    (with_reducible refine (curNameZ (100+js1.length) g _ _ (by omega) (by omega)).mono ?_)
    rintro e w1 ⟨rfl,hb1⟩
    have hbx:Below we.heap.size we w1:=Below.trans (Below.refl _ _).drew hb1
    refine hK.out _ _ (cell_below hbx s1) ?_
    clear hK K
    try simp only [Act.put,List.setIfInBounds_toArray,List.set_cons_zero,List.set_cons_succ]
    refine Rg.one 14 rfl (by kernel_rfl) (fun K hK=>?_)
    go_simp
    have hbx2:Below we.heap.size we (w1.alloc (.cells #[.int .i64 c,.int .i64 0,.int .i64 a,.int .i64 1,.int .i64 b,.int .i64 1] 102)):=hbx.alloc hbx.size _
    have EC:Hid (endK.C (w1.alloc (.cells #[.int .i64 c,.int .i64 0,.int .i64 a,.int .i64 1,.int .i64 b,.int .i64 1] 102)) (fun z=>z=w1.heap.size) (some ⟨w1.heap.size,0,none⟩) [⟨c,0⟩,⟨a,1⟩,⟨b,1⟩]∧w1.heap.size < (w1.alloc (.cells #[.int .i64 c,.int .i64 0,.int .i64 a,.int .i64 1,.int .i64 b,.int .i64 1] 102)).heap.size):=Lib.hid ⟨endsC [⟨c,0⟩,⟨a,1⟩,⟨b,1⟩] (by rfl) (Blk.new w1 102 [.int .i64 c,.int .i64 0,.int .i64 a,.int .i64 1,.int .i64 b,.int .i64 1] rfl),by rw [size_alloc];omega⟩
    refine hK.out _ _ (cell_below hbx2 s1) ?_
    clear hK K
    try simp only [Act.put,List.setIfInBounds_toArray,List.set_cons_zero,List.set_cons_succ]
    have wx0:Below we.heap.size we (w1.alloc (.cells #[.int .i64 c,.int .i64 0,.int .i64 a,.int .i64 1,.int .i64 b,.int .i64 1] 102)):=hbx2
    have hHeld:=cell_below hbx2 s1
    refine Rg.pure 15 (v:=?v29) rfl (by kernel_rfl) (fun _ _ _ h=>h) (by rfl) hHeld ?y29 ?h29
    case y29=>(intro wA;go_simp;first | done | with_reducible rfl)
    simp only [Act.put,List.setIfInBounds_toArray,List.set_cons_zero,List.set_cons_succ]
    refine Rg.one 16 rfl (by kernel_rfl) (fun K hK=>?_)
    go_simp
    have hba:Below we.heap.size we ((w1.alloc (.cells #[.int .i64 c,.int .i64 0,.int .i64 a,.int .i64 1,.int .i64 b,.int .i64 1] 102)).alloc (.cells #[.int .i64 3,.string (nameF (100+js1.length)),.slice (some ⟨w1.heap.size,0,none⟩) 3 3] 97)):=wx0.alloc wx0.size _
    refine hK.out _ _ (cell_below hba (He.out.f.cell 1 rfl)) ?_
    clear hK K
    try simp only [Act.put,List.setIfInBounds_toArray,List.set_cons_zero,List.set_cons_succ]
    refine Rg.row [17,18,19] [_,_,_] rfl (by kernel_rfl) ?_
    have SRC:Hid (Kn.Src (jointK 102) ((w1.alloc (.cells #[.int .i64 c,.int .i64 0,.int .i64 a,.int .i64 1,.int .i64 b,.int .i64 1] 102)).alloc (.cells #[.int .i64 3,.string (nameF (100+js1.length)),.slice (some ⟨w1.heap.size,0,none⟩) 3 3] 97)) (fun zz=>OkJ We.heap.size (w.heap.size+1) v0 (.slice A1 js1.length c1) zz∧zz < ((w1.alloc (.cells #[.int .i64 c,.int .i64 0,.int .i64 a,.int .i64 1,.int .i64 b,.int .i64 1] 102)).alloc (.cells #[.int .i64 3,.string (nameF (100+js1.length)),.slice (some ⟨w1.heap.size,0,none⟩) 3 3] 97)).heap.size) (some ⟨w1.heap.size+1,0,none⟩) [⟨3,nameF (100+js1.length),[⟨c,0⟩,⟨a,1⟩,⟨b,1⟩]⟩]) :=
     Lib.hid (Kn.Src.one (jointK_mk (x:=⟨3,nameF (100+js1.length),[⟨c,0⟩,⟨a,1⟩,⟨b,1⟩]⟩) (Nat.le_refl _) (Kn.C_mono (fun z hz=>He.out.okNew (by subst hz;first | exact Nat.le_refl _ | exact hbx.size) (by subst hz;rw [size_alloc];first | exact Nat.lt_succ_of_lt EC.out.2 | exact Nat.lt_succ_of_lt EC.out.2)) (Kn.C_below (below_alloc _ _) EC.out.1))) (new_cells _ _ _ (by first | rfl | rw [size_alloc])))
    have hn1:=own_not He.out.j He.out.f (by decide)
    clear hHeld
    go_wp2_with (at_builtin;refine wpList_append_rw _ rfl (.tmp 56) (.tmp 71) 24 rfl 97 iJ _ 48 Try.underlying24 hiJ hzJ hyJ hxJ rfl (by decide) (.slice A1 js1.length c1) js1 [⟨3,nameF (100+js1.length),[⟨c,0⟩,⟨a,1⟩,⟨b,1⟩]⟩] rfl (He.out.forJ hba) (fun zz hb=>hb.1.2.2.2) (some ⟨w1.heap.size+1,0,none⟩) 1 1 rfl rfl SRC.out m63 mby ?_;intro v' w3 HR hg hat;obtain ⟨A9,c9,rfl,hc9⟩:=HR.form1;have hA:=He.out.addJ hba HR hg hat;have hBf:Blk w3 (w.heap.size+1) 26 [v0,.slice A1 js1.length c1]:=(hg.block (w.heap.size+1) (by have h1:=He.out.f.lt;have h2:=hba.size;omega) (fun e=>hn1 e.symm)).trans (He.out.f.below hba He.out.f.lt);have u0:=hBf.frozen 1;have hz3:w.heap.size+1 < w3.heap.size:=hBf.lt;have u1:=hBf.cell 1 rfl)
    go_meet
    case rel=>exact ⟨_,_,Lib.hid rfl,Lib.hid (by rw [List.length_append,List.length_singleton]),Lib.hid hA.1,Lib.hid hA.2⟩
   ·go_simp
    have hbx:Below we.heap.size we (we.alloc (.cells #[.int .i64 c,.int .i64 0,.int .i64 a,.int .i64 1,.int .i64 b,.int .i64 1] 102)).drew:=(below_alloc _ _).drew
    refine hK.out _ _ (cell_below hbx s1) ?_
    clear hK K
    try simp only [Act.put,List.setIfInBounds_toArray,List.set_cons_zero,List.set_cons_succ]
    refine Rg.one 7 rfl (by kernel_rfl) (fun K hK=>?_)
    refine step_call 59 rfl rfl ?_
    go_simp
    go_at_call 59
    (with_reducible refine (curNameZ (100+js1.length) g _ _ (by omega) (by omega)).mono ?_)
    rintro e w1 ⟨rfl,hb1⟩
    have hbx2:Below we.heap.size we w1:=hbx.trans (hb1.mono hbx.size)
    have EC:Hid (endK.C w1 (fun z=>z=we.heap.size) (some ⟨we.heap.size,0,none⟩) [⟨c,0⟩,⟨a,1⟩,⟨b,1⟩]∧we.heap.size < w1.heap.size):=Lib.hid ⟨Kn.C_below hb1 (C_drewS (endsC [⟨c,0⟩,⟨a,1⟩,⟨b,1⟩] (by rfl) (Blk.new we 102 [.int .i64 c,.int .i64 0,.int .i64 a,.int .i64 1,.int .i64 b,.int .i64 1] rfl))),by have:=hb1.size;simp at this;omega⟩
    refine hK.out _ _ (cell_below hbx2 s1) ?_
    clear hK K
    try simp only [Act.put,List.setIfInBounds_toArray,List.set_cons_zero,List.set_cons_succ]
    have wx0:Below we.heap.size we w1:=hbx2
    have hHeld:=cell_below hbx2 s1
    refine Rg.pure 15 (v:=?v30) rfl (by kernel_rfl) (fun _ _ _ h=>h) (by rfl) hHeld ?y30 ?h30
    case y30=>(intro wA;go_simp;first | done | with_reducible rfl)
    simp only [Act.put,List.setIfInBounds_toArray,List.set_cons_zero,List.set_cons_succ]
    refine Rg.one 16 rfl (by kernel_rfl) (fun K hK=>?_)
    go_simp
    have hba:Below we.heap.size we (w1.alloc (.cells #[.int .i64 3,.string (nameF (100+js1.length)),.slice (some ⟨we.heap.size,0,none⟩) 3 3] 97)):=wx0.alloc wx0.size _
    refine hK.out _ _ (cell_below hba (He.out.f.cell 1 rfl)) ?_
    clear hK K
    try simp only [Act.put,List.setIfInBounds_toArray,List.set_cons_zero,List.set_cons_succ]
    refine Rg.row [17,18,19] [_,_,_] rfl (by kernel_rfl) ?_
    have SRC:Hid (Kn.Src (jointK 102) (w1.alloc (.cells #[.int .i64 3,.string (nameF (100+js1.length)),.slice (some ⟨we.heap.size,0,none⟩) 3 3] 97)) (fun zz=>OkJ We.heap.size (w.heap.size+1) v0 (.slice A1 js1.length c1) zz∧zz < (w1.alloc (.cells #[.int .i64 3,.string (nameF (100+js1.length)),.slice (some ⟨we.heap.size,0,none⟩) 3 3] 97)).heap.size) (some ⟨w1.heap.size,0,none⟩) [⟨3,nameF (100+js1.length),[⟨c,0⟩,⟨a,1⟩,⟨b,1⟩]⟩]) :=
     Lib.hid (Kn.Src.one (jointK_mk (x:=⟨3,nameF (100+js1.length),[⟨c,0⟩,⟨a,1⟩,⟨b,1⟩]⟩) (Nat.le_refl _) (Kn.C_mono (fun z hz=>He.out.okNew (by subst hz;first | exact Nat.le_refl _ | exact hbx.size) (by subst hz;rw [size_alloc];first | exact Nat.lt_succ_of_lt EC.out.2 | exact Nat.lt_succ_of_lt EC.out.2)) (Kn.C_below (below_alloc _ _) EC.out.1))) (new_cells _ _ _ (by first | rfl | rw [size_alloc])))
    have hn1:=own_not He.out.j He.out.f (by decide)
    clear hHeld
    go_wp2_with (at_builtin;refine wpList_append_rw _ rfl (.tmp 56) (.tmp 71) 24 rfl 97 iJ _ 48 Try.underlying24 hiJ hzJ hyJ hxJ rfl (by decide) (.slice A1 js1.length c1) js1 [⟨3,nameF (100+js1.length),[⟨c,0⟩,⟨a,1⟩,⟨b,1⟩]⟩] rfl (He.out.forJ hba) (fun zz hb=>hb.1.2.2.2) (some ⟨w1.heap.size,0,none⟩) 1 1 rfl rfl SRC.out m63 mby ?_;intro v' w3 HR hg hat;obtain ⟨A9,c9,rfl,hc9⟩:=HR.form1;have hA:=He.out.addJ hba HR hg hat;have hBf:Blk w3 (w.heap.size+1) 26 [v0,.slice A1 js1.length c1]:=(hg.block (w.heap.size+1) (by have h1:=He.out.f.lt;have h2:=hba.size;omega) (fun e=>hn1 e.symm)).trans (He.out.f.below hba He.out.f.lt);have u0:=hBf.frozen 1;have hz3:w.heap.size+1 < w3.heap.size:=hBf.lt;have u1:=hBf.cell 1 rfl)
    go_meet
    case rel=>exact ⟨_,_,Lib.hid rfl,Lib.hid (by rw [List.length_append,List.length_singleton]),Lib.hid hA.1,Lib.hid hA.2⟩
  obtain ⟨v1f,js2,hjs2,hjl2,Hf,HKf⟩:=hcut
  have HQf:=Lib.hid (He.out.sideJ HQe.out HKf.out hqh (by decide))
  clear He HQe HKf
  have HDN:Hid (Dn (n+3+1) ps3 js2 [⟨(n+3:Nat),1⟩]):=Lib.hid (by
   have x1:=HXa.out
   have x2:=HYb.out
   have x3:=HZd.out
   rw [hpl] at x1
   rw [hpl1] at x2
   rw [hpl2] at x3
   have h1:=station_round HD.out x1 x2 x3
   rw [hps3.out,hps2.out,hps1.out,hjs2.out,hjs1.out,HAE.out,HBE.out,HCE.out,List.length_append,List.length_singleton]
   exact h1)
  have H13N:Hid (K13 js2):=Lib.hid (by
   rw [hjs2.out,hjs1.out]
   exact (H13.out.snoc (.inr rfl)).snoc (.inr rfl))
  clear HD H13
  go_wp2
  go_roundw
  case rel=>exact ⟨t - 1,n+3,m+2+2+2,ps3,js2,v0,v1f,by omega,by go_num,by rw [HCE.out],by omega,by omega,HDN,H13N,Hf,HQf⟩
  case measure=>simp [intOf];omega
 obtain rfl:t=0:=by omega
 have d0:decide ((0:Int) < ((0:Nat):Int))=false:=rfl
 have hdr:=Lib.hid (station_end HD.out H13.out (by omega))
 obtain ⟨A1,c1,rfl,hc1,_⟩:=H.out.j.form
 have HEn:=Lib.hid (Blk.new wr 102 [.int .i64 n,.int .i64 1] rfl)
 obtain ⟨W5,hW5,hb5,SRC5⟩:∃W,W=(wr.alloc (.cells #[.int .i64 n,.int .i64 1] 102)).alloc (.cells #[.int .i64 1,.string ⟨#[]⟩,.slice (some ⟨wr.heap.size,0,none⟩) 1 1] 97)∧Below wr.heap.size wr W∧Hid (Kn.Src (jointK 102) W (fun b=>OkJ We.heap.size (w.heap.size+1) v0 (.slice A1 js.length c1) b∧b < W.heap.size) (some ⟨wr.heap.size+1,0,none⟩) [⟨1,⟨#[]⟩,[⟨n,1⟩]⟩]):=by
  have hb:Below wr.heap.size wr ((wr.alloc (.cells #[.int .i64 n,.int .i64 1] 102)).alloc (.cells #[.int .i64 1,.string ⟨#[]⟩,.slice (some ⟨wr.heap.size,0,none⟩) 1 1] 97)):=(below_alloc _ _).alloc (by rw [size_alloc];omega) _
  refine ⟨_,rfl,hb,Lib.hid (Kn.Src.one (jointK_mk (x:=⟨1,⟨#[]⟩,[⟨n,1⟩]⟩) (Nat.le_refl _) (Kn.C_mono (fun z hz=>H.out.okNew (by subst hz;exact Nat.le_refl _) (by subst hz;rw [size_alloc,size_alloc];omega)) (Kn.C_below (below_alloc _ _) (endsC [⟨n,1⟩] (by rfl) HEn.out)))) (new_cells _ _ _ (by rw [size_alloc])))⟩
 have hn1:=own_not H.out.j H.out.f (by decide)
 have m63:js.length+1≤maxLen:=by simp only [maxLen];omega
 have mby:(js.length+1)*48≤140737488355328:=by omega
 have u4:=H.out.f.cell 1 rfl
 have z4:w.heap.size+1 < wr.heap.size:=H.out.f.lt
 go_upto_region 15 with (at_builtin;(try rw [←hW5]);refine wpList_append_rw _ rfl (.tmp 76) (.tmp 81) 24 rfl 97 iJ _ 48 Try.underlying24 hiJ hzJ hyJ hxJ rfl (by decide) (.slice A1 js.length c1) js [⟨1,⟨#[]⟩,[⟨n,1⟩]⟩] rfl (H.out.forJ hb5) (fun b hb=>hb.1.2.2.2) (some ⟨wr.heap.size+1,0,none⟩) 1 1 rfl rfl SRC5.out m63 mby ?_;intro v' w5 HR' hg hat;obtain ⟨A9,c9,rfl,hc9⟩:=HR'.form1;have hA:=H.out.addJ hb5 HR' hg hat;have hBf:Blk w5 (w.heap.size+1) 26 [v0,.slice A1 js.length c1]:=(hg.block (w.heap.size+1) (by have h1:=H.out.f.lt;have h2:=hb5.size;omega) (fun e=>hn1 e.symm)).trans (H.out.f.below hb5 H.out.f.lt);have u0:=hBf.frozen 1;have hz3:w.heap.size+1 < w5.heap.size:=hBf.lt;have u1:=hBf.cell 1 rfl)
 have H6:=Lib.hid hA.1
 clear H HQ hA hBf u0 hz3 u1 HR' hg hat hn1 u4 z4 hW5 hb5 SRC5 HEn m63 mby
 obtain ⟨W6,hW6⟩:∃W,W=w5.setCell ⟨w.heap.size+1,1,none⟩ (.slice A9 (js.length+1) c9):=⟨_,rfl⟩
 rw [←hW6] at H6 ⊢
 clear hW6
 have HR6:=Lib.hid (HRe.out.keep H6.out.K hrg)
 obtain ⟨A0,c0,rfl,hc0,_⟩:=H6.out.p.form
 have f0:=H6.out.f.cell 0 rfl
 have f1:=H6.out.f.cell 1 rfl
 have r0:=HR6.out.frozen 0
 have r1:=HR6.out.frozen 1
 have rc0:=HR6.out.cell 0 rfl
 have rc1:=HR6.out.cell 1 rfl
 have hzr:w.heap.size < W6.heap.size:=HR6.out.lt
 have hzn:w.heap.size+1 < W6.heap.size:=H6.out.f.lt
 go_wp2
 obtain ⟨_,_,hCp⟩:=Rw_slice H6.out.p
 obtain ⟨_,_,hCj⟩:=Rw_slice H6.out.j
 have hKf:Keep (fun b=>b=w.heap.size) W6 ((W6.setCell ⟨w.heap.size,0,none⟩ (.slice A0 (n+1) c0)).setCell ⟨w.heap.size,1,none⟩ (.slice A9 (js.length+1) c9)):=((Keep.refl (fun b=>b=w.heap.size) W6).setCell (p:=⟨w.heap.size,0,none⟩) (fun _=>rfl) _).setCell (p:=⟨w.heap.size,1,none⟩) (fun _=>rfl) _
 have hKW:Keep (fun b=>b=g) w W6:=(Keep.of_below hbe.out).trans H6.out.K (fun _ _ e=>e)
 have hbB:∀b,We.heap.size≤b→¬b=w.heap.size:=fun b hb e=>by omega
 have hNC:NC 102 ((W6.setCell ⟨w.heap.size,0,none⟩ (.slice A0 (n+1) c0)).setCell ⟨w.heap.size,1,none⟩ (.slice A9 (js.length+1) c9)) (fun b=>w.heap.size≤b) ⟨ps,js++[⟨1,⟨#[]⟩,[⟨n,1⟩]⟩]⟩ A0 A9:=by
  refine ⟨Kn.C_mono (fun b hb=>?_) (Kn.C_move (fun b hb=>hKf.block b hb.2 ?_) (Kn.C_bound hCp)),Kn.C_mono (fun b hb=>?_) (Kn.C_move (fun b hb=>hKf.block b hb.2 ?_) (Kn.C_bound hCj))⟩
  ·rcases hb.1 with e | e
   ·exact e.elim
   ·have:=H6.out.o0 b e;omega
  ·rcases hb.1 with e | e
   ·exact e.elim
   ·exact hbB b (H6.out.o0 b e)
  ·rcases hb.1 with e | e
   ·have:=e.1;omega
   ·have:=H6.out.o1 b e;omega
  ·rcases hb.1 with e | e
   ·exact hbB b e.1
   ·exact hbB b (H6.out.o1 b e)
 have hfin:RetDr g (k+40) Bb w (.returned (.agg #[.slice A0 (n+1) c0,.slice A9 (js.length+1) c9])) ((W6.setCell ⟨w.heap.size,0,none⟩ (.slice A0 (n+1) c0)).setCell ⟨w.heap.size,1,none⟩ (.slice A9 (js.length+1) c9)):=by
  refine ⟨⟨ps,js++[⟨1,⟨#[]⟩,[⟨n,1⟩]⟩]⟩,A0,A9,c0,c9,?_,hdr,Lib.hid hNC,Lib.hid ((H6.out.c.keep hKf (fun e=>hrg e.symm) (fun b hb _ e=>by omega)).mono (by omega) (Nat.le_refl _)),Lib.hid (hKW.trans hKf (fun x hx e=>by omega))⟩
  show Ending.returned (.agg #[.slice A0 (n+1) c0,.slice A9 (js.length+1) c9])=.returned (.agg #[.slice A0 ps.length c0,.slice A9 (js++([⟨1,⟨#[]⟩,[⟨n,1⟩]⟩]:List Joint)).length c9])
  rw [hpl,List.length_append,List.length_singleton]
 exact bodyPost_ret (v:=.agg #[.slice A0 (n+1) c0,.slice A9 (js.length+1) c9]) (by simp [results,Try.results57,go_sem,hzr,r0,r1,rc0,rc1]) rfl hfin
end Go.Proofs.Ytjccgneimknbpaa.L
