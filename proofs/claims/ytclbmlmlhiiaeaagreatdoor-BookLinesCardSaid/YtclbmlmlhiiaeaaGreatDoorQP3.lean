/- Plain laws: wages read with bits that are not there taken as -/
import Derived.Test.YtclbmlmlhiiaeaaGreatDoorK4
import Derived.Test.YtclbmlmlhiiaeaaGreatDoorQA7
import Derived.Test.YtclbmlmlhiiaeaaGreatDoorQW6
import Derived.Test.YtclbmlmlhiiaeaaGreatDoorQT1
namespace Go.Proofs.YtclbmlmlhiiaeaaGreatDoor
open Go.RowKit
theorem wr_zero{d:Nat→Nat}(hd:∀ i,d i<256):∀ n,wrN d n=0 ↔ ∀ k,k<n→d k=0
 | 0=>by simp [wrN]
 | n+1=>by
  have ih:=wr_zero hd n;simp only [wrN]
  constructor
  ·intro h k hk
   by_cases e:d n=0
   ·rw [if_pos e] at h
    by_cases e2:k=n
    ·subst e2; exact e
    ·exact ih.1 h k (by omega)
   ·rw [if_neg e] at h
    have:=(len_fin ⟨d n,hd n⟩ e).2;dsimp only at this;omega
  ·intro h
   rw [if_pos (h n (by omega))];exact ih.2 (fun k hk=>h k (by omega))
def tmB(r:Nat→Bool)(i k:Nat):Nat:=if i / 8=k∧r i=true then 128 / 2 ^ (i % 8) else 0
theorem xor_pow_fin:∀ a:Fin 256,∀ c:Fin 8,a.val % 2 ^ (8 - c.val)=0→a.val+128 / 2 ^ c.val=a.val ^^^ (128 / 2 ^ c.val):=by decide +kernel
theorem pk_xor(r:Nat→Bool)(i k:Nat):pkB r (i+1) k=pkB r i k ^^^ tmB r i k:=by
 unfold tmB
 show(if i / 8=k∧r i=true then _ else _)=_
 by_cases c:i / 8=k∧r i=true
 ·rw [if_pos c,if_pos c]
  exact xor_pow_fin ⟨pkB r i k,pk_lt r i k⟩ ⟨i % 8,Nat.mod_lt _ (by omega)⟩ ((pk_inv r i k).2.2 c.1)
 ·rw [if_neg c,if_neg c,Nat.xor_zero]
theorem pk_congr{r s:Nat→Bool}:∀ i k,(∀ j,j<i→r j=s j)→pkB r i k=pkB s i k
 | 0,_,_=>rfl
 | i+1,k,h=>by
  rw [pk_xor,pk_xor,pk_congr i k (fun j hj=>h j (by omega))];unfold tmB;rw [h i (by omega)]
theorem pk_flip{r s:Nat→Bool}{t:Nat}(ht:s t = !r t)(hs:∀ j,j≠t→s j=r j)(k:Nat):∀ i,t<i→pkB s i k=pkB r i k ^^^ (if t / 8=k then 128 / 2 ^ (t % 8) else 0)
 | 0,h=>by omega
 | i+1,h=>by
  rw [pk_xor,pk_xor];by_cases e:i=t
  ·subst e
   rw [pk_congr i k (fun j hj=>hs j (by omega)),Nat.xor_assoc]
   congr 1
   unfold tmB;rw [ht];by_cases c:i / 8=k
   ·cases hr:r i <;> simp [c]
   ·simp [c]
  ·rw [pk_flip ht hs k i (by omega),Nat.xor_assoc,Nat.xor_assoc]
   congr 1
   rw [Nat.xor_comm]
   congr 1
   unfold tmB;rw [hs i e]
theorem col_congr{g h:Nat→Nat}:∀ n,(∀ j,j<n→g j=h j)→colB g n=colB h n
 | 0,_=>rfl
 | n+1,e=>by simp only [colB]; rw [col_congr n (fun j hj=>e j (by omega)),e n (by omega)]
theorem col_flip{g h:Nat→Nat}{t p:Nat}(ht:h t=g t ^^^ p)(hs:∀ j,j≠t→h j=g j):∀ n,t<n→colB h n=colB g n ^^^ p
 | 0,e=>by omega
 | n+1,e=>by
  simp only [colB];by_cases c:n=t
  ·subst c
   rw [col_congr n (fun j hj=>hs j (by omega)),ht,Nat.xor_assoc]
  ·rw [col_flip ht hs n (by omega),hs n c,Nat.xor_assoc,Nat.xor_assoc]
   congr 1
   exact Nat.xor_comm _ _
theorem seal_congr{g h:Nat→Nat}{n:Nat}(e:∀ j,j<n→g j=h j)(k:Nat):sealB g n k=sealB h n k:=by
 unfold sealB rowB;by_cases c:k<n
 ·rw [if_pos c,if_pos c,e k c]
 ·rw [if_neg c,if_neg c,pk_congr n _ (fun j hj=>by rw [e j hj]),col_congr n e]
theorem odd_fin:∀ x:Fin 256,∀ c:Fin 8,oddB (x.val ^^^ (128 / 2 ^ c.val)) = !oddB x.val:=by decide +kernel
theorem dif_lt{b:Nat→Nat}(h8:∀ i,b i<256)(n i:Nat):difB b n i<256:=xor_lt (h8 _) (seal_lt h8 n _)
theorem dif_zero{b:Nat→Nat}(h8:∀ i,b i<256){n i:Nat}:difB b n i=0↔b (n+i)=sealB b n (n+i):=xor_zero (h8 _) (seal_lt h8 n _)
theorem flip_at{b:Nat→Nat}{i k:Nat}(h:k=i / 8):flipB b i k=b k ^^^ (128 / 2 ^ (i % 8)):=if_pos h
theorem flip_ne{b:Nat→Nat}{i k:Nat}(h:k≠i / 8):flipB b i k=b k:=if_neg h
theorem bit_pow(i:Nat):∃ t,t<8∧128 / 2 ^ (i % 8)=2 ^ t:=by
 have h:i % 8<8:=Nat.mod_lt _ (by omega);have key:∀ c:Fin 8,128 / 2 ^ c.val=2 ^ (7 - c.val):=by decide
 exact⟨7 - i % 8,by omega,key ⟨i % 8,h⟩⟩
theorem flip_lt{b:Nat→Nat}(h8:∀ i,b i<256)(i k:Nat):flipB b i k<256:=by
 obtain⟨t,ht,e⟩:=bit_pow i;unfold flipB
 split
 ·rw [e]
  exact Nat.xor_lt_two_pow (n:=8) (h8 k) (Nat.pow_lt_pow_right (by omega) ht)
 ·exact h8 k
theorem one_bits:∀ c:Fin 8,128 / 2 ^ c.val≠0∧Lib.onesCount (128 / 2 ^ c.val)=1∧8 - Lib.bitLen (128 / 2 ^ c.val)=c.val:=by decide +kernel
theorem wr_single{d:Nat→Nat}(hd:∀ i,d i<256){k c:Nat}(hc:c<8)(hk:d k=128 / 2 ^ c):∀ n,k<n→(∀ j,j<n→j≠k→d j=0)→wrN d n=1∧wrF d n=8 * k+c
 | 0,h,_=>by omega
 | n+1,h,ho=>by
  obtain⟨o1,o2,o3⟩:=one_bits ⟨c,hc⟩;dsimp only at o1 o2 o3;simp only [wrN,wrF];by_cases e:n=k
  ·subst e
   rw [hk,if_neg o1,if_neg o1];have h0:=(wr_zero hd n).2 (fun j hj=>ho j (by omega) (by omega));rw [h0,if_pos rfl,o2,o3];omega
  ·rw [ho n (by omega) e,if_pos rfl,if_pos rfl]
   exact wr_single hd hc hk n (by omega) (fun j hj hne=>ho j (by omega) hne)
theorem dif_sealed{b:Nat→Nat}(h8:∀ i,b i<256){n:Nat}(hs:∀ k,k<szB n→sealB b n k=b k){i:Nat}(hi:i<rowsB n+1):difB b n i=0 :=
 (dif_zero h8).2 (hs (n+i) (by unfold szB; unfold rowsB at hi; omega)).symm
theorem mend_flip{b:Nat→Nat}(h8:∀ i,b i<256){n t:Nat}(hs:∀ k,k<szB n→sealB b n k=b k)(ht:t<8 * szB n):mendAt (flipB b t) n = .inl t:=by
 have hz:szB n=n+rowsB n+1:=rfl;have hrn:8 * rowsB n<n+8∧n≤8 * rowsB n:=by unfold rowsB; omega
 have hf8:∀ i,flipB b t i<256:=flip_lt h8 t;have hd:=dif_lt hf8 n;have hc8:t % 8<8:=Nat.mod_lt _ (by omega);have zd:∀ i,i<rowsB n+1→difB b n i=0:=fun i hi=>dif_sealed h8 hs hi;have hE:∀ i,i<rowsB n+1→b (n+i)=sealB b n (n+i):=fun i hi=>(hs _ (by omega)).symm;by_cases h1:t / 8<n
 ·have hft:flipB b t (t / 8)=b (t / 8) ^^^ (128 / 2 ^ (t % 8)):=flip_at rfl
  have hfn:∀ j,j≠t / 8→flipB b t j=b j:=fun j hj=>flip_ne hj
  have hrow:∀ i,i<rowsB n→difB (flipB b t) n i=if t / 8 / 8=i then 128 / 2 ^ (t / 8 % 8) else 0:=fun i hi=>by
   have e1:sealB (flipB b t) n (n+i)=sealB b n (n+i) ^^^ (if t / 8 / 8=i then 128 / 2 ^ (t / 8 % 8) else 0):=by
    unfold sealB rowB;have x1:¬ n+i<n:=by omega
    have x2:n+i<n+rowsB n:=by omega
    rw [if_neg x1,if_neg x1,if_pos x2,if_pos x2,show n+i - n=i by omega];exact pk_flip (t:=t / 8) (by rw [hft]; exact odd_fin ⟨b (t / 8),h8 _⟩ ⟨t % 8,hc8⟩) (fun j hj=>by rw [hfn j hj]) _ n h1
   unfold difB;rw [e1,hfn (n+i) (by omega),hE i (by omega),← Nat.xor_assoc,Nat.xor_self,Nat.zero_xor]
  have hcol:difB (flipB b t) n (rowsB n)=128 / 2 ^ (t % 8):=by
   have e1:sealB (flipB b t) n (n+rowsB n)=sealB b n (n+rowsB n) ^^^ (128 / 2 ^ (t % 8)):=by
    unfold sealB;have x1:¬ n+rowsB n<n:=by omega
    have x2:¬ n+rowsB n<n+rowsB n:=by omega
    rw [if_neg x1,if_neg x1,if_neg x2,if_neg x2];exact col_flip hft hfn n h1
   unfold difB;rw [e1,hfn (n+rowsB n) (by omega),hE (rowsB n) (by omega),← Nat.xor_assoc,Nat.xor_self,Nat.zero_xor]
  have hr:=wr_single hd (k:=t / 8 / 8) (c:=t / 8 % 8) (Nat.mod_lt _ (by omega)) (by rw [hrow _ (by omega),if_pos rfl]) (rowsB n) (by omega) (fun j hj hne=>by rw [hrow j hj,if_neg (fun e=>hne e.symm)]);have hc:=wr_single (d:=fun i=>difB (flipB b t) n (rowsB n+i)) (fun i=>hd _) (k:=0) hc8 hcol 1 (by omega) (fun j hj hne=>by omega);have r1:rowsN (flipB b t) n=1:=hr.1;have c1:colsN (flipB b t) n=1:=hc.1;have rF:rowF (flipB b t) n=t / 8:=by unfold rowF; rw [hr.2]; omega
  have cF:colF (flipB b t) n=t % 8:=by unfold colF; rw [hc.2]; omega
  unfold mendAt;rw [r1,c1,rF,cF,if_neg (by omega),if_neg (by omega),if_neg (by omega),if_pos rfl,if_pos h1,show 8 * (t / 8)+t % 8=t by omega]
 ·have hcong:∀ k,sealB (flipB b t) n k=sealB b n k:=fun k=>seal_congr (fun j hj=>flip_ne (by omega)) k
  have hdif:∀ i,i<rowsB n+1→difB (flipB b t) n i=if t / 8=n+i then 128 / 2 ^ (t % 8) else 0:=fun i hi=>by
   unfold difB;rw [hcong,← hE i hi];by_cases e:t / 8=n+i
   ·rw [if_pos e,flip_at e.symm,Nat.xor_comm (b (n+i)),Nat.xor_assoc,Nat.xor_self,Nat.xor_zero]
   ·rw [if_neg e,flip_ne (fun h=>e h.symm),Nat.xor_self]
  by_cases h2:t / 8<n+rowsB n
  ·have hr:=wr_single hd (k:=t / 8 - n) hc8 (by rw [hdif _ (by omega),if_pos (by omega)]) (rowsB n) (by omega) (fun j hj hne=>by rw [hdif j (by omega),if_neg (by omega)])
   have c0:colsN (flipB b t) n=0:=(wr_zero (d:=fun i=>difB (flipB b t) n (rowsB n+i)) (fun i=>hd _) 1).2 (fun j hj=>by
    show difB (flipB b t) n (rowsB n+j)=0
    rw [hdif _ (by omega),if_neg (by omega)])
   have r1:rowsN (flipB b t) n=1:=hr.1;have rF:rowF (flipB b t) n=8 * (t / 8 - n)+t % 8:=hr.2;unfold mendAt;rw [r1,c0,rF,if_neg (by omega),if_neg (by omega),if_neg (by omega),if_neg (by omega),show 8 * n+(8 * (t / 8 - n)+t % 8)=t by omega]
  ·have e0:t / 8=n+rowsB n:=by omega
   have r0:rowsN (flipB b t) n=0:=(wr_zero hd (rowsB n)).2 (fun j hj=>by rw [hdif j (by omega),if_neg (by omega)]);have hc:=wr_single (d:=fun i=>difB (flipB b t) n (rowsB n+i)) (fun i=>hd _) (k:=0) hc8 (by show difB (flipB b t) n (rowsB n+0)=_; rw [hdif _ (by omega),if_pos (by omega)]) 1 (by omega) (fun j hj hne=>by omega);have c1:colsN (flipB b t) n=1:=hc.1;have cF:colF (flipB b t) n=t % 8:=by unfold colF; rw [hc.2]; omega
   unfold mendAt;rw [r0,c1,cF,if_neg (by omega),if_neg (by omega),if_pos rfl,show 8 * (n+rowsB n)+t % 8=t by omega]
structure SameW (x y:WagesV):Prop where
 cr:x.cr=y.cr
 sn:x.sn=y.sn
 tn:x.tn=y.tn
 s:∀ i,i<y.sn → ∀ j,j<2→x.S i j=y.S i j
 t:∀ i,i<y.tn → ∀ j,j<8→x.T i j=y.T i j
theorem listBits_congr{f:(Nat→Nat)→List Bool}{z:Nat}(hf:∀ x y:Nat→Nat,(∀ j,j<z→x j=y j)→f x=f y){X Y:Nat→Nat→Nat}:∀ n,(∀ i,i<n → ∀ j,j<z→X i j=Y i j)→listBits f X n=listBits f Y n
 | 0,_=>rfl
 | n+1,h=>by
  simp only [listBits];rw [listBits_congr hf n (fun i hi=>h i (by omega)),hf _ _ (h n (by omega))]
theorem SameW.bits{x y:WagesV}(h:SameW x y):wageBits x=wageBits y:=by
 unfold wageBits
 rw [h.cr,h.sn,h.tn,listBits_congr (z:=2) (fun x y e=>by unfold seamBits; rw [e 0 (by omega),e 1 (by omega)]) _ h.s,
  listBits_congr (z:=8) (fun x y e=>by unfold tickBits; rw [e 0 (by omega),e 1 (by omega),e 2 (by omega),e 3 (by omega),e 4 (by omega),e 5 (by omega),e 6 (by omega),e 7 (by omega)]) _ h.t]
theorem SameW.book{x y:WagesV}(h:SameW x y):bookN x=bookN y∧bookB x=bookB y:=by
 unfold bookB bookG bookN;rw [h.bits];exact⟨rfl,rfl⟩
theorem allB_congr{p q:Nat→Bool}{n:Nat}(h:∀ i,i<n→p i=q i):allB p n=allB q n:=by
 rw [Bool.eq_iff_iff,allB_iff,allB_iff];exact⟨fun k i hi=>by rw [← h i hi]; exact k i hi,fun k i hi=>by rw [h i hi]; exact k i hi⟩
theorem SameW.valid{x y:WagesV}(h:SameW x y)(hy:wagesVB y=true):wagesVB x=true:=by
 have ok:=wages_ok hy;unfold wagesVB wagesB at hy ⊢;rw [h.cr,h.sn,h.tn]
 rw [allB_congr (p:=fun i=>okSm (castW x.S i)) (q:=fun i=>okSm (castW y.S i)) (fun i hi=>by unfold okSm castW; rw [h.s i hi 0 (by omega),h.s i hi 1 (by omega)]),
  allB_congr (p:=fun i=>okTk y.cr y.sn (castW x.S) (castW x.T i)) (q:=fun i=>okTk y.cr y.sn (castW y.S) (castW y.T i)) (fun i hi=>by
   have h1:=(ok.t i hi).2.1;have e1:x.T i 1=y.T i 1:=h.t i hi 1 (by omega)
   have e2:castW x.S (castW x.T i 1).toNat 0=castW y.S (castW y.T i 1).toNat 0:=by
    unfold castW;rw [e1];have h2:y.T i 1<y.sn:=by unfold castW at h1; omega
    rw [Int.toNat_natCast,h.s _ h2 0 (by omega)]
   unfold okTk;rw [e2];unfold castW
   rw [h.t i hi 0 (by omega),h.t i hi 1 (by omega),h.t i hi 2 (by omega),h.t i hi 3 (by omega),h.t i hi 4 (by omega),h.t i hi 5 (by omega),h.t i hi 6 (by omega),h.t i hi 7 (by omega)])]
 exact hy
end Go.Proofs.YtclbmlmlhiiaeaaGreatDoor
