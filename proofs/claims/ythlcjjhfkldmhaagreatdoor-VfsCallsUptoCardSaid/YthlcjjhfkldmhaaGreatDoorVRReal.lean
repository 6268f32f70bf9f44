import Derived.Test.YthlcjjhfkldmhaaGreatDoorPParts
import Derived.Test.YthlcjjhfkldmhaaGreatDoorVWalk
import Derived.Test.YthlcjjhfkldmhaaGreatDoorKit
set_option linter.unusedVariables false
set_option linter.unusedSimpArgs false
section
namespace Go.Proofs.YthlcjjhfkldmhaaGreatDoor.P
section
open Go.RowKit Go.Lib Go.Proofs.YthlcjjhfkldmhaaGreatDoorW.PrintWords Go.Proofs.YthlcjjhfkldmhaaGreatDoorW.PrintLast Go.Proofs.YthlcjjhfkldmhaaGreatDoor.G
set_option linter.unusedVariables false
set_option linter.unusedSimpArgs false
theorem zero_none {s:ByteArray} (h:decide (0≤Lib.indexByte s.data.toList 0)=false) (k:Nat):s.data.toList[k]? ≠ some 0:=by
 have h1:=of_decide_eq_false h
 have h2:=Lib.indexByte_ge s.data.toList 0
 exact Lib.indexByte_none (by omega) k
theorem zero_some {s:ByteArray} (h:decide (0≤Lib.indexByte s.data.toList 0)=true):∃ k,k<s.size∧s.data.toList[k]? = some 0:=by
 have h1:=of_decide_eq_true h
 obtain ⟨o,ho⟩:∃ o:Nat,Lib.indexByte s.data.toList 0=o:=⟨(Lib.indexByte s.data.toList 0).toNat,by omega⟩
 have h2:=(Lib.indexByte_some ho).1
 exact ⟨o,by rw [Lib.size_eq];exact (List.getElem?_eq_some_iff.1 h2).1,h2⟩
set_option maxHeartbeats 8000000 in
set_option maxRecDepth 100000 in
theorem rnormal_calls (A:Option Addr) (c:Nat) (a:List ByteArray) (s:ByteArray) (w:World) (hr:Kd.C Kd.string w A a.length a) (hc:a.length≤c) (hl:a.length≤1099511627776) (hs:sumP a≤140737488355328) :
  Calls Tryz.prog 72 #[.slice A a.length c,.string s] w fun e w'=>∃ v,e=.returned (.tuple #[v,.bool (normR a s).2.1,.int .i64 (normR a s).2.2])∧Kd.R Kd.string 9 w' w.heap.size (fun _=>True) v (normR a s).1∧Below w.heap.size w w':=by
 have H1:=Lib.hid (fun W h=>rright_calls A c a W h hc (by omega) (by omega))
 have HR:=Lib.hid hr
 obtain ⟨Q,hQ⟩:∃ Q,Q=normR a s:=⟨_,rfl⟩
 rw [← hQ]
 unfold normR at hQ
 have HQ:=Lib.hid hQ
 clear hr hQ
 go_enter Tryz.func72,Tryz.ntmps72
 go_wp2_with fail
 refine (H1.out _ HR.out).mono ?_
 rintro e w1 ⟨rfl,hw⟩
 rw [hw]
 clear hw H1
 cases hR:rightB a
 ·have HQ2:Hid (Q=([],false,20)):=Lib.hid (by rw [HQ.out,hR];rfl)
  clear HQ hR
  go_wp2_with fail
  go_ret3
  exact ⟨_,by rw [HQ2.out];rfl,by rw [HQ2.out];exact Kd.R_nil _ _ _ _ _,Below.refl _ _⟩
 ·have hsa:=rightB_sum hR
  have hla:=sumP_len a
  rw [hR] at HQ
  simp only [if_true] at HQ
  clear hR
  by_cases hsz:(s.size:Int)≤1024
  ·rw [if_pos hsz] at HQ
   cases he:s.toList.isEmpty
   ·rw [he] at HQ
    have hpos:0<s.size:=by
     rcases Nat.eq_zero_or_pos s.size with h | h
     ·have:s.toList=[]:=by rw [Lib.toList_data];exact List.length_eq_zero_iff.1 (by rw [← Lib.size_eq];exact h)
      rw [this] at he
      cases he
     ·exact h
    cases hz:decide (0≤Lib.indexByte s.data.toList 0)
    ·have HZ:=Lib.hid (zero_none hz)
     rw [hz] at HQ
     simp only [Bool.or_self,Bool.false_eq_true,if_false] at HQ
     clear hz
     go_wp2_with fail
     go_loop [8] (fun i=>∃ k:Nat,k≤s.size∧i=.int .i64 k) (fun i=>s.size - (RowKit.intOf i).toNat)
     case atStart=>exact ⟨0,by omega,rfl⟩
     case round =>
      obtain ⟨k,hk,rfl⟩:=hrel
      by_cases hlt:k<s.size
      ·obtain ⟨b,hbb⟩:∃ b,s[k]'hlt=b:=⟨_,rfl⟩
       have hb0:((b.toNat:Int) == 0)=false:=beq_eq_false_iff_ne.2 (by
        intro h
        have hb:b=0:=UInt8.toNat_inj.1 (by exact_mod_cast h)
        have hg:=get_data s k hlt
        rw [hbb,hb] at hg
        exact HZ.out k hg)
       go_wp2
       go_round
       case rel=>exact ⟨k+1,by omega,by go_num⟩
       case measure=>simp [RowKit.intOf];omega
      ·obtain rfl:k=s.size:=by omega
       go_wp2_with fail
       clear hlt hk
       refine (rparts_calls s _ (by omega)).mono ?_
       rintro e w2 ⟨v2,rfl,ho2,hb2⟩
       obtain ⟨A2,c2,rfl,hc2,hC2⟩:=Kd.R_reads ho2
       have HP:=Lib.hid hC2
       have hpl:=partsL_length s
       have hps:=partsL_sum s
       clear ho2 hC2
       generalize hps0:partsL s=ps at *
       clear hps0
       cases hlong:ps.any longB
       ·rw [hlong] at HQ
        simp only [Bool.false_eq_true,if_false] at HQ
        have HL:Hid (∀ k,(h:k<ps.length)→longB ps[k]=false):=Lib.hid (fun k h=>by
         have:=List.any_eq_false.1 hlong ps[k] (List.getElem_mem h)
         simpa using this)
        clear hlong
        go_wp2_with fail
        go_loop [10] (fun i=>∃ k:Nat,k≤ps.length∧i=.int .i64 k) (fun i=>ps.length - (RowKit.intOf i).toNat)
        case atStart=>exact ⟨0,by omega,rfl⟩
        case round =>
         obtain ⟨k,hk,rfl⟩:=hrel
         by_cases hlt:k<ps.length
         ·obtain ⟨ad,rfl,hx⟩:=Kd.at_string HP.out (k:Int) (by omega) (by omega)
          rw [Int.toNat_natCast] at hx
          have hb1:=HL.out k hlt
          have he:rdOf ByteArray.empty ps (k:Int)=ps[k]:=by simp [rdOf,hlt]
          rw [he] at hx
          clear he
          generalize ps[k]=x at *
          have hx2:¬ (255<(x.size:Int)):=of_decide_eq_false hb1
          have hx3:(x.size:Int)≤255:=by omega
          go_wp2
          go_round
          case rel=>exact ⟨k+1,by omega,by go_num⟩
          case measure=>simp [RowKit.intOf];omega
         ·obtain rfl:k=ps.length:=by omega
          clear hlt hk
          go_wp2_with fail
          refine (rcopy_calls A c a _ (Kd.C_below HR.out hb2) hc (by omega)).mono ?_
          rintro e w3 ⟨v3,rfl,ho3,hb3⟩
          obtain ⟨b,hbb⟩:∃ b,s[0]'hpos=b:=⟨_,rfl⟩
          have hst:startL a s=if b=47 then [] else a:=by
           unfold startL
           have:s.data.toList.head? = some b:=by rw [List.head?_eq_getElem?,List.getElem?_eq_getElem (by rw [← Lib.size_eq];exact hpos),← hbb];rfl
           rw [this]
           simp
          have hp0:(0:Int)<(s.size:Int):=by omega
          have HO3:=Lib.hid ho3
          clear ho3
          cases h47:(b == 47)
          ·have hne:((b.toNat:Int) == 47)=false:=by
            rw [beq_eq_false_iff_ne];intro h;have:b=47:=UInt8.toNat_inj.1 (by exact_mod_cast h);rw [this] at h47;cases h47
           have hb47:¬ b=47:=by intro h;rw [h] at h47;cases h47
           obtain ⟨L0,hLL⟩:∃ L0,startL a s=L0:=⟨_,rfl⟩
           have hL0:L0=a:=by rw [← hLL,hst,if_neg hb47]
           rw [hLL] at HQ
           rw [← hL0] at HO3
           have hl1:L0.length≤a.length∧sumP L0≤sumP a:=by rw [hL0];exact ⟨Nat.le_refl _,Int.le_refl _⟩
           clear h47 hb47 hst hL0 hLL
           have HV:=HO3
           go_wp2_with fail
           go_loopw [11,12] (fun v i wr=>∃ k:Nat,k≤ps.length∧i=.int .i64 k∧Hid (Kd.R Kd.string 9 wr w2.heap.size (fun _=>True) v ((ps.take k).foldl stepAt L0))∧Below w2.heap.size w2 wr) (fun _ i _=>ps.length - (RowKit.intOf i).toNat)
           case atStart=>exact ⟨0,by omega,rfl,HV,hb3⟩
           case round =>
            obtain ⟨k,hk,rfl,HO,hb⟩:=hrel
            have hsz4:=hb.size
            have hf1:=foldl_length (ps.take k) L0
            have hf2:=foldl_sum (ps.take k) L0
            have hf3:=sumP_take_le ps k
            rw [List.length_take] at hf1
            by_cases hlt:k<ps.length
            ·obtain ⟨ad,rfl,hx⟩:=Kd.at_string HP.out (k:Int) (by omega) (by omega)
             rw [Int.toNat_natCast] at hx
             have hx2:=(hb.cell (World.block_lt_of_cell? w2 _ hx)).trans hx
             clear hx
             have he:rdOf ByteArray.empty ps (k:Int)=ps[k]:=by simp [rdOf,hlt]
             rw [he] at hx2
             have HT:Hid ((ps.take (k+1)).foldl stepAt L0=stepAt ((ps.take k).foldl stepAt L0) ps[k]):=Lib.hid (by rw [List.take_succ_eq_append_getElem hlt,List.foldl_append];rfl)
             clear he
             generalize ps[k]=x at *
             generalize (ps.take k).foldl stepAt L0=q at *
             obtain ⟨A4,c4,hv4,hc4,hC4⟩:=Kd.R_reads HO.out
             cases e1:x.toList.isEmpty
             ·cases e2:(x.toList == [46])
              ·cases e3:(x.toList == [46,46])
               ·have HT2:Hid ((ps.take (k+1)).foldl stepAt L0=q++[x]):=Lib.hid (by rw [HT.out];simp [stepAt,e1,e2,e3])
                clear HT hv4 hc4 hC4
                go_wp2_with (at_builtin;refine Kd.R_append Kd.string (w0:=w2) w2.heap.size rfl (.tmp 59) (.tmp 64) 40 9 (.string ⟨#[]⟩) 16 rfl Tryz.underlying40 info_str rfl (by decide) (by decide) _ q x [.string x] (fun _=>True) (fun _=>False) rfl rfl ?aP (fun _ hk=>hk.elim) ?aF ?aO ?aB ?aS ?aL ?_;(case aP=>exact rfl);(case aF=>exact (fun _ _=>trivial));(case aO=>exact HO.out);(case aB=>exact hb);(case aS=>exact hsz4);(case aL=>omega);intro v1 w4 ho hb4 hg hat)
                go_roundw
                case rel=>exact ⟨k+1,by omega,by go_num,Lib.hid (by rw [HT2.out];exact ho),hb4⟩
                case measure=>simp [RowKit.intOf];omega
               ·have HT2:Hid ((ps.take (k+1)).foldl stepAt L0=q.dropLast):=Lib.hid (by rw [HT.out];simp [stepAt,e1,e2,e3])
                clear HT hC4
                rcases Nat.eq_zero_or_pos q.length with hq | hq
                ·obtain rfl:=List.length_eq_zero_iff.1 hq
                 rw [hv4] at HO ⊢
                 have hq0:((0:Nat):Int)=0:=rfl
                 go_wp2
                 go_roundw
                 case rel=>exact ⟨k+1,by omega,by go_num,Lib.hid (by rw [HT2.out];exact HO.out),hb⟩
                 case measure=>simp [RowKit.intOf];omega
                ·obtain ⟨m,hm⟩:∃ m,q.length=m+1:=⟨q.length - 1,by omega⟩
                 have cut:∀ W,(Instr.slice 40 (.slice A4 (m+1) c4) none (some (.int .i64 (m:Int))) none).run Tryz.prog W=.ok (.slice A4 m c4) W:=by
                  obtain ⟨i9,hi9,hz9,hz1,hz2⟩:=info_parts info_str
                  have:=(print_take_of (P:=Tryz.prog) Value.string ByteArray.empty 40 9 .i64 Tryz.underlying40 hi9 hz1 A4 c4 q m (by omega) (by omega) hc4).1
                  rw [Int.toNat_natCast,List.length_take,hm,Nat.min_eq_left (by omega)] at this
                  exact this
                 rw [hm] at hv4
                 rw [hv4] at HO ⊢
                 have HR1:=Lib.hid (Kd.R_take HO.out (m:=m) (by omega))
                 have HT3:Hid ((ps.take (k+1)).foldl stepAt L0=q.take m):=Lib.hid (by rw [HT2.out,List.dropLast_eq_take,hm];rfl)
                 have hkk:(m:Int)≤1099511630000:=by omega
                 clear HT2
                 go_wp2
                 go_roundw
                 case rel=>exact ⟨k+1,by omega,by go_num,Lib.hid (by rw [HT3.out];exact HR1.out),hb⟩
                 case measure=>simp [RowKit.intOf];omega
              ·have HT2:Hid ((ps.take (k+1)).foldl stepAt L0=q):=Lib.hid (by rw [HT.out];simp [stepAt,e1,e2])
               clear HT hv4 hc4 hC4
               go_wp2
               go_roundw
               case rel=>exact ⟨k+1,by omega,by go_num,Lib.hid (by rw [HT2.out];exact HO.out),hb⟩
               case measure=>simp [RowKit.intOf];omega
             ·have HT2:Hid ((ps.take (k+1)).foldl stepAt L0=q):=Lib.hid (by rw [HT.out];simp [stepAt,e1])
              clear HT hv4 hc4 hC4
              go_wp2
              go_roundw
              case rel=>exact ⟨k+1,by omega,by go_num,Lib.hid (by rw [HT2.out];exact HO.out),hb⟩
              case measure=>simp [RowKit.intOf];omega
            ·obtain rfl:k=ps.length:=by omega
             rw [List.take_length] at HO hf1 hf2
             clear hlt hk
             generalize ps.foldl stepAt L0=q at *
             obtain ⟨A4,c4,hv4,hc4,hC4⟩:=Kd.R_reads HO.out
             rw [hv4]
             clear hv4
             have HC4:=Lib.hid hC4
             clear hC4
             have HG:=rsize_gt q
             have H4:=Lib.hid (fun W h=>rsize_calls A4 c4 q W h hc4 (by omega) (by omega))
             have H5:=Lib.hid (fun W h=>rcopy_calls A4 c4 q W h hc4 (by omega))
             go_wp2_with fail
             refine (H4.out _ HC4.out).mono ?_
             rintro e w5 ⟨rfl,hw5⟩
             rw [hw5]
             by_cases hsz6:sizeP q≤1024
             ·rw [if_pos hsz6] at HQ
              rw [decide_eq_true hsz6] at HG
              simp only [Bool.not_true] at HG
              have hpn:0<ps.length:=by
               rcases Nat.eq_zero_or_pos ps.length with h | h
               ·have hx:ps=[]:=List.length_eq_zero_iff.1 h
                rw [hx] at hps
                simp [sumP] at hps
                omega
               ·exact h
              obtain ⟨ad,rfl,hx⟩:=Kd.at_string HP.out ((ps.length - 1:Nat):Int) (by omega) (by omega)
              rw [Int.toNat_natCast] at hx
              have hx2:=(hb.cell (World.block_lt_of_cell? w2 _ hx)).trans hx
              have he:rdOf ByteArray.empty ps ((ps.length - 1:Nat):Int)=ps.getLastD ⟨#[]⟩:=by
               rw [List.getLastD_eq_getLast?,List.getLast?_eq_getElem?]
               simp [rdOf,List.getD]
               rw [List.getElem?_eq_getElem (by omega)]
               simp
              rw [he] at hx2
              clear hx he
              unfold dirB at HQ
              generalize ps.getLastD ⟨#[]⟩=last at *
              obtain ⟨m,hm⟩:∃ m,ps.length=m+1:=⟨ps.length - 1,by omega⟩
              rw [hm] at hx2 HP ⊢
              simp only [Nat.add_sub_cancel] at hx2
              have hm2:(m:Int)≤1099511627776:=by omega
              clear hpn hf1 hf2 hf3 hps hpl
              have HQ3:=Lib.hid HQ.out
              go_wp2_with fail
              refine (H5.out _ HC4.out).mono ?_
              rintro e w6 ⟨v6,rfl,ho6,hb6⟩
              have hbz:=bstep hb2 hb2.size (bstep hb hb.size hb6)
              have HO6:=Lib.hid (Kd.R_lower ho6 (Nat.le_trans hb2.size hb.size))
              clear ho6 hb6
              cases d1:last.toList.isEmpty
              ·cases d2:(last.toList == [46])
               ·cases d3:(last.toList == [46,46])
                all_goals
                 rw [d1,d2,d3] at HQ3
                 go_wp2_with fail
                 go_ret3
                 exact ⟨_,by rw [HQ3.out];rfl,by rw [HQ3.out];exact HO6.out,hbz⟩
               ·rw [d1,d2] at HQ3
                go_wp2_with fail
                go_ret3
                exact ⟨_,by rw [HQ3.out];rfl,by rw [HQ3.out];exact HO6.out,hbz⟩
              ·rw [d1] at HQ3
               go_wp2_with fail
               go_ret3
               exact ⟨_,by rw [HQ3.out];rfl,by rw [HQ3.out];exact HO6.out,hbz⟩
             ·rw [if_neg hsz6] at HQ
              have HQ3:=Lib.hid HQ.out
              rw [decide_eq_false hsz6] at HG
              simp only [Bool.not_false] at HG
              go_wp2_with fail
              go_ret3
              exact ⟨_,by rw [HQ3.out];rfl,by rw [HQ3.out];exact Kd.R_nil _ _ _ _ _,bstep hb2 hb2.size hb⟩
          ·have hne:((b.toNat:Int) == 47)=true:=by
            have:b=47:=by simpa using h47
            rw [this];rfl
           have hb47:b=47:=by simpa using h47
           obtain ⟨L0,hLL⟩:∃ L0,startL a s=L0:=⟨_,rfl⟩
           have hL0:L0=[]:=by rw [← hLL,hst,if_pos hb47]
           rw [hLL] at HQ
           have hl1:L0.length≤a.length∧sumP L0≤sumP a:=by have:=sumP_nonneg a;rw [hL0];exact ⟨by simp,by simpa [sumP] using this⟩
           have HV:∀ W,Hid (Kd.R Kd.string 9 W w2.heap.size (fun _=>True) (.slice none 0 0) L0):=fun W=>Lib.hid (by rw [hL0];exact Kd.R_nil _ _ _ _ _)
           clear h47 hb47 hst hL0 hLL
           go_wp2_with fail
           go_loopw [11,12] (fun v i wr=>∃ k:Nat,k≤ps.length∧i=.int .i64 k∧Hid (Kd.R Kd.string 9 wr w2.heap.size (fun _=>True) v ((ps.take k).foldl stepAt L0))∧Below w2.heap.size w2 wr) (fun _ i _=>ps.length - (RowKit.intOf i).toNat)
           case atStart=>exact ⟨0,by omega,rfl,HV _,hb3⟩
           case round =>
            obtain ⟨k,hk,rfl,HO,hb⟩:=hrel
            have hsz4:=hb.size
            have hf1:=foldl_length (ps.take k) L0
            have hf2:=foldl_sum (ps.take k) L0
            have hf3:=sumP_take_le ps k
            rw [List.length_take] at hf1
            by_cases hlt:k<ps.length
            ·obtain ⟨ad,rfl,hx⟩:=Kd.at_string HP.out (k:Int) (by omega) (by omega)
             rw [Int.toNat_natCast] at hx
             have hx2:=(hb.cell (World.block_lt_of_cell? w2 _ hx)).trans hx
             clear hx
             have he:rdOf ByteArray.empty ps (k:Int)=ps[k]:=by simp [rdOf,hlt]
             rw [he] at hx2
             have HT:Hid ((ps.take (k+1)).foldl stepAt L0=stepAt ((ps.take k).foldl stepAt L0) ps[k]):=Lib.hid (by rw [List.take_succ_eq_append_getElem hlt,List.foldl_append];rfl)
             clear he
             generalize ps[k]=x at *
             generalize (ps.take k).foldl stepAt L0=q at *
             obtain ⟨A4,c4,hv4,hc4,hC4⟩:=Kd.R_reads HO.out
             cases e1:x.toList.isEmpty
             ·cases e2:(x.toList == [46])
              ·cases e3:(x.toList == [46,46])
               ·have HT2:Hid ((ps.take (k+1)).foldl stepAt L0=q++[x]):=Lib.hid (by rw [HT.out];simp [stepAt,e1,e2,e3])
                clear HT hv4 hc4 hC4
                go_wp2_with (at_builtin;refine Kd.R_append Kd.string (w0:=w2) w2.heap.size rfl (.tmp 59) (.tmp 64) 40 9 (.string ⟨#[]⟩) 16 rfl Tryz.underlying40 info_str rfl (by decide) (by decide) _ q x [.string x] (fun _=>True) (fun _=>False) rfl rfl ?aP (fun _ hk=>hk.elim) ?aF ?aO ?aB ?aS ?aL ?_;(case aP=>exact rfl);(case aF=>exact (fun _ _=>trivial));(case aO=>exact HO.out);(case aB=>exact hb);(case aS=>exact hsz4);(case aL=>omega);intro v1 w4 ho hb4 hg hat)
                go_roundw
                case rel=>exact ⟨k+1,by omega,by go_num,Lib.hid (by rw [HT2.out];exact ho),hb4⟩
                case measure=>simp [RowKit.intOf];omega
               ·have HT2:Hid ((ps.take (k+1)).foldl stepAt L0=q.dropLast):=Lib.hid (by rw [HT.out];simp [stepAt,e1,e2,e3])
                clear HT hC4
                rcases Nat.eq_zero_or_pos q.length with hq | hq
                ·obtain rfl:=List.length_eq_zero_iff.1 hq
                 rw [hv4] at HO ⊢
                 have hq0:((0:Nat):Int)=0:=rfl
                 go_wp2
                 go_roundw
                 case rel=>exact ⟨k+1,by omega,by go_num,Lib.hid (by rw [HT2.out];exact HO.out),hb⟩
                 case measure=>simp [RowKit.intOf];omega
                ·obtain ⟨m,hm⟩:∃ m,q.length=m+1:=⟨q.length - 1,by omega⟩
                 have cut:∀ W,(Instr.slice 40 (.slice A4 (m+1) c4) none (some (.int .i64 (m:Int))) none).run Tryz.prog W=.ok (.slice A4 m c4) W:=by
                  obtain ⟨i9,hi9,hz9,hz1,hz2⟩:=info_parts info_str
                  have:=(print_take_of (P:=Tryz.prog) Value.string ByteArray.empty 40 9 .i64 Tryz.underlying40 hi9 hz1 A4 c4 q m (by omega) (by omega) hc4).1
                  rw [Int.toNat_natCast,List.length_take,hm,Nat.min_eq_left (by omega)] at this
                  exact this
                 rw [hm] at hv4
                 rw [hv4] at HO ⊢
                 have HR1:=Lib.hid (Kd.R_take HO.out (m:=m) (by omega))
                 have HT3:Hid ((ps.take (k+1)).foldl stepAt L0=q.take m):=Lib.hid (by rw [HT2.out,List.dropLast_eq_take,hm];rfl)
                 have hkk:(m:Int)≤1099511630000:=by omega
                 clear HT2
                 go_wp2
                 go_roundw
                 case rel=>exact ⟨k+1,by omega,by go_num,Lib.hid (by rw [HT3.out];exact HR1.out),hb⟩
                 case measure=>simp [RowKit.intOf];omega
              ·have HT2:Hid ((ps.take (k+1)).foldl stepAt L0=q):=Lib.hid (by rw [HT.out];simp [stepAt,e1,e2])
               clear HT hv4 hc4 hC4
               go_wp2
               go_roundw
               case rel=>exact ⟨k+1,by omega,by go_num,Lib.hid (by rw [HT2.out];exact HO.out),hb⟩
               case measure=>simp [RowKit.intOf];omega
             ·have HT2:Hid ((ps.take (k+1)).foldl stepAt L0=q):=Lib.hid (by rw [HT.out];simp [stepAt,e1])
              clear HT hv4 hc4 hC4
              go_wp2
              go_roundw
              case rel=>exact ⟨k+1,by omega,by go_num,Lib.hid (by rw [HT2.out];exact HO.out),hb⟩
              case measure=>simp [RowKit.intOf];omega
            ·obtain rfl:k=ps.length:=by omega
             rw [List.take_length] at HO hf1 hf2
             clear hlt hk
             generalize ps.foldl stepAt L0=q at *
             obtain ⟨A4,c4,hv4,hc4,hC4⟩:=Kd.R_reads HO.out
             rw [hv4]
             clear hv4
             have HC4:=Lib.hid hC4
             clear hC4
             have HG:=rsize_gt q
             have H4:=Lib.hid (fun W h=>rsize_calls A4 c4 q W h hc4 (by omega) (by omega))
             have H5:=Lib.hid (fun W h=>rcopy_calls A4 c4 q W h hc4 (by omega))
             go_wp2_with fail
             refine (H4.out _ HC4.out).mono ?_
             rintro e w5 ⟨rfl,hw5⟩
             rw [hw5]
             by_cases hsz6:sizeP q≤1024
             ·rw [if_pos hsz6] at HQ
              rw [decide_eq_true hsz6] at HG
              simp only [Bool.not_true] at HG
              have hpn:0<ps.length:=by
               rcases Nat.eq_zero_or_pos ps.length with h | h
               ·have hx:ps=[]:=List.length_eq_zero_iff.1 h
                rw [hx] at hps
                simp [sumP] at hps
                omega
               ·exact h
              obtain ⟨ad,rfl,hx⟩:=Kd.at_string HP.out ((ps.length - 1:Nat):Int) (by omega) (by omega)
              rw [Int.toNat_natCast] at hx
              have hx2:=(hb.cell (World.block_lt_of_cell? w2 _ hx)).trans hx
              have he:rdOf ByteArray.empty ps ((ps.length - 1:Nat):Int)=ps.getLastD ⟨#[]⟩:=by
               rw [List.getLastD_eq_getLast?,List.getLast?_eq_getElem?]
               simp [rdOf,List.getD]
               rw [List.getElem?_eq_getElem (by omega)]
               simp
              rw [he] at hx2
              clear hx he
              unfold dirB at HQ
              generalize ps.getLastD ⟨#[]⟩=last at *
              obtain ⟨m,hm⟩:∃ m,ps.length=m+1:=⟨ps.length - 1,by omega⟩
              rw [hm] at hx2 HP ⊢
              simp only [Nat.add_sub_cancel] at hx2
              have hm2:(m:Int)≤1099511627776:=by omega
              clear hpn hf1 hf2 hf3 hps hpl
              have HQ3:=Lib.hid HQ.out
              go_wp2_with fail
              refine (H5.out _ HC4.out).mono ?_
              rintro e w6 ⟨v6,rfl,ho6,hb6⟩
              have hbz:=bstep hb2 hb2.size (bstep hb hb.size hb6)
              have HO6:=Lib.hid (Kd.R_lower ho6 (Nat.le_trans hb2.size hb.size))
              clear ho6 hb6
              cases d1:last.toList.isEmpty
              ·cases d2:(last.toList == [46])
               ·cases d3:(last.toList == [46,46])
                all_goals
                 rw [d1,d2,d3] at HQ3
                 go_wp2_with fail
                 go_ret3
                 exact ⟨_,by rw [HQ3.out];rfl,by rw [HQ3.out];exact HO6.out,hbz⟩
               ·rw [d1,d2] at HQ3
                go_wp2_with fail
                go_ret3
                exact ⟨_,by rw [HQ3.out];rfl,by rw [HQ3.out];exact HO6.out,hbz⟩
              ·rw [d1] at HQ3
               go_wp2_with fail
               go_ret3
               exact ⟨_,by rw [HQ3.out];rfl,by rw [HQ3.out];exact HO6.out,hbz⟩
             ·rw [if_neg hsz6] at HQ
              have HQ3:=Lib.hid HQ.out
              rw [decide_eq_false hsz6] at HG
              simp only [Bool.not_false] at HG
              go_wp2_with fail
              go_ret3
              exact ⟨_,by rw [HQ3.out];rfl,by rw [HQ3.out];exact Kd.R_nil _ _ _ _ _,bstep hb2 hb2.size hb⟩
       ·have HQ2:Hid (Q=([],false,20)):=Lib.hid (by rw [HQ.out,hlong];rfl)
        obtain ⟨x0,hx0,hx1⟩:=List.any_eq_true.1 hlong
        obtain ⟨o,ho,ho2⟩:=List.mem_iff_getElem.1 hx0
        have HO:Hid (ps[o]? = some x0):=Lib.hid (by rw [List.getElem?_eq_getElem ho,ho2])
        have HX:=Lib.hid hx1
        clear HQ hlong hx0 ho2 hx1
        go_wp2_with fail
        go_loop [10] (fun i=>∃ k:Nat,k≤o∧i=.int .i64 k) (fun i=>ps.length - (RowKit.intOf i).toNat)
        case atStart=>exact ⟨0,by omega,rfl⟩
        case round =>
         obtain ⟨k,hk,rfl⟩:=hrel
         have hlt:k<ps.length:=by omega
         obtain ⟨ad,rfl,hx⟩:=Kd.at_string HP.out (k:Int) (by omega) (by omega)
         rw [Int.toNat_natCast] at hx
         have he:rdOf ByteArray.empty ps (k:Int)=ps[k]:=by simp [rdOf,hlt]
         rw [he] at hx
         have HG:Hid (ps[k]? = some ps[k]):=Lib.hid (List.getElem?_eq_getElem hlt)
         clear he
         generalize ps[k]=x at *
         by_cases hx2:255<(x.size:Int)
         ·go_wp2
          go_ret3
          exact ⟨_,by rw [HQ2.out];rfl,by rw [HQ2.out];exact Kd.R_nil _ _ _ _ _,hb2⟩
         ·have hko:k≠o:=by
           rintro rfl
           have:=HG.out.symm.trans HO.out
           injection this with this
           rw [this] at hx2
           exact hx2 (of_decide_eq_true HX.out)
          have hx3:(x.size:Int)≤255:=by omega
          go_wp2
          go_round
          case rel=>exact ⟨k+1,by omega,by go_num⟩
          case measure=>simp [RowKit.intOf];omega
    ·obtain ⟨o,ho1,ho2⟩:=zero_some hz
     have HQ2:Hid (Q=([],false,20)):=Lib.hid (by rw [HQ.out,hz];rfl)
     clear HQ hz
     have HO:=Lib.hid ho2
     clear ho2
     go_wp2_with fail
     go_loop [8] (fun i=>∃ k:Nat,k≤o∧i=.int .i64 k) (fun i=>s.size - (RowKit.intOf i).toNat)
     case atStart=>exact ⟨0,by omega,rfl⟩
     case round =>
      obtain ⟨k,hk,rfl⟩:=hrel
      have hlt:k<s.size:=by omega
      obtain ⟨b,hbb⟩:∃ b,s[k]'hlt=b:=⟨_,rfl⟩
      have hg:=get_data s k hlt
      rw [hbb] at hg
      have HG:=Lib.hid hg
      clear hg
      cases h0:((b.toNat:Int) == 0)
      ·have hko:k≠o:=by
        rintro rfl
        have:=HG.out.symm.trans HO.out
        injection this with this
        rw [this] at h0
        cases h0
       go_wp2
       go_round
       case rel=>exact ⟨k+1,by omega,by go_num⟩
       case measure=>simp [RowKit.intOf];omega
      ·go_wp2
       go_ret3
       exact ⟨_,by rw [HQ2.out];rfl,by rw [HQ2.out];exact Kd.R_nil _ _ _ _ _,Below.refl _ _⟩
   ·have HQ2:Hid (Q=([],false,20)):=Lib.hid (by rw [HQ.out,he];rfl)
    clear HQ
    go_wp2_with fail
    go_ret3
    exact ⟨_,by rw [HQ2.out];rfl,by rw [HQ2.out];exact Kd.R_nil _ _ _ _ _,Below.refl _ _⟩
  ·have HQ2:Hid (Q=([],false,4)):=Lib.hid (by rw [HQ.out,if_neg hsz])
   clear HQ
   go_wp2_with fail
   go_ret3
   exact ⟨_,by rw [HQ2.out];rfl,by rw [HQ2.out];exact Kd.R_nil _ _ _ _ _,Below.refl _ _⟩
end
end Go.Proofs.YthlcjjhfkldmhaaGreatDoor.P
end
section
namespace Go.Proofs.YthlcjjhfkldmhaaGreatDoor.G
open Go.RowKit Go.Lib Go.Proofs.YthlcjjhfkldmhaaGreatDoorW.PrintWords Go.Proofs.YthlcjjhfkldmhaaGreatDoorW.PrintLast
set_option linter.unusedVariables false
set_option linter.unusedSimpArgs false
theorem rff_at {l:List File} {n:ByteArray} {m:Nat} (h:m<l.length) (h0:∀ i (hi:i<l.length),i<m→nameIs n l[i]=false) (h1:nameIs n l[m]=true):l.find? (nameIs n)=some l[m]:=by
 rw [List.find?_eq_some_iff_getElem]
 exact ⟨h1,m,h,rfl,fun j hj=>by simp [h0 j (by omega) hj]⟩
theorem sort_uniq {f:File} (h:SortF f) (n:ByteArray):∀ i j (hi:i<f.files.length) (hj:j<f.files.length),nameIs n f.files[i]=true→nameIs n f.files[j]=true→i=j:=by
 rw [SortF_eq] at h
 intro i j hi hj h1 h2
 have e1:f.files[i].name.toList=n.toList:=eq_of_beq h1
 have e2:f.files[j].name.toList=n.toList:=eq_of_beq h2
 have hne:∀ {a b:Nat} (hab:a<b) (hb:b<f.files.length),(f.files[a]'(by omega)).name.toList≠f.files[b].name.toList:=fun hab hb e=>by
  have hl:=sorted_lt h.1 hab hb
  rw [toList_inj.1 e,less_irrefl] at hl
  cases hl
 rcases Nat.lt_trichotomy i j with hlt | rfl | hlt
 ·exact absurd (e1.trans e2.symm) (hne hlt hj)
 ·rfl
 ·exact absurd (e2.trans e1.symm) (hne hlt hi)
theorem find_uniq {l:List File} {n:ByteArray} (hu:∀ i j (hi:i<l.length) (hj:j<l.length),nameIs n l[i]=true→nameIs n l[j]=true→i=j) {k:Nat} (hk:k<l.length) (h1:nameIs n l[k]=true):l.find? (nameIs n)=some l[k] :=
 rff_at hk (fun i hi hik=>by
  cases hc:nameIs n l[i] with
  | false=>rfl
  | true=>exact absurd (hu i k hi hk hc h1) (by omega)) h1
theorem find_none {l:List File} {n:ByteArray} (h0:∀ i (hi:i<l.length),nameIs n l[i]=false):l.find? (nameIs n)=none:=by
 rw [List.find?_eq_none]
 intro x hx
 obtain ⟨i,hi,rfl⟩:=List.mem_iff_getElem.1 hx
 simp [h0 i hi]
set_option maxHeartbeats 8000000 in
set_option maxRecDepth 100000 in
theorem rreal_calls (t:File) (A:Option Addr) (c:Nat) (Ap:Option Addr) (cp:Nat) (p:List ByteArray) (last:Bool) (w:World) (ht:FileK.C w A t.files.length t.files) (hc:t.files.length≤c) (hbt:t.bulk≤1099511627776) (hso:SortF t) (hp:Kd.C Kd.string w Ap p.length p) (hcp:p.length≤cp) (hpl:p.length≤1099511627776) (hps:P.sumP p≤1099511627776) :
  Calls Tryz.prog 49 #[fileV t A c,.slice Ap p.length cp,.bool last] w fun e w'=>∃ B d,e=.returned (.tuple #[.slice B (walkR t p last).1.length d,.int .i64 (walkR t p last).2.2.2])∧(walkR t p last).1.length≤d∧Kd.C Kd.string w' B (walkR t p last).1.length (walkR t p last).1∧Below w.heap.size w w':=by
 have hb0:=below_alloc (Below.refl w.heap.size w) (.cells (fc t A c) 25)
 have HT0:=Lib.hid (blk_new w (.cells (fc t A c) 25))
 have HT:=Lib.hid ht
 have HP:=Lib.hid hp
 have HSO:=Lib.hid hso
 have hs0:(w.alloc (.cells (fc t A c) 25)).heap.size=w.heap.size+1:=by simp
 obtain ⟨res,hres⟩:∃ r,walkR t p last=r:=⟨_,rfl⟩
 rw [hres]
 unfold walkR at hres
 have HR0:=Lib.hid hres
 clear hres ht hp hso
 go_enter Tryz.func49,Tryz.ntmps49
 unfold fileV
 by_cases hp64:p.length≤64
 rotate_left
 ·have k0:decide ((p.length:Int) > 64)=true:=by simp;omega
  have k0':decide ((64:Int)<p.length)=true:=by simp;omega
  have HR2:=Lib.hid (show badW 3=res from by have h:=HR0.out;rw [if_neg hp64] at h;exact h)
  go_wp2_with fail
  go_ret2
  rw [← HR2.out]
  exact ⟨none,0,rfl,Nat.le_refl _,Kd.C_nil Kd.string _,hb0⟩
 ·have k0:decide ((p.length:Int) > 64)=false:=by simp;omega
  have k0':decide ((64:Int)<p.length)=false:=by simp;omega
  have HR1:=HR0.out
  rw [if_pos hp64] at HR1
  have HR2:=Lib.hid HR1
  clear HR1 HR0
  have HCL:=Lib.hid (fun W (h:Below w.heap.size w W)=>P.rcopy_calls Ap cp p W (Kd.C_below HP.out h) hcp (by omega))
  go_wp2_with fail
  generalize w.alloc (.cells (fc t A c) 25)=W0 at *
  refine (HCL.out _ hb0).mono ?_
  rintro e w1 ⟨v1,rfl,hR1,hq1⟩
  have hb1:=bstep hb0 hb0.size hq1
  have hsz1:=hq1.size
  have HT1:=Lib.hid ((hq1.block _ (blk_lt HT0.out)).trans HT0.out)
  obtain ⟨A1,c1,rfl,hc1,hC1⟩:=Kd.R_reads hR1
  have HF1:=Lib.hid (Kd.R_F hR1)
  clear hR1 hC1
  obtain ⟨l0,l1,l2,l3⟩:=c4A HT1.out
  have ha:=below_alloc (Below.refl w1.heap.size w1) (.cells (fc t A c) 25)
  have HT2:=Lib.hid ((ha.block _ (blk_lt HT1.out)).trans HT1.out)
  have HH2:=Lib.hid (blk_new w1 (.cells (fc t A c) 25))
  have HF2:=Lib.hid (Kd.F_apart_nil (Kd.F_below (Kd.F_elderB HF1.out w1.heap.size (Nat.le_refl _)) ha))
  have hb2:=bstep hb1 hb1.size ha
  have hgl:=blk_lt HH2.out
  have hg0:w.heap.size+1≤w1.heap.size:=by omega
  go_wp2_with fail
  clear l0 l1 l2 l3 HCL
  generalize w1.alloc (.cells (fc t A c) 25)=W2 at *
  go_loopw [8,9,11] (fun d8 d9 d11 wr=>∃ (todo done:List ByteArray) (here:File) (L:Nat) (A1:Option Addr) (c1:Nat) (A2:Option Addr) (c2:Nat),d9=.slice A1 todo.length c1∧d8=.int .i64 L∧L≤40∧done.length+todo.length≤64∧P.sumP done+P.sumP todo≤1099511627776+1025 * (L:Int)∧todo.length≤c1∧here.bulk≤t.bulk∧here.files.length≤c2∧Hid (SortF here)∧Below w.heap.size w wr∧w1.heap.size<wr.heap.size∧Hid (wr.heap[w.heap.size]? = some (.cells (fc t A c) 25 (0,0)))∧Hid (wr.heap[w1.heap.size]? = some (.cells (fc here A2 c2) 25 (0,0)))∧Hid (FileK.C w A2 here.files.length here.files)∧Hid (Kd.R Kd.string 9 wr (w1.heap.size+1) (fun _=>True) d11 done)∧Hid (Kd.F Kd.string wr (fun k=>(True∧k≠w1.heap.size)∧some k≠d11.ownBlock) A1 todo.length todo)∧Hid (walkIn last (followK t last (40 - L)) todo done here=res)) (fun d8 d9 _ _=>(40 - (RowKit.intOf d8).toNat) * 100+lenV d9)
  case atStart=>exact ⟨p,[],t,0,A1,c1,A,c,rfl,rfl,by omega,by simpa using hp64,by simpa [P.sumP] using hps,hc1,Nat.le_refl _,hc,HSO,hb2,hgl,HT2,HH2,HT,Lib.hid (Kd.R_nil _ _ _ _ _),HF2,HR2⟩
  case round =>
   clear HT2 HH2 HF2 HF1 HR2 hgl hb2 ha HT1 hc1 hp64 k0 k0' hq1
   obtain ⟨todo,done,here,L,A1,c1,A2,c2,rfl,rfl,hL,hdl,hsm,hc1,hhb,hc2,HSH,hb,hgl,HT3,HH3,HHC,HDN,HTD,HRS⟩:=hrel
   cases todo with
   | nil =>
    obtain ⟨A3,c3,rfl,hc3,hC3⟩:=Kd.R_reads HDN.out
    have HR5:=Lib.hid (show (done,here,true,0)=res from by have h:=HRS.out;rw [walkIn] at h;exact h)
    clear HRS
    go_wp2_with fail
    go_ret2
    rw [← HR5.out]
    exact ⟨A3,c3,rfl,hc3,hC3,hb⟩
   | cons n rest =>
    obtain ⟨A3,c3,rfl,hc3,hC3⟩:=Kd.R_reads HDN.out
    clear hC3
    obtain ⟨ad,rfl,hx⟩:=Kd.at_string (Kd.F_now HTD.out) 0 (Int.le_refl 0) (by simp)
    have hx:wr.cell? ad=some (.string n):=hx
    rw [List.length_cons] at hdl hc1
    have hsc:P.sumP (n :: rest)=1+(n.size:Int)+P.sumP rest:=by simp [P.sumP]
    rw [hsc] at hsm
    clear hsc
    have hnn:=P.sumP_nonneg rest
    have hndn:=P.sumP_nonneg done
    obtain ⟨B,hB⟩:∃ B,(if c1=1 then some ad else some (ad.add 1))=B:=⟨_,rfl⟩
    have HTD2:Hid (Kd.F Kd.string wr (fun k=>(True∧k≠w1.heap.size)∧some k≠(Value.slice A3 done.length c3).ownBlock) B rest.length rest):=Lib.hid (by
     have h:=Kd.F_cut HTD.out (m:=1) (c:=c1) (by rw [List.length_cons];omega) (by rw [List.length_cons];omega)
     rw [← hB]
     exact h)
    have HB:=Lib.hid hB
    have HRS1:=HRS.out
    rw [walkIn] at HRS1
    have HRS2:=Lib.hid HRS1
    clear HRS1
    have hlp:(1:Int)≤(rest.length:Int)+1:=by omega
    clear hB HRS
    have h1:=cell_of (j:=1) HH3.out rfl
    by_cases hk:here.kind=1
    rotate_left
    ·skip
     have HR3:=Lib.hid (show badW 32=res from by have h:=HRS2.out;rw [if_neg hk] at h;exact h)
     have k1:(here.kind != 1)=true:=by rw [bne_iff_ne];exact hk
     go_wp2_with fail
     go_ret2
     rw [← HR3.out]
     exact ⟨none,0,rfl,Nat.le_refl _,Kd.C_nil Kd.string _,hb⟩
    ·skip
     have HR3:=HRS2.out
     rw [if_pos hk] at HR3
     replace HR3:=Lib.hid HR3
     have k1:(here.kind != 1)=false:=by rw [hk];rfl
     clear hk HRS2
     have hhl:=bulkL_len here.files
     have hhe:=bulk_eq here
     have hhn:here.files.length≤1099511627776:=by omega
     clear hhl hhe
     have HUN:=Lib.hid (sort_uniq HSH.out n)
     have HCH:=Lib.hid (fun m (hm:m<here.files.length)=>bulk_child (List.getElem_mem hm))
     have HSC:=Lib.hid (fun m (hm:m<here.files.length)=>(by have h:=HSH.out;rw [SortF_eq] at h;exact SortL_mem.1 h.2 _ (List.getElem_mem hm):SortF here.files[m]))
     have I:=Lib.hid (Hd.base hb (by first | exact Nat.le_refl _ | exact Below.size hb))
     replace I:=Lib.hid (Hd.and I.out (Hd.box (HT3.out)))
     replace I:=Lib.hid (Hd.and I.out (Hd.box (HH3.out)))
     replace I:=Lib.hid (Hd.and I.out (Hd.F HTD2.out))
     replace I:=Lib.hid (Hd.and I.out (Hd.rows HDN.out))
     have HNL:=Lib.hid (fun k (e:(Value.slice A3 done.length c3).ownBlock=some k)=>((Kd.R_bound HDN.out).1 k e))
     have HTR:=Lib.hid HTD
     have haz:=below_alloc (Below.refl wr.heap.size wr) (.cells zC 25)
     have hnz:=Lib.hid (blk_new wr (.cells zC 25))
     have hhg:=hgl
     clear HT3 HTD2 HDN HTD
     go_wp2_with fail
     all_goals
      have hBB:=HB.out
      first
       | rw [if_pos h] at hBB
       | rw [if_neg h] at hBB
      subst hBB
      have HC1:=Lib.hid h
      clear h HB h1 hx k1
      generalize hWz:wr.alloc (.cells zC 25)=Wz at *
      clear hWz
      go_loopw [13,15] (fun vf vi wi=>∃ m:Nat,m≤here.files.length∧vi=.int .i64 m∧Below wr.heap.size wr wi∧wr.heap.size<wi.heap.size∧((vf=.bool false∧Hid (∀ i (hi:i<here.files.length),i<m→nameIs n here.files[i]=false)∧Hid (wi.heap[wr.heap.size]? = some (.cells zC 25 (0,0))))∨∃ (k:Nat) (hk:k<here.files.length) (x:File) (A4:Option Addr) (c4:Nat),vf=.bool true∧k<m∧Hid (nameIs n here.files[k]=true)∧Hid (here.files[k]=x)∧Hid (wi.heap[wr.heap.size]? = some (.cells (fc x A4 c4) 25 (0,0)))∧x.files.length≤c4∧Hid (FileK.C w A4 x.files.length x.files))) (fun _ vi _=>here.files.length - (RowKit.intOf vi).toNat)
      case atStart=>exact ⟨0,by omega,rfl,haz,blk_lt hnz.out,.inl ⟨rfl,Lib.hid fun _ _ h=>by omega,hnz⟩⟩
      case round =>
       rename World=>wi
       obtain ⟨m,hm,rfl,hbi,hsi,hcase⟩:=hrel
       have hbw:=bstep hb hb.size hbi
       have HHI:=Lib.hid ((hbi.block _ hhg).trans HH3.out)
       have h3:=cell_of (j:=3) HHI.out rfl
       by_cases hml:m<here.files.length
       ·obtain ⟨fad,A',c',rfl,p1,p2,p3,p4,hc',hC'⟩:=file_at HHC.out m hml
        have mv:∀ {p:Addr} {v:Value},w.cell? p=some v→wi.cell? p=some v:=fun h=>(hbw.cell (World.block_lt_of_cell? w _ h)).trans h
        replace p1:=mv p1
        replace p2:=mv p2
        replace p3:=mv p3
        replace p4:=mv p4
        have hq:∃ c0:Array Value,∃ a b c d,c0=#[a,b,c,d]∧wi.heap[wr.heap.size]? = some (.cells c0 25 (0,0)):=by
         rcases hcase with ⟨_,_,h⟩ | ⟨_,_,_,_,_,_,_,_,_,h,_⟩
         ·exact ⟨_,_,_,_,_,rfl,h.out⟩
         ·exact ⟨_,_,_,_,_,rfl,h.out⟩
        obtain ⟨_,z0,z1,z2,z3,rfl,hZ⟩:=hq
        have HX':=Lib.hid hC'
        have HNX:Hid (nameIs n here.files[m]=false→∀ i (hi:i<here.files.length),i<m+1→(∀ i (hi:i<here.files.length),i<m→nameIs n here.files[i]=false)→nameIs n here.files[i]=false):=Lib.hid (fun h i hi hj h0=>by
         by_cases hjm:i<m
         ·exact h0 i hi hjm
         ·obtain rfl:i=m:=by omega
          exact h)
        have HXN:Hid (here.files[m]=here.files[m]):=Lib.hid rfl
        clear mv hC'
        generalize hxm:here.files[m]=x at p1 p2 p3 p4 hc' HX' HNX HXN
        have g2:(m:Int)<(here.files.length:Int):=by omega
        cases hnm:nameIs n x
        ·have q1:(x.name.toList == n.toList)=false:=hnm
         clear p2 p3 p4
         go_wp2_with fail
         go_roundw
         case rel =>
          refine ⟨m+1,by omega,by go_num,hbi,hsi,?_⟩
          rcases hcase with ⟨rfl,h1,h2⟩ | ⟨k,hk,y,A4,c4,rfl,hkm,h1,h2,h3,h4,h5⟩
          ·exact .inl ⟨rfl,Lib.hid fun i hi hj=>HNX.out hnm i hi hj h1.out,h2⟩
          ·exact .inr ⟨k,hk,y,A4,c4,rfl,by omega,h1,h2,h3,h4,h5⟩
         case measure=>simp [RowKit.intOf];omega
        ·have q1:(x.name.toList == n.toList)=true:=hnm
         have u0:=unfr hZ 0
         have u1:=unfr hZ 1
         have u2:=unfr hZ 2
         have u3:=unfr hZ 3
         obtain ⟨y0,y1,y2,y3⟩:=c4A hZ
         have HZ2:=Lib.hid (store4_box hZ (.string x.name) (.int .u8 x.kind) (.string x.data) (.slice A' x.files.length c'))
         have HBL:=Lib.hid (store4_below hbi (Nat.le_refl wr.heap.size) (.string x.name) (.int .u8 x.kind) (.string x.data) (.slice A' x.files.length c'))
         have hnk:nameIs n here.files[m]=true:=by rw [hxm];exact hnm
         go_wp2_with fail
         go_roundw
         case rel=>exact ⟨m+1,by omega,by go_num,HBL.out,blk_lt HZ2.out,.inr ⟨m,hml,x,A',c',rfl,by omega,Lib.hid hnk,Lib.hid hxm,HZ2,hc',HX'⟩⟩
         case measure=>simp [RowKit.intOf];omega
       ·obtain rfl:m=here.files.length:=by omega
        have hWi:Below wr.heap.size wr wi:=hbi
        clear h3 hml
        replace I:=Lib.hid (Hd.mv I.out hWi)
        obtain ⟨lh0,lh1,lh2,lh3⟩:=c4A I.out.now.2.2.1
        rcases hcase with ⟨rfl,HNO,HZW⟩ | ⟨k,hk,x,A4,c4,rfl,hkm,HK1,HKX,HZW,hc4,HXC⟩
        ·skip
         have HR4:=HR3.out
         rw [find_none (fun i hi=>HNO.out i hi hi)] at HR4
         simp only at HR4
         replace HR4:=Lib.hid HR4
         by_cases hr0:rest.length=0
         rotate_left
         ·skip
          have HR5:=Lib.hid (show badW 31=res from by have h:=HR4.out;rw [if_neg hr0] at h;exact h)
          have k2:decide ((0:Int)<(rest.length:Int))=true:=by simp;omega
          have k2r:(0:Int)<(rest.length:Int):=by omega
          clear hr0
          go_wp2_with fail
          go_ret2
          rw [← HR5.out]
          exact ⟨none,0,rfl,Nat.le_refl _,Kd.C_nil Kd.string _,I.out.now.2.2.2.2⟩
         ·skip
          have HR5:=HR4.out
          rw [if_pos hr0] at HR5
          replace HR5:=Lib.hid HR5
          obtain rfl:rest=[]:=List.length_eq_zero_iff.1 hr0
          clear hr0
          have HDO:=Lib.hid I.out.now.1
          have hbx:=I.out.now.2.2.2.2
          have hlx:w1.heap.size<wi.heap.size:=blk_lt I.out.now.2.2.1
          have HNB:=Lib.hid (fun k (e:(Value.slice A3 done.length c3).ownBlock=some k)=>(⟨(HNL.out k e).2.1,by have:=(HNL.out k e).2.2.1;omega,by have:=hWi.size;have:=(HNL.out k e).2.2.1;omega⟩:w1.heap.size+1≤k∧k<wr.heap.size∧k<wi.heap.size))
          go_wp2_with (at_builtin;refine Kd.R_append Kd.string (w0:=wi) (w1.heap.size+1) rfl (.tmp 62) (.tmp 64) 40 9 (.string ⟨#[]⟩) 16 rfl Tryz.underlying40 info_str rfl (by decide) (by decide) (.slice A3 done.length c3) done n [.string n] (fun _=>True) (fun _=>False) rfl rfl ?aP ?aK ?aF ?aO ?aB ?aS ?aL ?_;(case aP=>exact rfl);(case aK=>exact fun j hj=>hj.elim);(case aF=>exact fun _ _=>trivial);(case aO=>exact HDO.out);(case aB=>exact Below.refl _ _);(case aS=>exact hlx);(case aL=>omega);intro v2 w2 ho2 hb2 hg2 hat2)
          obtain ⟨A5,c5,rfl,hc5,hC5⟩:=Kd.R_reads ho2
          go_ret2
          rw [← HR5.out]
          exact ⟨A5,c5,rfl,hc5,hC5,hbx.trans (hb2.mono (by omega))⟩
        ·skip
         have hxb:=HCH.out k hk
         have HSX:Hid (SortF x):=Lib.hid (by rw [← HKX.out];exact HSC.out k hk)
         have HR4:=HR3.out
         rw [find_uniq HUN.out hk HK1.out] at HR4
         rw [HKX.out] at HR4 hxb
         simp only at HR4
         replace HR4:=Lib.hid HR4
         replace I:=Lib.hid (Hd.and I.out (Hd.box (HZW.out)))
         clear HUN HCH HSC HK1 HKX HZW hkm
         by_cases hx3:x.kind=3∧¬ (rest.length=0∧last=false)
         rotate_left
         ·skip
          have HR5:=HR4.out
          rw [if_neg hx3] at HR5
          replace HR5:=Lib.hid HR5
          have HDO:=Lib.hid I.out.now.2.1
          have hbx:=I.out.now.2.2.2.2.2
          have hlx:w1.heap.size<wi.heap.size:=blk_lt I.out.now.2.2.2.1
          have HNB:=Lib.hid (fun k (e:(Value.slice A3 done.length c3).ownBlock=some k)=>(⟨(HNL.out k e).2.1,by have:=(HNL.out k e).2.2.1;omega,by have:=hWi.size;have:=(HNL.out k e).2.2.1;omega⟩:w1.heap.size+1≤k∧k<wr.heap.size∧k<wi.heap.size))
          have HXX:=Lib.hid I.out.now.1
          have HTX:=Lib.hid I.out.now.2.2.2.2.1
          have HHX:=Lib.hid I.out.now.2.2.2.1
          have HRX:=Lib.hid I.out.now.2.2.1
          by_cases h3:x.kind=3
          rotate_left
          ·skip
           have k2:(x.kind != 3)=true:=by rw [bne_iff_ne];exact h3
           clear h3 hx3
           have x1:=cell_of (j:=1) HXX.out rfl
           go_wp2_with (at_builtin;refine Kd.R_append Kd.string (w0:=wi) (w1.heap.size+1) rfl (.tmp 78) (.tmp 80) 40 9 (.string ⟨#[]⟩) 16 rfl Tryz.underlying40 info_str rfl (by decide) (by decide) (.slice A3 done.length c3) done n [.string n] (fun _=>True) (fun _=>False) rfl rfl ?aP ?aK ?aF ?aO ?aB ?aS ?aL ?_;(case aP=>exact rfl);(case aK=>exact fun j hj=>hj.elim);(case aF=>exact fun _ _=>trivial);(case aO=>exact HDO.out);(case aB=>exact Below.refl _ _);(case aS=>exact hlx);(case aL=>omega);intro v2 w2 ho2 hb2 hg2 hat2;clear x1 lh0 lh1 lh2 lh3;have hs2:=hg2.size;have HX2:=Lib.hid ((hg2.block wr.heap.size (blk_lt HXX.out) (fun e=>by have:=HNB.out _ e.symm;omega)).trans HXX.out);have HT2:=Lib.hid ((hg2.block w.heap.size (blk_lt HTX.out) (fun e=>by have:=HNB.out _ e.symm;omega)).trans HTX.out);have HH2:=Lib.hid ((hg2.block w1.heap.size (blk_lt HHX.out) (fun e=>by have:=HNB.out _ e.symm;omega)).trans HHX.out);have HF2:=Lib.hid (Kd.F_after HRX.out hg2 hat2);have HO2:=Lib.hid ho2;have hbw2:Below w.heap.size w w2:=hbx.trans (hb2.mono (by omega));clear ho2 hb2 hg2 hat2;have x0:=cell_of (j:=0) HX2.out rfl;have ux0:=unfr HX2.out 0;have x1:=cell_of (j:=1) HX2.out rfl;have ux1:=unfr HX2.out 1;have x2:=cell_of (j:=2) HX2.out rfl;have ux2:=unfr HX2.out 2;have x3:=cell_of (j:=3) HX2.out rfl;have ux3:=unfr HX2.out 3;have z0:=cell_of (j:=0) HH2.out rfl;have uz0:=unfr HH2.out 0;have z1:=cell_of (j:=1) HH2.out rfl;have uz1:=unfr HH2.out 1;have z2:=cell_of (j:=2) HH2.out rfl;have uz2:=unfr HH2.out 2;have z3:=cell_of (j:=3) HH2.out rfl;have uz3:=unfr HH2.out 3)
           have hst:=fun k (hk:k≠w1.heap.size)=>store4_other w2 (g:=w1.heap.size) (k:=k) hk (.string x.name) (.int .u8 x.kind) (.string x.data) (.slice A4 x.files.length c4)
           have HH3:=store4_box HH2.out (.string x.name) (.int .u8 x.kind) (.string x.data) (.slice A4 x.files.length c4)
           have hb3:=store4_below hbw2 (g:=w1.heap.size) (by omega) (.string x.name) (.int .u8 x.kind) (.string x.data) (.slice A4 x.files.length c4)
           have HT3:=(hst _ (by omega)).trans HT2.out
           have HO3:=Kd.R_step (w1:=((((w2.setCell ⟨w1.heap.size,0,none⟩ (.string x.name)).setCell ⟨w1.heap.size,1,none⟩ (.int .u8 x.kind)).setCell ⟨w1.heap.size,2,none⟩ (.string x.data)).setCell ⟨w1.heap.size,3,none⟩ (.slice A4 x.files.length c4))) (Kd.R_bound HO2.out) fun k hk _=>hst k (by have:=hk.2.1;omega)
           have HF3:=Kd.F_step (W1:=((((w2.setCell ⟨w1.heap.size,0,none⟩ (.string x.name)).setCell ⟨w1.heap.size,1,none⟩ (.int .u8 x.kind)).setCell ⟨w1.heap.size,2,none⟩ (.string x.data)).setCell ⟨w1.heap.size,3,none⟩ (.slice A4 x.files.length c4))) HF2.out fun k hk _=>hst k hk.1.2
           have hg3:=blk_lt HH3
           have HOO:=Lib.hid (Kd.R_mono HO3 (ok':=fun _=>True) fun _ _=>trivial)
           go_roundw
           case rel=>exact ⟨_,done++[n],x,L,_,_,A4,c4,rfl,rfl,hL,by rw [List.length_append,List.length_singleton];omega,by rw [P.sumP_snoc];omega,by have:=HC1.out;omega,by omega,hc4,HSX,hb3,hg3,Lib.hid HT3,Lib.hid HH3,HXC,HOO,Lib.hid HF3,HR5⟩
           case measure=>simp [RowKit.intOf,lenV]
          ·skip
           have hrl:rest.length=0∧last=false:=by
            by_cases h:rest.length=0∧last=false
            ·exact h
            ·exact absurd ⟨h3,h⟩ hx3
           obtain ⟨hr0,rfl⟩:=hrl
           obtain rfl:rest=[]:=List.length_eq_zero_iff.1 hr0
           have k2:(x.kind != 3)=false:=by rw [h3];rfl
           clear h3 hx3 hr0
           have x1:=cell_of (j:=1) HXX.out rfl
           go_wp2_with (at_builtin;refine Kd.R_append Kd.string (w0:=wi) (w1.heap.size+1) rfl (.tmp 78) (.tmp 80) 40 9 (.string ⟨#[]⟩) 16 rfl Tryz.underlying40 info_str rfl (by decide) (by decide) (.slice A3 done.length c3) done n [.string n] (fun _=>True) (fun _=>False) rfl rfl ?aP ?aK ?aF ?aO ?aB ?aS ?aL ?_;(case aP=>exact rfl);(case aK=>exact fun j hj=>hj.elim);(case aF=>exact fun _ _=>trivial);(case aO=>exact HDO.out);(case aB=>exact Below.refl _ _);(case aS=>exact hlx);(case aL=>omega);intro v2 w2 ho2 hb2 hg2 hat2;clear x1 lh0 lh1 lh2 lh3;have hs2:=hg2.size;have HX2:=Lib.hid ((hg2.block wr.heap.size (blk_lt HXX.out) (fun e=>by have:=HNB.out _ e.symm;omega)).trans HXX.out);have HT2:=Lib.hid ((hg2.block w.heap.size (blk_lt HTX.out) (fun e=>by have:=HNB.out _ e.symm;omega)).trans HTX.out);have HH2:=Lib.hid ((hg2.block w1.heap.size (blk_lt HHX.out) (fun e=>by have:=HNB.out _ e.symm;omega)).trans HHX.out);have HF2:=Lib.hid (Kd.F_after HRX.out hg2 hat2);have HO2:=Lib.hid ho2;have hbw2:Below w.heap.size w w2:=hbx.trans (hb2.mono (by omega));clear ho2 hb2 hg2 hat2;have x0:=cell_of (j:=0) HX2.out rfl;have ux0:=unfr HX2.out 0;have x1:=cell_of (j:=1) HX2.out rfl;have ux1:=unfr HX2.out 1;have x2:=cell_of (j:=2) HX2.out rfl;have ux2:=unfr HX2.out 2;have x3:=cell_of (j:=3) HX2.out rfl;have ux3:=unfr HX2.out 3;have z0:=cell_of (j:=0) HH2.out rfl;have uz0:=unfr HH2.out 0;have z1:=cell_of (j:=1) HH2.out rfl;have uz1:=unfr HH2.out 1;have z2:=cell_of (j:=2) HH2.out rfl;have uz2:=unfr HH2.out 2;have z3:=cell_of (j:=3) HH2.out rfl;have uz3:=unfr HH2.out 3)
           have hst:=fun k (hk:k≠w1.heap.size)=>store4_other w2 (g:=w1.heap.size) (k:=k) hk (.string x.name) (.int .u8 x.kind) (.string x.data) (.slice A4 x.files.length c4)
           have HH3:=store4_box HH2.out (.string x.name) (.int .u8 x.kind) (.string x.data) (.slice A4 x.files.length c4)
           have hb3:=store4_below hbw2 (g:=w1.heap.size) (by omega) (.string x.name) (.int .u8 x.kind) (.string x.data) (.slice A4 x.files.length c4)
           have HT3:=(hst _ (by omega)).trans HT2.out
           have HO3:=Kd.R_step (w1:=((((w2.setCell ⟨w1.heap.size,0,none⟩ (.string x.name)).setCell ⟨w1.heap.size,1,none⟩ (.int .u8 x.kind)).setCell ⟨w1.heap.size,2,none⟩ (.string x.data)).setCell ⟨w1.heap.size,3,none⟩ (.slice A4 x.files.length c4))) (Kd.R_bound HO2.out) fun k hk _=>hst k (by have:=hk.2.1;omega)
           have HF3:=Kd.F_step (W1:=((((w2.setCell ⟨w1.heap.size,0,none⟩ (.string x.name)).setCell ⟨w1.heap.size,1,none⟩ (.int .u8 x.kind)).setCell ⟨w1.heap.size,2,none⟩ (.string x.data)).setCell ⟨w1.heap.size,3,none⟩ (.slice A4 x.files.length c4))) HF2.out fun k hk _=>hst k hk.1.2
           have hg3:=blk_lt HH3
           have HOO:=Lib.hid (Kd.R_mono HO3 (ok':=fun _=>True) fun _ _=>trivial)
           go_roundw
           case rel=>exact ⟨_,done++[n],x,L,_,_,A4,c4,rfl,rfl,hL,by rw [List.length_append,List.length_singleton];omega,by rw [P.sumP_snoc];omega,by have:=HC1.out;omega,by omega,hc4,HSX,hb3,hg3,Lib.hid HT3,Lib.hid HH3,HXC,HOO,Lib.hid HF3,HR5⟩
           case measure=>simp [RowKit.intOf,lenV]
         ·skip
          have HR5:=HR4.out
          rw [if_pos hx3] at HR5
          replace HR5:=Lib.hid HR5
          have k2:(x.kind != 3)=false:=by rw [hx3.1];rfl
          have hor:((rest.length:Int) == 0)=false∨(((rest.length:Int) == 0)=true∧last=true):=by
           by_cases h:rest.length=0
           ·refine .inr ⟨by rw [beq_iff_eq];omega,?_⟩
            cases hl:last
            ·exact absurd ⟨h,hl⟩ hx3.2
            ·rfl
           ·exact .inl (by rw [beq_eq_false_iff_ne];omega)
          clear hx3 HR4
          rcases hor with k4 | ⟨k4,rfl⟩
          all_goals
           have lx1:=cell_of (j:=1) I.out.now.1 rfl
           have lx2:=cell_of (j:=2) I.out.now.1 rfl
           by_cases hL40:L=40
           rotate_left 0
           ·skip
            have k6:((L:Int) == 40)=true:=by rw [beq_iff_eq];omega
            have HR6:=HR5.out
            rw [show 40 - L=0 by omega] at HR6
            have HR7:=Lib.hid (show badW 41=res from HR6)
            clear HR6 hL40
            go_wp2_with fail
            go_ret2
            rw [← HR7.out]
            exact ⟨none,0,rfl,Nat.le_refl _,Kd.C_nil Kd.string _,I.out.now.2.2.2.2.2⟩
           ·skip
            have k6:((L:Int) == 40)=false:=by rw [beq_eq_false_iff_ne];omega
            obtain ⟨m,hm⟩:∃ m,40 - L=m+1:=⟨39 - L,by omega⟩
            have HR6:=HR5.out
            rw [hm] at HR6
            simp only [followK] at HR6
            have HR7:=Lib.hid HR6
            have hmm:40 - (L+1)=m:=by omega
            have HMM:=Lib.hid hmm
            clear HR6 HR5 hm hmm
            have hnrm:=P.norm_sum done x.data
            have hwi:=hWi.size
            go_wp2_with fail
            clear lx1 lx2 lh0 lh1 lh2 lh3
            refine (P.rnormal_calls A3 c3 done x.data _ (Kd.R_reads' I.out.now.2.1).2.2 hc3 (by omega) (by omega)).mono ?_
            rintro e w21 ⟨v,rfl,hR,hq21⟩
            replace I:=Lib.hid (Hd.mv I.out hq21)
            obtain ⟨⟨to_,bo,why⟩,hnr⟩:∃ g,P.normR done x.data=g:=⟨_,rfl⟩
            have HR8:=HR7.out
            rw [hnr] at HR8 hnrm hR
            rw [hnr]
            simp only at HR8 hnrm hR ⊢
            replace HR8:=Lib.hid HR8
            clear hnr HR7
            obtain ⟨A5,c5,rfl,hc5,hC5⟩:=Kd.R_reads hR
            clear hC5
            have HTO:=Lib.hid hR
            clear hR
            by_cases hk0:why=0
            rotate_left
            ·skip
             have HR9:=Lib.hid (show badW why=res from by have h:=HR8.out;rw [if_neg hk0] at h;exact h)
             have k7:(why != 0)=true:=by rw [bne_iff_ne];exact hk0
             clear hnrm hk0
             go_wp2_with fail
             go_ret2
             rw [← HR9.out]
             exact ⟨none,0,rfl,Nat.le_refl _,Kd.C_nil Kd.string _,I.out.now.2.2.2.2.2⟩
            ·skip
             subst hk0
             have hns:=hnrm rfl
             have htl:=P.sumP_len to_
             obtain ⟨L2,hL2⟩:∃ L2,to_++rest=L2:=⟨_,rfl⟩
             have hll:L2.length=to_.length+rest.length:=by rw [← hL2];simp
             have hls:P.sumP L2=P.sumP to_+P.sumP rest:=by rw [← hL2];simp [P.sumP,List.sum_append]
             have hlm:(to_.length+rest.length) * 16≤140737488355328:=by omega
             have hls2:P.sumP L2≤1024+P.sumP rest:=by omega
             have HR9:=HR8.out
             rw [if_pos rfl,hL2] at HR9
             replace HR9:=Lib.hid HR9
             have HL2:=Lib.hid hL2
             have HNT:=Lib.hid (fun k (e:(Value.slice A5 to_.length c5).ownBlock=some k)=>((Kd.R_bound HTO.out).1 k e).2.1)
             have HTW:=Lib.hid I.out.now.2.2.2.2.1
             have HHW:=Lib.hid I.out.now.2.2.2.1
             have hbc:=I.out.now.2.2.2.2.2
             have HRW:=Lib.hid (Kd.F_now I.out.now.2.2.1)
             clear hL2 hll hls hnrm HR8
             have hww:=hq21.size
             have hlw:=blk_lt HHI.out
             have hlt:=blk_lt HT0.out
             by_cases h64:L2.length≤64
             rotate_left
             ·skip
              have k8:decide ((L2.length:Int) > 64)=true:=by simp;omega
              have k8r:(64:Int)<(L2.length:Int):=by omega
              have HR10:=Lib.hid (show badW 3=res from by have h:=HR9.out;rw [if_neg h64] at h;exact h)
              clear h64
              go_wp2_with (at_builtin;refine Kd.R_append_row Value.string ByteArray.empty (h1:=fun _=>rfl) (w0:=w21) wi.heap.size rfl (.tmp 98) (.tmp 99) 40 9 (.string ⟨#[]⟩) 16 rfl Tryz.underlying40 info_str rfl (by decide) (.slice A5 to_.length c5) to_ rest _ rest.length _ (fun k=>k≠w1.heap.size) rfl rfl ?aF ?aO ?aR ?aB ?aS ?aL ?_;(case aF=>exact fun k hk=>by omega);(case aO=>exact Kd.R_mono (Kd.R_bound HTO.out) fun k hk=>by have:=hk.2.1;omega);(case aR=>exact HRW.out);(case aB=>exact Below.refl _ _);(case aS=>exact hww);(case aL=>exact hlm);intro v2 w2 ho2 hb2 hg2 hat2;rw [HL2.out] at ho2;obtain ⟨A6,c6,rfl,hc6,hC6⟩:=Kd.R_reads ho2;have HO2:=Lib.hid ho2;have hs2:=hg2.size;have HT2:=Lib.hid ((hg2.block w.heap.size (blk_lt HTW.out) (fun e=>by have:=HNT.out _ e.symm;omega)).trans HTW.out);have HH2:=Lib.hid ((hg2.block w1.heap.size (blk_lt HHW.out) (fun e=>by have:=HNT.out _ e.symm;omega)).trans HHW.out);have hbw2:Below w.heap.size w w2:=hbc.trans (hb2.mono (by omega));clear ho2 hC6 hb2 hg2 hat2)
              go_ret2
              rw [← HR10.out]
              exact ⟨none,0,rfl,Nat.le_refl _,Kd.C_nil Kd.string _,hbw2⟩
             ·skip
              have k8:decide ((L2.length:Int) > 64)=false:=by simp;omega
              have k8r:¬ (64:Int)<(L2.length:Int):=by omega
              have HR10:=HR9.out
              rw [if_pos h64] at HR10
              replace HR10:=Lib.hid HR10
              clear HR9
              go_wp2_with (at_builtin;refine Kd.R_append_row Value.string ByteArray.empty (h1:=fun _=>rfl) (w0:=w21) wi.heap.size rfl (.tmp 98) (.tmp 99) 40 9 (.string ⟨#[]⟩) 16 rfl Tryz.underlying40 info_str rfl (by decide) (.slice A5 to_.length c5) to_ rest _ rest.length _ (fun k=>k≠w1.heap.size) rfl rfl ?aF ?aO ?aR ?aB ?aS ?aL ?_;(case aF=>exact fun k hk=>by omega);(case aO=>exact Kd.R_mono (Kd.R_bound HTO.out) fun k hk=>by have:=hk.2.1;omega);(case aR=>exact HRW.out);(case aB=>exact Below.refl _ _);(case aS=>exact hww);(case aL=>exact hlm);intro v2 w2 ho2 hb2 hg2 hat2;rw [HL2.out] at ho2;obtain ⟨A6,c6,rfl,hc6,hC6⟩:=Kd.R_reads ho2;have HO2:=Lib.hid ho2;have hs2:=hg2.size;have HT2:=Lib.hid ((hg2.block w.heap.size (blk_lt HTW.out) (fun e=>by have:=HNT.out _ e.symm;omega)).trans HTW.out);have HH2:=Lib.hid ((hg2.block w1.heap.size (blk_lt HHW.out) (fun e=>by have:=HNT.out _ e.symm;omega)).trans HHW.out);have hbw2:Below w.heap.size w w2:=hbc.trans (hb2.mono (by omega));clear ho2 hC6 hb2 hg2 hat2;have q0:=cell_of (j:=0) HT2.out rfl;have uq0:=unfr HT2.out 0;have q1:=cell_of (j:=1) HT2.out rfl;have uq1:=unfr HT2.out 1;have q2:=cell_of (j:=2) HT2.out rfl;have uq2:=unfr HT2.out 2;have q3:=cell_of (j:=3) HT2.out rfl;have uq3:=unfr HT2.out 3;have z0:=cell_of (j:=0) HH2.out rfl;have uz0:=unfr HH2.out 0;have z1:=cell_of (j:=1) HH2.out rfl;have uz1:=unfr HH2.out 1;have z2:=cell_of (j:=2) HH2.out rfl;have uz2:=unfr HH2.out 2;have z3:=cell_of (j:=3) HH2.out rfl;have uz3:=unfr HH2.out 3)
              have hst:=fun k (hk:k≠w1.heap.size)=>store4_other w2 (g:=w1.heap.size) (k:=k) hk (.string t.name) (.int .u8 t.kind) (.string t.data) (.slice A t.files.length c)
              have HH3:=store4_box HH2.out (.string t.name) (.int .u8 t.kind) (.string t.data) (.slice A t.files.length c)
              have hb3:=store4_below hbw2 (g:=w1.heap.size) (by omega) (.string t.name) (.int .u8 t.kind) (.string t.data) (.slice A t.files.length c)
              have HT3:=(hst _ (by omega)).trans HT2.out
              have HF3:=Kd.F_step (W1:=((((w2.setCell ⟨w1.heap.size,0,none⟩ (.string t.name)).setCell ⟨w1.heap.size,1,none⟩ (.int .u8 t.kind)).setCell ⟨w1.heap.size,2,none⟩ (.string t.data)).setCell ⟨w1.heap.size,3,none⟩ (.slice A t.files.length c))) (Kd.F_mono (Kd.R_F HO2.out) (ok':=fun k=>True∧k≠w1.heap.size) fun k hk=>⟨trivial,hk⟩) fun k hk _=>hst k hk.2
              have hg3:=blk_lt HH3
              go_roundw
              case rel=>exact ⟨L2,[],t,L+1,A6,c6,A,c,rfl,by go_num,by omega,by simpa using h64,by show 0+P.sumP L2≤_;omega,hc6,Nat.le_refl _,hc,HSO,hb3,hg3,Lib.hid HT3,Lib.hid HH3,HT,Lib.hid (Kd.R_nil _ _ _ _ _),Lib.hid (Kd.F_apart_nil HF3),Lib.hid (by rw [HMM.out];exact HR10.out)⟩
              case measure=>simp [RowKit.intOf,lenV];omega
end Go.Proofs.YthlcjjhfkldmhaaGreatDoor.G
end
