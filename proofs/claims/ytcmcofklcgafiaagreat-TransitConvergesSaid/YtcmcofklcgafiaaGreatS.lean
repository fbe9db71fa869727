/- Part S of the proof: see the last part. -/
import Derived.Test.YtcmcofklcgafiaaGreatV2
import Derived.Test.YtcmcofklcgafiaaGreatProg
import Derived.KernelRfl
open Go renaming Fence→bY,callsIn_wide→dD
open List renaming mem_cons→iE,not_mem_nil→iF
set_option linter.unusedVariables false
namespace Go.Proofs.YtcmcofklcgafiaaGreat
open Go Go.RowKit Go.Maps Go.Sort Go.Shelf List Nat
set_option maxRecDepth 100000
def F1:Go.Shelf.Ren:=⟨fun | 7=>43 | 10=>95|n=>n,fun | 23=>70 | 26=>3 | 3=>115 | 28=>113 | 0=>0 | 27=>112 | 33=>102 | 4=>4|n=>n,fun|n=>n⟩
theorem nK:Go.Proofs.SlLaysZI.n7 Tryz.prog F1:={
 mixed:=by kernel_rfl,
 f7:=⟨Tryz.f43.name,by decide,Tryz.func43.trans (congrArg some (by kernel_rfl))⟩,
 f10:=⟨Tryz.f95.name,by decide,Tryz.func95.trans (congrArg some (by kernel_rfl))⟩,
 t0:=Tryz.underlying0,
 a0:=Tryz.isAgg0,
 z0:=Tryz.sizeOf0,
 v0:=Tryz.zeroValue0,
 t4:=Tryz.underlying4,
 a4:=Tryz.isAgg4,
 z4:=Tryz.sizeOf4,
 v4:=Tryz.zeroValue4,
 t23:=Tryz.underlying70,
 a23:=Tryz.isAgg70,
 z23:=Tryz.sizeOf70,
 v23:=Tryz.zeroValue70,
 t26:=Tryz.underlying3,
 a26:=Tryz.isAgg3,
 z26:=Tryz.sizeOf3,
 v26:=Tryz.zeroValue3,
 t27:=Tryz.underlying112,
 a27:=Tryz.isAgg112,
 z27:=Tryz.sizeOf112,
 v27:=Tryz.zeroValue112,
 t28:=Tryz.underlying113,
 a28:=Tryz.isAgg113,
 z28:=Tryz.sizeOf113,
 v28:=Tryz.zeroValue113,
 t33:=Tryz.underlying102,
 a33:=Tryz.isAgg102,
 z33:=Tryz.sizeOf102,
 v33:=Tryz.zeroValue102 }
def F2:Go.Shelf.Ren:=⟨fun | 7=>114 | 10=>144|n=>n,fun | 23=>215 | 26=>3 | 3=>34 | 28=>113 | 0=>0 | 27=>112 | 33=>102 | 4=>4|n=>n,fun|n=>n⟩
theorem F3:Go.Proofs.SlLaysZI.n7 Tryz.prog F2:={
 mixed:=by kernel_rfl,
 f7:=⟨Tryz.f114.name,by decide,Tryz.func114.trans (congrArg some (by kernel_rfl))⟩,
 f10:=⟨Tryz.f144.name,by decide,Tryz.func144.trans (congrArg some (by kernel_rfl))⟩,
 t0:=Tryz.underlying0,
 a0:=Tryz.isAgg0,
 z0:=Tryz.sizeOf0,
 v0:=Tryz.zeroValue0,
 t4:=Tryz.underlying4,
 a4:=Tryz.isAgg4,
 z4:=Tryz.sizeOf4,
 v4:=Tryz.zeroValue4,
 t23:=Tryz.underlying215,
 a23:=Tryz.isAgg215,
 z23:=Tryz.sizeOf215,
 v23:=Tryz.zeroValue215,
 t26:=Tryz.underlying3,
 a26:=Tryz.isAgg3,
 z26:=Tryz.sizeOf3,
 v26:=Tryz.zeroValue3,
 t27:=Tryz.underlying112,
 a27:=Tryz.isAgg112,
 z27:=Tryz.sizeOf112,
 v27:=Tryz.zeroValue112,
 t28:=Tryz.underlying113,
 a28:=Tryz.isAgg113,
 z28:=Tryz.sizeOf113,
 v28:=Tryz.zeroValue113,
 t33:=Tryz.underlying102,
 a33:=Tryz.isAgg102,
 z33:=Tryz.sizeOf102,
 v33:=Tryz.zeroValue102 }
def RU:Go.Shelf.Ren:=⟨fun | 6=>42 | 8=>93 | 9=>94 | 11=>134 | 13=>136 | 12=>135 | 23=>174 | 24=>175 | 14=>166 | 15=>167 | 16=>168 | 17=>169 | 18=>170 | 19=>171 | 20=>107 | 21=>172 | 22=>173 | 25=>211 | 26=>212 | 27=>213 | 28=>214 | 29=>215 | 30=>140 | 31=>228|n=>n,fun | 26=>3 | 28=>113 | 24=>25 | 0=>0 | 3=>3 | 37=>225 | 48=>28 | 50=>55 | 4=>4 | 40=>302 | 39=>301 | 45=>135 | 5=>5 | 9=>9 | 51=>343 | 55=>209 | 57=>365 | 58=>366 | 33=>102|n=>n,fun|n=>n⟩
theorem zM:Go.Proofs.SlLaysZI.n6 Tryz.prog RU:={
 mixed:=by kernel_rfl,
 f6:=⟨Tryz.f42.name,by decide,Tryz.func42.trans (congrArg some (by kernel_rfl))⟩,
 f8:=⟨Tryz.f93.name,by decide,Tryz.func93.trans (congrArg some (by kernel_rfl))⟩,
 f11:=⟨Tryz.f134.name,by decide,Tryz.func134.trans (congrArg some (by kernel_rfl))⟩,
 t0:=Tryz.underlying0,
 a0:=Tryz.isAgg0,
 z0:=Tryz.sizeOf0,
 v0:=Tryz.zeroValue0,
 t24:=Tryz.underlying25,
 a24:=Tryz.isAgg25,
 z24:=Tryz.sizeOf25,
 v24:=Tryz.zeroValue25,
 t26:=Tryz.underlying3,
 a26:=Tryz.isAgg3,
 z26:=Tryz.sizeOf3,
 v26:=Tryz.zeroValue3,
 t28:=Tryz.underlying113,
 a28:=Tryz.isAgg113,
 z28:=Tryz.sizeOf113,
 v28:=Tryz.zeroValue113,
 i26:=by kernel_rfl }
def F4:Go.Shelf.Ren:=⟨fun | 5=>94 | 8=>136 | 7=>135 | 19=>174 | 20=>175 | 10=>166 | 11=>167 | 12=>168 | 13=>169 | 14=>170 | 15=>171 | 16=>107 | 17=>172 | 18=>173 | 30=>211 | 31=>212 | 32=>213 | 33=>214 | 34=>215 | 35=>140 | 40=>228|n=>n,fun | 23=>25 | 25=>3 | 3=>3 | 32=>225 | 22=>25 | 0=>0 | 44=>28 | 46=>55 | 4=>4 | 36=>302 | 35=>301 | 41=>135 | 5=>5 | 9=>9 | 53=>343 | 57=>209 | 63=>365 | 64=>366|n=>n,fun|n=>n⟩
theorem zN:Go.Proofs.SlLaysM.n5 Tryz.prog F4:={
 mixed:=by kernel_rfl,
 f5:=⟨Tryz.f94.name,by decide,Tryz.func94.trans (congrArg some (by kernel_rfl))⟩,
 f7:=⟨Tryz.f135.name,by decide,Tryz.func135.trans (congrArg some (by kernel_rfl))⟩,
 f8:=Tryz.func136.trans (congrArg some (by kernel_rfl)),
 f10:=⟨Tryz.f166.name,by decide,Tryz.func166.trans (congrArg some (by kernel_rfl))⟩,
 f11:=⟨Tryz.f167.name,by decide,Tryz.func167.trans (congrArg some (by kernel_rfl))⟩,
 f12:=⟨Tryz.f168.name,by decide,Tryz.func168.trans (congrArg some (by kernel_rfl))⟩,
 f13:=⟨Tryz.f169.name,by decide,Tryz.func169.trans (congrArg some (by kernel_rfl))⟩,
 f14:=⟨Tryz.f170.name,by decide,Tryz.func170.trans (congrArg some (by kernel_rfl))⟩,
 f15:=⟨Tryz.f171.name,by decide,Tryz.func171.trans (congrArg some (by kernel_rfl))⟩,
 f16:=⟨Tryz.f107.name,by decide,Tryz.func107.trans (congrArg some (by kernel_rfl))⟩,
 f17:=⟨Tryz.f172.name,by decide,Tryz.func172.trans (congrArg some (by kernel_rfl))⟩,
 f18:=⟨Tryz.f173.name,by decide,Tryz.func173.trans (congrArg some (by kernel_rfl))⟩,
 f19:=Tryz.func174.trans (congrArg some (by kernel_rfl)),
 f20:=Tryz.func175.trans (congrArg some (by kernel_rfl)),
 f30:=⟨Tryz.f211.name,by decide,Tryz.func211.trans (congrArg some (by kernel_rfl))⟩,
 f31:=Tryz.func212.trans (congrArg some (by kernel_rfl)),
 f32:=Tryz.func213.trans (congrArg some (by kernel_rfl)),
 f33:=⟨Tryz.f214.name,by decide,Tryz.func214.trans (congrArg some (by kernel_rfl))⟩,
 f34:=⟨Tryz.f215.name,by decide,Tryz.func215.trans (congrArg some (by kernel_rfl))⟩,
 f35:=⟨Tryz.f140.name,by decide,Tryz.func140.trans (congrArg some (by kernel_rfl))⟩,
 f40:=⟨Tryz.f228.name,by decide,Tryz.func228.trans (congrArg some (by kernel_rfl))⟩,
 t0:=Tryz.underlying0,
 a0:=Tryz.isAgg0,
 z0:=Tryz.sizeOf0,
 v0:=Tryz.zeroValue0,
 t3:=Tryz.underlying3,
 a3:=Tryz.isAgg3,
 z3:=Tryz.sizeOf3,
 v3:=Tryz.zeroValue3,
 t4:=Tryz.underlying4,
 a4:=Tryz.isAgg4,
 z4:=Tryz.sizeOf4,
 v4:=Tryz.zeroValue4,
 t5:=Tryz.underlying5,
 a5:=Tryz.isAgg5,
 z5:=Tryz.sizeOf5,
 v5:=Tryz.zeroValue5,
 t9:=Tryz.underlying9,
 a9:=Tryz.isAgg9,
 z9:=Tryz.sizeOf9,
 v9:=Tryz.zeroValue9,
 t22:=Tryz.underlying25,
 a22:=Tryz.isAgg25,
 z22:=Tryz.sizeOf25,
 v22:=Tryz.zeroValue25,
 t23:=Tryz.underlying25,
 a23:=Tryz.isAgg25,
 z23:=Tryz.sizeOf25,
 v23:=Tryz.zeroValue25,
 t25:=Tryz.underlying3,
 a25:=Tryz.isAgg3,
 z25:=Tryz.sizeOf3,
 v25:=Tryz.zeroValue3,
 t32:=Tryz.underlying225,
 a32:=Tryz.isAgg225,
 z32:=Tryz.sizeOf225,
 v32:=Tryz.zeroValue225,
 t35:=Tryz.underlying301,
 a35:=Tryz.isAgg301,
 z35:=Tryz.sizeOf301,
 v35:=Tryz.zeroValue301,
 t36:=Tryz.underlying302,
 a36:=Tryz.isAgg302,
 z36:=Tryz.sizeOf302,
 v36:=Tryz.zeroValue302,
 t41:=Tryz.underlying135,
 a41:=Tryz.isAgg135,
 z41:=Tryz.sizeOf135,
 v41:=Tryz.zeroValue135,
 t44:=Tryz.underlying28,
 a44:=Tryz.isAgg28,
 z44:=Tryz.sizeOf28,
 v44:=Tryz.zeroValue28,
 t46:=Tryz.underlying55,
 a46:=Tryz.isAgg55,
 z46:=Tryz.sizeOf55,
 v46:=Tryz.zeroValue55,
 t53:=Tryz.underlying343,
 a53:=Tryz.isAgg343,
 z53:=Tryz.sizeOf343,
 v53:=Tryz.zeroValue343,
 t57:=Tryz.underlying209,
 a57:=Tryz.isAgg209,
 z57:=Tryz.sizeOf209,
 v57:=Tryz.zeroValue209,
 t63:=Tryz.underlying365,
 a63:=Tryz.isAgg365,
 z63:=Tryz.sizeOf365,
 v63:=Tryz.zeroValue365,
 t64:=Tryz.underlying366,
 a64:=Tryz.isAgg366,
 z64:=Tryz.sizeOf366,
 v64:=Tryz.zeroValue366 }
theorem zO(m:Nat):AnyZI.SortsIn Tryz.prog RU bY.wide m:=
 ⟨λblk off cap ss W hH hblk hsz=>dD.2 (AnyM.slices_Sort_int zN blk off cap ss W hH hblk hsz),
  λp cap W=>dD.2 (AnyM.slices_Sort_int_none zN p cap W)⟩
theorem sortedOK:AM.SortedOK Tryz.prog 3 42 [(43,95,70),(114,144,215)]:=by
 refine⟨Tryz.underlying3,?_,?_,?_⟩
 ·intro p hp mb W
  simp only[iE,iF,or_false]at hp;rcases hp with rfl|rfl
  ·exact AnyZI.keys_in nK bY.wide 0 trivial rfl mb W
  ·exact AnyZI.keys_in F3 bY.wide 0 trivial rfl mb W
 ·intro p hp Bm b nn D0 w hlt hm hown hsz
  have hmax:Maps.size D0<=maxLen:=by unfold maxLen;omega
  have hbytes:Maps.size D0*8<=140737488355328:=by omega
  simp only[iE,iF,or_false]at hp;rcases hp with rfl|rfl
  ·have hseq:SeqGives bY.wide 2 Tryz.prog 95 #[.pointer (some ⟨Bm,0,none⟩)] encZ (λss=>ss.Perm (intKeys D0)) (Maps.size D0) w:=
    AnyZI.keys_gives (ρ:=F1) { nK with } bY.wide _ trivial rfl (by omega) Bm b nn D0 w hlt hm hown
   have cS:=AnyZI.sorted_in zM bY.wide 5 trivial trivial trivial trivial rfl (by omega) (zO _) (enters_of Tryz.func94 (by kernel_rfl) rfl) 95 #[.pointer (some ⟨Bm,0,none⟩)] trivial (enters_of Tryz.func95 (by kernel_rfl) rfl) _ _ hmax hbytes w hseq;exact dD.2 (dD.1 cS)
  ·have hseq:SeqGives bY.wide 2 Tryz.prog 144 #[.pointer (some ⟨Bm,0,none⟩)] encZ (λss=>ss.Perm (intKeys D0)) (Maps.size D0) w:=
    AnyZI.keys_gives (ρ:=F2) { F3 with } bY.wide _ trivial rfl (by omega) Bm b nn D0 w hlt hm hown
   have cS:=AnyZI.sorted_in zM bY.wide 5 trivial trivial trivial trivial rfl (by omega) (zO _) (enters_of Tryz.func94 (by kernel_rfl) rfl) 144 #[.pointer (some ⟨Bm,0,none⟩)] trivial (enters_of Tryz.func144 (by kernel_rfl) rfl) _ _ hmax hbytes w hseq;exact dD.2 (dD.1 cS)
 ·intro p hp Bm w hlt hm
  simp only[iE,iF,or_false]at hp;rcases hp with rfl|rfl
  ·have hseq:SeqGives bY.wide 2 Tryz.prog 95 #[.pointer (some ⟨Bm,0,none⟩)] encZ (λss:List Int=>ss=[]) 0 w:=
    AnyZI.keys_gives_nil (ρ:=F1) { nK with } bY.wide _ trivial rfl Bm w hlt hm
   have cS:=AnyZI.sorted_in zM bY.wide 5 trivial trivial trivial trivial rfl (by omega) (zO _) (enters_of Tryz.func94 (by kernel_rfl) rfl) 95 #[.pointer (some ⟨Bm,0,none⟩)] trivial (enters_of Tryz.func95 (by kernel_rfl) rfl) _ 0 (zero_le _) (by omega) w hseq;refine(dD.2 (dD.1 cS)).mono ?_;rintro e w' ⟨v,ss,rfl,rfl,hrow,hnil,hb⟩;obtain rfl:=hnil.2 rfl;exact⟨rfl,hb⟩
  ·have hseq:SeqGives bY.wide 2 Tryz.prog 144 #[.pointer (some ⟨Bm,0,none⟩)] encZ (λss:List Int=>ss=[]) 0 w:=
    AnyZI.keys_gives_nil (ρ:=F2) { F3 with } bY.wide _ trivial rfl Bm w hlt hm
   have cS:=AnyZI.sorted_in zM bY.wide 5 trivial trivial trivial trivial rfl (by omega) (zO _) (enters_of Tryz.func94 (by kernel_rfl) rfl) 144 #[.pointer (some ⟨Bm,0,none⟩)] trivial (enters_of Tryz.func144 (by kernel_rfl) rfl) _ 0 (zero_le _) (by omega) w hseq;refine(dD.2 (dD.1 cS)).mono ?_;rintro e w' ⟨v,ss,rfl,rfl,hrow,hnil,hb⟩;obtain rfl:=hnil.2 rfl;exact⟨rfl,hb⟩
theorem sortOK:AM.SortOK Tryz.prog 94:=
 ⟨λblk off cap zs w hH hblk hsz=>dD.2 (AnyM.slices_Sort_int zN blk off cap zs w hH hblk hsz),λp cap w=>dD.2 (AnyM.slices_Sort_int_none zN p cap w)⟩
end Go.Proofs.YtcmcofklcgafiaaGreat
