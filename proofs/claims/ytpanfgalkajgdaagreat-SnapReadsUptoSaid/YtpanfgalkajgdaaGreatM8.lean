import Derived.Test.YtpanfgalkajgdaaGreatProg
import Derived.KernelRfl
import Derived.Test.YtpanfgalkajgdaaGreatM7
set_option linter.all false
noncomputable section
open Go.IntKind renaming wrap→wp
namespace Go.PB
open Go
abbrev RT.gd (c:Bool)(t:RT):RT:= .ite c t .bT
end Go.PB
namespace Go.Proofs
open Go Go.PB
abbrev nZ:=3
abbrev pU:=4
abbrev tv:=5
abbrev j6:=6
abbrev tn:=7
abbrev ct:=8
abbrev dQ:=9
abbrev gw:=10
abbrev DA:=11
abbrev cm:=12
abbrev A9:=13
abbrev A8:=14
abbrev fQ:=15
abbrev dk:=16
abbrev jU:=17
abbrev rJ:=18
abbrev ui:=19
abbrev GG:=20
abbrev iN:=21
abbrev GH:=23
abbrev je:=25
abbrev xz:=26
abbrev jf:=27
abbrev ky:=28
abbrev rD:=29
abbrev lC:=30
abbrev zA:=31
abbrev eO:=32
abbrev iA:=33
abbrev DF:=34
abbrev jl:=35
abbrev CD:=37
abbrev kn:=38
abbrev pW:=41
abbrev jJ:=43
abbrev ko:=44
abbrev cD:=45
abbrev nk:=46
abbrev dK:=47
abbrev kU:=48
abbrev gS:=49
abbrev eu:=50
abbrev rK:=51
abbrev mz:=52
abbrev oJ:=53
abbrev jT:=54
abbrev gM:=55
abbrev gv:=56
abbrev wI:=59
abbrev gO:=60
abbrev kS:=61
abbrev Ek:=62
abbrev kT:=63
abbrev fy:=64
abbrev oc:=65
abbrev gV:=68
abbrev ue:=69
abbrev nG:=74
abbrev lx:=75
abbrev gN:=76
abbrev Ad:=77
abbrev CE:=79
abbrev iC:=80
abbrev jn:=81
abbrev kV:=82
abbrev ly:=83
abbrev tu:=84
abbrev mn:=85
abbrev oA:=86
abbrev oL:=87
abbrev mv:=88
abbrev cE:=89
abbrev eS:=91
abbrev kR:=92
abbrev PT:=93
abbrev fC:=94
abbrev fI:=95
abbrev wK:=96
abbrev cI:=97
abbrev eR:=98
abbrev nY:=100
abbrev fK:=101
abbrev gR:=102
abbrev Fv:=103
abbrev b7:=105
abbrev fU:=106
abbrev gi:=107
abbrev ch:=108
abbrev mw:=109
abbrev kr:=110
abbrev nH:=111
abbrev DB:=112
abbrev jR:=113
abbrev fT:=114
abbrev gH:=115
abbrev DE:=116
abbrev iP:=118
abbrev gT:=119
abbrev Dw:=120
abbrev fk:=121
abbrev da:=122
abbrev gk:=124
abbrev rG:=125
abbrev gu:=126
abbrev ud:=127
abbrev eM:=128
abbrev cv:=129
abbrev ni:=130
abbrev cx:=131
abbrev iE:=132
abbrev uf:=133
abbrev hT:=134
abbrev aB:=135
abbrev wJ:=136
abbrev gW:=137
abbrev hJ:=138
abbrev AX:=139
abbrev rF:=140
abbrev db:=141
abbrev oC:=142
abbrev mU:=155
abbrev oK:=156
abbrev dL:=157
abbrev bS:=158
abbrev cp:=159
abbrev cX:=160
abbrev qz:=161
abbrev gG:=162
abbrev jo:=164
abbrev eT:=165
abbrev eQ:=166
abbrev Dz:=167
abbrev GI:=168
abbrev iZ:=169
abbrev mu:=170
abbrev uc:=171
abbrev tm:=172
abbrev Oi:=173
abbrev tp:=174
abbrev xw:=175
abbrev cL:=176
abbrev ep:=177
abbrev eI:=178
abbrev dt:=179
abbrev jK:=180
abbrev jS:=181
abbrev lB:=182
abbrev Ac:=183
abbrev Aa:=195
abbrev rC:=197
abbrev ua:=198
abbrev hU:=199
abbrev fS:=200
abbrev dJ:=201
abbrev df:=205
abbrev fL:=212
abbrev J1:=218
abbrev zC:=219
abbrev JX:=220
abbrev lF:=221
abbrev LS:=222
abbrev kW:=223
abbrev wG:=224
abbrev GC:=225
abbrev DH:=226
abbrev ki:=227
abbrev wu:=228
abbrev zD:=229
abbrev CC:=230
abbrev jd:=231
abbrev rE:=232
abbrev du:=241
abbrev dO:=242
abbrev gj:=243
abbrev eZ:=244
abbrev mT:=245
abbrev fl:=246
abbrev gQ:=247
abbrev JZ:=248
abbrev J0:=249
abbrev Oh:=250
abbrev lA:=251
abbrev xA:=252
abbrev nj:=253
abbrev dz:=254
abbrev fJ:=255
abbrev zB:=256
abbrev sg:=257
abbrev Ol:=258
abbrev dh:=259
abbrev eo:=260
abbrev gl:=261
abbrev jZ:=262
abbrev pX:=263
abbrev Ba:=268
abbrev lu:=269
abbrev i5:=270
abbrev iX:=271
abbrev GJ:=272
abbrev Bb:=273
abbrev Om:=274
abbrev sj:=275
abbrev sV:=276
abbrev kh:=277
abbrev od:=278
abbrev AY:=279
abbrev Fu:=281
abbrev oB:=282
abbrev On:=284
abbrev DC:=292
abbrev dj:=293
abbrev oF:=294
abbrev lG:=295
abbrev DG:=296
abbrev Dx:=297
abbrev cB:=298
abbrev GD:=299
abbrev A7:=300
abbrev iD:=301
abbrev JY:=302
abbrev oI:=303
abbrev my:=304
abbrev lq:=316
abbrev ey:=318
abbrev gg:=319
abbrev lv:=320
abbrev GK:=321
abbrev eK:=322
abbrev yL:=323
abbrev gf:=324
abbrev kx:=332
abbrev eP:=334
abbrev Dy:=335
abbrev Ab:=336
abbrev mq:=337
abbrev tq:=338
abbrev km:=339
abbrev xx:=340
abbrev Oj:=341
abbrev iY:=342
abbrev DD:=343
abbrev rI:=344
abbrev kA:=350
abbrev kB:=351
abbrev dM:=352
abbrev dN:=353
abbrev eG:=354
abbrev i0:=356
abbrev oG:=358
abbrev pT:=360
abbrev dT:=361
abbrev jQ:=363
abbrev mo:=364
abbrev iQ:=365
abbrev AZ:=366
abbrev iB:=367
abbrev A0:=368
abbrev Og:=369
abbrev eL:=370
abbrev GF:=371
abbrev A1:=372
abbrev A2:=373
abbrev A3:=374
abbrev A4:=375
abbrev xy:=376
abbrev A5:=377
abbrev jI:=378
abbrev nh:=379
abbrev kH:=380
abbrev A6:=381
abbrev wH:=382
abbrev gh:=383
noncomputable abbrev pg:=Tryz.prog
abbrev QO:=2
abbrev ah:=3
abbrev aj:=4
abbrev Lp:=5
abbrev aq:=9
abbrev kG:=22
abbrev jW:=23
abbrev zl:=24
abbrev bW:=25
abbrev aM:=27
abbrev br:=28
abbrev aQ:=29
abbrev cR:=30
abbrev vT:=34
abbrev cq:=35
abbrev Jc:=36
abbrev dn:=37
abbrev ak:=39
abbrev ot:=40
abbrev fw:=41
abbrev aU:=43
abbrev aW:=45
abbrev bn:=46
abbrev dH:=56
abbrev aV:=58
abbrev bF:=60
abbrev cy:=65
abbrev dA:=74
abbrev aj9:=77
abbrev bQ:=79
abbrev dG:=88
abbrev np:=92
abbrev tOp:=105
abbrev Mz:=106
abbrev D7:=107
abbrev aI:=109
abbrev fY:=110
abbrev aJ:=112
abbrev cP:=116
abbrev QP:=117
abbrev bU:=126
abbrev oZ:=155
abbrev D8:=165
abbrev fG:=180
abbrev ao:=194
abbrev aX:=197
abbrev an:=219
abbrev Ld:=256
abbrev bp:=262
abbrev dY:=312
abbrev cF:=316
abbrev qj:=338
abbrev fZ:=340
abbrev gn:=353
def M9:pg.follows .mixedOrders=true:=by kernel_rfl
def iO (n:Int):BV:= .int .i64 n
def iU (n:Int):BV:= .int .u8 n
def cO (t:TypeId)(l:List BV):aE:= .cells l t false
def vO (b n:Nat):BV:= .hY b n true
def rO (t:TypeId)(l:List D):aE:= .bY t l true
def pO (b:Nat):BV:= .ie b 0
attribute[reducible] iO iU cO vO rO pO
structure WS where
 pa:List D
 cu:List D
 th:List (D×D)
 st:List Nat
 ck:Nat
 fa:List (D×D)
 sf:List Nat
 cf:Nat
 la:Int
 ma:List D
def Wm (W:WS):List (Nat×aE):=
 [(0,cO bU [.bx cq W.pa,vO 3 W.cu.length,.map 1,.map 2,iO W.la,vO 4 W.ma.length]),(1,.cd bW (.dD 1 aU) W.th W.st W.ck),(2,.cd bp (.data bW) W.fa W.sf W.cf),(3,rO aj W.cu),(4,rO ah W.ma)]
def Wm1 (W:WS):List (Nat×aE):=
 [(0,cO cy [pO 1]),(1,cO bU [.bx cq W.pa,vO 4 W.cu.length,.map 2,.map 3,iO W.la,vO 5 W.ma.length]),(2,.cd bW (.dD 2 aU) W.th W.st W.ck),(3,.cd bp (.data bW) W.fa W.sf W.cf),(4,rO aj W.cu),(5,rO ah W.ma)]
attribute[reducible] Wm Wm1
structure RS where
 pa:List D
 cu:List D
 th:List D
 la:Int
 ma:List D
def Rm (R:RS):List (Nat×aE):=
 [(0,cO bQ [vO 1 R.pa.length,vO 2 R.cu.length,vO 3 R.th.length,iO R.la,vO 4 R.ma.length]),(1,rO ah R.pa),(2,rO aj R.cu),(3,rO bF R.th),(4,rO ah R.ma)]
attribute[reducible] Rm
def Wm3 (M:List (Nat×aE))(l:List D):List (Nat×aE):=match M with
 | [(0,.cells [p,.hY 3 n t,I,A,la,.hY 4 k u] ty s),(1,a),(2,b),(3,c),(4,e)]=>[(0,.cells [p,.hY 4 n t,I,A,la,.hY 5 k u] ty s),(1,a),(2,b),(3,.bY bW l true),(4,c),(5,e)]
 |_=>[]
def Lm (l:List D):List (Nat×aE):=[(0,cO fG [vO 1 l.length]),(1,rO Lp l)]
attribute[reducible] Lm
def G4 (d:D):WS:=⟨D.ae (D.af d 0),D.ae (D.af d 1),oS (D.af d 2),pC (D.af d 3),pB (D.af d 4),oS (D.af d 5),pC (D.af d 6),pB (D.af d 7),D.int (D.af d 8),D.ae (D.af d 9)⟩
def Wcp (M:List (Nat×aE))(V:WS):List (Nat×aE):=match M with
 | [(0,.cells [p,.hY 3 n t,I,A,la,.hY 4 k u] ty s),(1,a),(2,b),(3,c),(4,e)]=>[(0,.cells [p,.hY 4 n t,I,A,la,.hY 5 k u] ty s),(1,a),(2,b),(3,.cells [.bx cq V.pa,.hY 8 V.cu.length true,.map 6,.map 7,.int .i64 V.la,.hY 9 V.ma.length true] bU false),(4,c),(5,e),(6,.cd bW (.dD 16 aU) V.th V.st V.ck),(7,.cd bp (.data bW) V.fa V.sf V.cf),(8,.bY aj V.cu true),(9,.bY ah V.ma true)]
 |_=>[]
def Pn (M:List (Nat×aE))(V U:WS)(l k:List D):List (Nat×aE):=match M with
 | [(0,.cells [p,.hY 3 n t,I,A,la,.hY 4 x u] ty s),(1,a),(2,b),(3,c),(4,e)]=>[(0,.cells [p,.hY 4 n t,I,A,la,.hY 5 x u] ty s),(1,a),(2,b),(3,.cells [.ie 6 0,.ie 7 0,.bx aV l,.bx aV k,.cS] D8 false),(4,c),(5,e),(6,.cells [.bx cq V.pa,.hY 10 V.cu.length true,.map 8,.map 9,.int .i64 V.la,.hY 11 V.ma.length true] bU false),(7,.cells [.bx cq U.pa,.hY 14 U.cu.length true,.map 12,.map 13,.int .i64 U.la,.hY 15 U.ma.length true] bU false),(8,.cd bW (.dD 24 aU) V.th V.st V.ck),(9,.cd bp (.data bW) V.fa V.sf V.cf),(10,.bY aj V.cu true),(11,.bY ah V.ma true),(12,.cd bW (.dD 28 aU) U.th U.st U.ck),(13,.cd bp (.data bW) U.fa U.sf U.cf),(14,.bY aj U.cu true),(15,.bY ah U.ma true)]
 |_=>[]
def Wmf (q:Nat)(W:WS):List (Nat×aE):=[(0,cO bU [.bx cq W.pa,vO 3 W.cu.length,.map 1,.map 2,iO W.la,vO 4 W.ma.length]),(1,.cd bW (.dD q aU) W.th W.st W.ck),(2,.cd bp (.data bW) W.fa W.sf W.cf),(3,rO aj W.cu),(4,rO ah W.ma)]
def Pmf (V U:WS)(l k:List D):List (Nat×aE):=[(0,cO D8 [pO 1,pO 2,.bx aV l,.bx aV k,.cS]),(1,cO bU [.bx cq V.pa,vO 5 V.cu.length,.map 3,.map 4,iO V.la,vO 6 V.ma.length]),(2,cO bU [.bx cq U.pa,vO 9 U.cu.length,.map 7,.map 8,iO U.la,vO 10 U.ma.length]),(3,.cd bW (.dD 14 aU) V.th V.st V.ck),(4,.cd bp (.data bW) V.fa V.sf V.cf),(5,rO aj V.cu),(6,rO ah V.ma),(7,.cd bW (.dD 18 aU) U.th U.st U.ck),(8,.cd bp (.data bW) U.fa U.sf U.cf),(9,rO aj U.cu),(10,rO ah U.ma)]
def lg:RH:=fun _ _ d=> .ret (.bool (D.bool (D.af d 0)),[(0,cO qj [iO (D.int (D.af d 1)),iO (D.int (D.af d 2))])])
def yz (a0:D)(p:Int)(q:Int):List BV:=[pO 0,.agg (aH pg ak a0)]
def yB (a0:D)(p:Int)(q:Int):List (Nat×aE):=[(0,cO qj [iO p,iO q])]
def dy:RH:=fun _ _ d=> .ret (iO (D.int d),[])
def jb (l:List D):List BV:=[.bx ak l,.func (.func GK) [] []]
def bg:RH:=fun _ _ d=> .ret (.bool (D.bool d),[])
def xo:RH:=fun _ _ d=> .ret (.bool true,[(0,cO dH [vO 1 (D.ae d).length]),(1,rO bW (D.ae d))])
def Jm (a0:D)(A:List D)(CT:List D)(c:Nat):List BV:=[.agg (aH pg ak a0),.bx ah A,.func (.func DG) [] [pO 0]]
def Jq (a0:D)(A:List D)(CT:List D)(c:Nat):List (Nat×aE):=[(0,cO dH [vO 1 c]),(1,rO bW CT)]
def yC:RH:=fun _ _ d=> .ret (vO 0 (D.ae d).length,[(0,rO aI (D.ae d))])
def Jh (l:List D):List BV:=[.bx aI l]
def yD:RH:=fun _ _ d=> .ret (vO 0 (D.ae d).length,[(0,rO aJ (D.ae d))])
def Jj (l:List D):List BV:=[.bx aJ l]
def BG:RH:=fun _ _ d=> .ret (vO 0 (D.ae d).length,[(0,rO ak (D.ae d))])
def Hh (l:List D):List BV:=[.bx ak l]
def Df:RH:=fun _ _ d=> .ret (vO 0 (D.ae d).length,[(0,rO dG (D.ae d))])
def Ji (l:List D):List BV:=[.bx dG l]
def tK:RH:=fun _ _ d=> .ret (vO 0 (D.ae d).length,[(0,rO aq (D.ae d))])
def EX (l:List D):List BV:=[.bx aq l]
def dx:RH:=fun _ _ d=> .ret (vO 0 (D.ae d).length,[(0,rO bW (D.ae d))])
def MF (l:List D):List BV:=[.bx bW l]
def pD:RH:=fun a m d=>match a with| [.hY _ _ _]=> .ret (vO 1 (D.ae d).length,m++[(1,rO ah (D.ae d))])|_=> .ret (vO 0 (D.ae d).length,[(0,rO ah (D.ae d))])
def MG (l:List D):List BV:=[.bx ah l]
def tJ:RH:=fun _ _ d=> .ret (vO 0 (D.ae d).length,[(0,rO cq (D.ae d))])
def ga (l:List D):List BV:=[.bx cq l]
def U5 (a0:D):List BV:=[.agg (aH pg ak a0)]
def rq (a0:D):List BV:=[.agg (aH pg aU a0)]
def cA:RH:=fun _ M d=> .ret (.bool (D.bool d),M)
def oQ (W:WS)(r:Int):List BV:=[pO 0,iO r]
def ka:RH:=fun _ M d=> .ret (iU (D.int d),M)
def zo (W:WS)(r:Int)(k:Int)(o:Int):List BV:=[pO 0,iO r,iU k,iO o]
def aG:RH:=fun _ M d=> .ret (iO (D.int d),M)
def kQ (W:WS)(l:List D):List BV:=[.bx bW l,.func (.func AY) [] [pO 0]]
def ov (W:WS)(y:D):List BV:=[pO 0,.agg (aH pg aU y)]
def OH (W:WS)(r:Int)(y:D):List BV:=[pO 0,iO r,.agg (aH pg aU y)]
def bG (W:WS):List BV:=[pO 0]
def Dj:RH:=fun ags _ d=>match ags with| [.bx _ l]=> .ite (D.bool d) (.ret (.tuple [pO 0,iO 0],[(0,cO bU [.bx cq l,vO 1 (l.length+1),.map 2,.map 3,iO 0,vO 4 (l.length+1)]),(1,rO aj (List.replicate (l.length+1) (.b false))),(2,.cd bW (.dD 7 aU) [] [] 0),(3,.cd bp (.data bW) [] [] 0),(4,rO ah (List.replicate (l.length+1) (.z 0)))])) (.ret (.tuple [.gF,iO 71],[]))|_=> .bT
def AG:RH:=fun _ M d=> .ret (iO (D.int (D.af d 0)),M.set 3 (3,rO aj (D.ae (D.af d 1))))
def cV:RH:=fun _ M d=> .ret (.bool (D.bool (D.af d 0)),M.set 2 (2,.cd bp (.data bW) (oS (D.af d 1)) (pC (D.af d 2)) (pB (D.af d 3))))
def gr:RH:=fun _ _ d=> .ret (.bool (D.bool (D.af d 0)),[(0,cO ah [iO (D.int (D.af d 1))])])
def Gs (l:List D)(m:Int):List BV:=[.bx aJ l,pO 0]
def Gt (l:List D)(m:Int):List (Nat×aE):=[(0,cO ah [iO m])]
def sM (y:D)(m:Int)(k:Int):List BV:=[.agg (aH pg aI y),pO 0,iO k]
def sQ (y:D)(m:Int)(k:Int):List (Nat×aE):=[(0,cO ah [iO m])]
def jY:RH:=fun _ M d=> .ret (iO (D.int (D.af d 0)),M.set 2 (2,cO ah [iO (D.int (D.af d 1))]))
def mJ (l:List D)(m:Int)(k:Int):List BV:=[.bx aI l,.func (.func yL) [] [pO 0,pO 1]]
def eC (l:List D)(m:Int)(k:Int):List (Nat×aE):=[(0,cO Ld [pO 2]),(1,cO ah [iO k]),(2,cO ah [iO m])]
def hC:RH:=fun _ M d=> .ret (.bool (D.bool (D.af d 0)),M.set 2 (2,cO ah [iO (D.int (D.af d 1))]))
def yE:RH:=fun _ M d=> .ret (.tuple [.agg (aH pg aU (D.af d 0)),.bool (D.bool (D.af d 1))],M)
def mD (R:RS)(r:Int):List BV:=[pO 0,iO r]
def zJ (R:RS)(r:Int)(k:Int)(o:Int)(b:Bool):List BV:=[pO 0,iO r,iO k,iO o,.bool b]
def me (R:RS)(r:Int)(y:D):List BV:=[pO 0,iO r,.agg (aH pg aU y)]
def il (R:RS):List BV:=[pO 0]
def Ce:RH:=fun ags _ d=>match ags with| [.bx _ l]=> .ite (D.bool d) (.ret (.tuple [pO 0,iO 0],[(0,cO bQ [vO 1 l.length,vO 2 l.length,vO 3 0,iO 0,vO 4 (l.length+1)]),(1,rO ah l),(2,rO aj (List.replicate l.length (.b false))),(3,rO bF []),(4,rO ah (List.replicate (l.length+1) (.z 0)))])) (.ret (.tuple [.gF,iO 71],[]))|_=> .bT
def Cb:RH:=fun _ M d=>match M with| [(_,.cells [.hY _ a _,.hY _ b _,.hY _ c _,l,.hY _ e _] t s),(_,O),(_,A),(_,J),(_,I)]=> .ret (vO 1 (D.ae d).length,[(0,.cells [vO 2 a,vO 3 b,vO 4 c,l,vO 5 e] t s),(1,rO bW (D.ae d)),(2,O),(3,A),(4,J),(5,I)])|_=> .bT
def Cc:RH:=fun _ M d=> .ret (.tuple [],M.set 2 (2,.cd bp (.data bW) (oS (D.af d 0)) (pC (D.af d 1)) (pB (D.af d 2))))
def kb:RH:=fun _ _ d=> .ite (D.bool (D.af d 0)) (.ret (.tuple [pO 0,iO 0],[(0,cO bU [.bx cq (D.ae (D.af d 1)),vO 3 (D.ae (D.af d 2)).length,.map 1,.map 2,iO (D.int (D.af d 3)),vO 4 (D.ae (D.af d 4)).length]),(1,.cd bW (.dD 6 aU) (oS (D.af d 5)) (pC (D.af d 6)) (pB (D.af d 7))),(2,.cd bp (.data bW) (oS (D.af d 8)) (pC (D.af d 9)) (pB (D.af d 10))),(3,rO aj (D.ae (D.af d 2))),(4,rO ah (D.ae (D.af d 4)))])) (.ret (.tuple [.gF,iO 71],[]))
def dg (y:D):List BV:=[.agg (aH pg aM y)]
def eE:RH:=fun _ _ d=> .ite (D.bool (D.af d 0)) (.ret (.tuple [pO 0,iO 0],Rm ⟨D.ae (D.af d 1),D.ae (D.af d 2),D.ae (D.af d 3),D.int (D.af d 4),D.ae (D.af d 5)⟩)) (.ret (.tuple [.gF,iO 71],[]))
def j9 (l:List D):List BV:=[.bx aq l,.func (.func A6) [] []]
attribute[reducible] Wmf Pmf yz yB jb Jm Jq Jh Jj Hh Ji EX MF MG ga U5 rq oQ zo kQ ov OH bG Gs Gt sM sQ mJ eC mD zJ me il dg j9
abbrev jD:Nat:=eG
def q8:RH:=jY
def jC (l:List D)(m:Int)(k:Int):List BV:=[.bx aI l,.func (.func wH) [] [pO 0,pO 1]]
attribute[reducible] q8 jC
abbrev Dv:Nat:=eK
def Dh:RH:=hC
def rv:RH:=fun _ _ d=> .ret (.bool (D.bool (D.af d 0)),[(0,cO ah [iO (D.int (D.af d 1))]),(1,cO ah [iO (D.int (D.af d 2))]),(2,cO bn [iO (D.int (D.af d 3))])])
def xk (l:List D)(A:Int)(n:Int)(Lz:Int)(I:Int):List BV:=[.bx aJ l,iO A,pO 0,.func (.func xx) [] [pO 1,pO 2]]
def xl (l:List D)(I:Int)(n:Int)(Lz:Int)(A:Int):List (Nat×aE):=[(0,cO ah [iO n]),(1,cO ah [iO Lz]),(2,cO bn [iO A])]
def nt:RH:=fun a _ d=>match a with| [_,_,_,.cS]=> .ite (D.bool (D.af d 0)) (.ret (.cS,[])) (.ret (vO 0 (D.ae (D.af d 1)).length,[(0,rO cF (D.ae (D.af d 1)))]))|_=> .ret (vO 0 (D.ae d).length,[(0,rO cF (D.ae d))])
def vW (l:List D)(A:Int)(vI:Bool)(w:List D):List BV:=[.bx aJ l,iO A,.bool vI,vO 0 w.length]
def Dd (l:List D)(A:Int)(vI:Bool)(w:List D):List (Nat×aE):=[(0,rO cF w)]
attribute[reducible] Dh xk xl vW Dd
abbrev rH:Nat:=eP
def BH:RH:=nt
def wD (l:List D)(A:Int)(vI:Bool):List BV:=[.bx aJ l,iO A,.bool vI,.cS]
def Di:RH:=fun _ _ d=> .ret (.tuple [],[(0,rO bW (D.ae d))])
def mg (l:List D):List BV:=[vO 0 l.length]
def zM (l:List D):List (Nat×aE):=[(0,rO bW l)]
def Cd:RH:=fun _ M d=> .ret (vO 3 (D.ae d).length,Wm3 M (D.ae d))
def te (R:RS)(y:D):List BV:=[pO 0,.agg (aH pg aV y)]
def mK (W:WS)(y:D):List BV:=[pO 0,.agg (aH pg aV y)]
def iT:RH:=fun _ M d=> .ret (.agg (aH pg aM d),M)
attribute[reducible] BH wD mg zM te mK
abbrev PS:Nat:=gu
def E4:RH:=pD
def zL (l:List D):List (Nat×aE):=[(0,rO ah l)]
def bI:RH:=fun _ _ d=> .ret (.tuple [],Lm (D.ae d))
def Hi (l:List D)(n:Int):List BV:=[pO 0,iO n]
def oy (l:List D)(n:Int):List (Nat×aE):=(Lm l)
def yy (l:List D)(n:Int):List BV:=[pO 0,.int .u64 n]
def Hj (l:List D)(y:D):List BV:=[pO 0,.agg (aH pg aM y)]
def Hk (l:List D)(y:D):List (Nat×aE):=(Lm l)
def tG (l:List D)(ys:List D):List BV:=[pO 0,.bx cq ys,.func (.func Dw) [pO 0] []]
def cU (l:List D)(ys:List D):List (Nat×aE):=(Lm l)
def qm (l:List D)(ys:List D):List BV:=[pO 0,.bx ah ys,.func (.func da) [pO 0] []]
def sL (l:List D)(ys:List D):List BV:=[pO 0,.bx bF ys,.func (.func rG) [pO 0] []]
def tH (l:List D)(ys:List D):List BV:=[pO 0,.bx aJ ys,.func (.func ue) [pO 0] []]
def Dg:RH:=fun a m d=>match a with| [.hY _ _ _]=> .ret (vO 1 (D.ae d).length,m++[(1,rO aj (D.ae d))])|_=> .ret (vO 0 (D.ae d).length,[(0,rO aj (D.ae d))])
attribute[reducible] E4 zL Hi oy yy Hj Hk tG cU qm sL tH
abbrev NP:Nat:=uc
def Ee:RH:=Dg
def xW (l:List D):List (Nat×aE):=[(0,rO aj l)]
def xn:RH:=fun _ M d=> .ret (pO 3,Wcp M (G4 d))
def Gu:RH:=fun _ M d=> .ite (D.bool (D.af d 0)) (.ret (.tuple [pO 3,iO 0],Pn M (G4 (D.af d 2)) (G4 (D.af d 3)) (D.ae (D.af d 4)) (D.ae (D.af d 5)))) (.ret (.tuple [.gF,iO (D.int (D.af d 1))],M))
def Jl (W:WS)(ls:List D):List BV:=[pO 0,.bx aV ls]
def Lv:RH:=fun _ M d=>match M with| [a0,O,U,a3,a4,a5,J,(_,.cd t (.dD _ e) m st c),I,a9,A]=> .ret (.tuple [.ax (D.ax (D.af d 0)),iO (D.int (D.af d 1))],[a0,O,U,a3,a4,a5,J,(7,.cd t (.dD 18 e) m st c),I,a9,A])| []=> .ret (.tuple [.ax (D.ax (D.af d 0)),iO (D.int (D.af d 1))],[])|_=> .bT
def Lu:RH:=fun _ M d=> .ret (.tuple [.ax (D.ax (D.af d 0)),iO (D.int (D.af d 1))],M)
def fP:RH:=fun _ _ _=> .ret (.nX aX 270,[])
def abB:List BV:=[]
def abD:List (Nat×aE):=[]
def eg:RH:=fun _ _ d=> .ite (D.bool (D.af d 0)) (.ret (.nX aX 270,[(0,cO ao [.ax (D.ax (D.af d 2))])])) (.ret (.ax (D.ax (D.af d 1)),[(0,cO ao [.ax (D.ax (D.af d 2))])]))
def EY (s:(List UInt8))(n:Int):List BV:=[pO 0,iO n]
def E2 (s:(List UInt8))(n:Int):List (Nat×aE):=[(0,cO ao [.ax s])]
def cH:RH:=fun _ _ d=> .ite (D.bool (D.af d 0)) (.ret (.nX aX 270,[(0,cO ao [.ax (D.ax (D.af d 2))])])) (.ret (iO (D.int (D.af d 1)),[(0,cO ao [.ax (D.ax (D.af d 2))])]))
def cG (s:(List UInt8)):List BV:=[pO 0]
def bd (s:(List UInt8)):List (Nat×aE):=[(0,cO ao [.ax s])]
def xY:RH:=fun _ _ d=> .ite (D.bool (D.af d 0)) (.ret (.nX aX 270,[(0,cO ao [.ax (D.ax (D.af d 2))])])) (.ret (.agg (aH pg bF (D.af d 1)),[(0,cO ao [.ax (D.ax (D.af d 2))])]))
def qt:RH:=fun _ _ d=> .ite (D.bool (D.af d 0)) (.ret (.nX aX 270,[(0,cO ao [.ax (D.ax (D.af d 2))])])) (.ret (vO 1 (D.ae (D.af d 1)).length,[(0,cO ao [.ax (D.ax (D.af d 2))]),(1,rO cq (D.ae (D.af d 1)))]))
def B7 (s:(List UInt8)):List BV:=[pO 0,iO 4,.func (.func uf) [pO 0] []]
def sb:RH:=fun _ _ d=> .ite (D.bool (D.af d 0)) (.ret (.nX aX 270,[(0,cO ao [.ax (D.ax (D.af d 2))])])) (.ret (vO 1 (D.ae (D.af d 1)).length,[(0,cO ao [.ax (D.ax (D.af d 2))]),(1,rO ah (D.ae (D.af d 1)))]))
def Ed (s:(List UInt8)):List BV:=[pO 0,iO 4,.func (.func aB) [pO 0] []]
def o0:RH:=fun _ _ d=> .ite (D.bool (D.af d 0)) (.ret (.nX aX 270,[(0,cO ao [.ax (D.ax (D.af d 2))])])) (.ret (vO 1 (D.ae (D.af d 1)).length,[(0,cO ao [.ax (D.ax (D.af d 2))]),(1,rO bF (D.ae (D.af d 1)))]))
def AD (s:(List UInt8)):List BV:=[pO 0,iO 5,.func (.func hJ) [pO 0] []]
def r8:RH:=fun _ _ d=> .ite (D.bool (D.af d 0)) (.ret (.nX aX 270,[(0,cO ao [.ax (D.ax (D.af d 2))])])) (.ret (.agg (aH pg aM (D.af d 1)),[(0,cO ao [.ax (D.ax (D.af d 2))])]))
def mh:RH:=fun _ _ d=> .ite (D.bool (D.af d 0)) (.ret (.tuple [.gF,iO (D.int (D.af d 1))],[])) (.ret (.tuple [pO 0,iO 0],Wmf 6 (G4 (D.af d 2))))
def bX (s:(List UInt8)):List BV:=[.ax s]
def fR:RH:=fun _ _ d=> .ite (D.bool (D.af d 0)) (.ret (.nX aX 270,[(0,cO ao [.ax (D.ax (D.af d 2))])])) (.ret (.int .u64 (D.int (D.af d 1)),[(0,cO ao [.ax (D.ax (D.af d 2))])]))
attribute[reducible] Ee xW Jl abB abD EY E2 cG bd B7 Ed AD bX
abbrev TJ:Nat:=GH
def Tc:RH:=Lv
def Jk:List BV:=[.gF]
def Jp:List (Nat×aE):=[]
def tF (l:List D)(m:List D):List BV:=[.bx bF l,.bx bF m,.func (.func Ad) [] []]
def MH:List BV:=[]
def MI:List (Nat×aE):=[]
def pE:RH:=fun _ _ d=> .ite (D.bool (D.af d 0)) (.ret (.nX aX 270,[(0,cO ao [.ax (D.ax (D.af d 2))])])) (.ret (iU (D.int (D.af d 1)),[(0,cO ao [.ax (D.ax (D.af d 2))])]))
def pF:RH:=fun _ _ d=> .ite (D.bool (D.af d 0)) (.ret (.nX aX 270,[(0,cO ao [.ax (D.ax (D.af d 2))])])) (.ret (.agg (aH pg aI (D.af d 1)),[(0,cO ao [.ax (D.ax (D.af d 2))])]))
def tM:RH:=fun _ _ d=> .ite (D.bool (D.af d 0)) (.ret (.nX aX 270,[(0,cO ao [.ax (D.ax (D.af d 2))])])) (.ret (.agg (aH pg aJ (D.af d 1)),[(0,cO ao [.ax (D.ax (D.af d 2))])]))
def zO:RH:=fun _ _ d=> .ite (D.bool (D.af d 0)) (.ret (.nX aX 270,[(0,cO ao [.ax (D.ax (D.af d 2))])])) (.ret (.agg (aH pg dG (D.af d 1)),[(0,cO ao [.ax (D.ax (D.af d 2))])]))
def nV:RH:=fun _ _ d=> .ite (D.bool (D.af d 0)) (.ret (.nX aX 270,[(0,cO ao [.ax (D.ax (D.af d 2))])])) (.ret (.agg (aH pg ak (D.af d 1)),[(0,cO ao [.ax (D.ax (D.af d 2))])]))
def tN:RH:=fun _ _ d=> .ite (D.bool (D.af d 0)) (.ret (.nX aX 270,[(0,cO ao [.ax (D.ax (D.af d 2))])])) (.ret (.agg (aH pg aV (D.af d 1)),[(0,cO ao [.ax (D.ax (D.af d 2))])]))
def sa:RH:=fun _ _ d=> .ite (D.bool (D.af d 0)) (.ret (.nX aX 270,[(0,cO ao [.ax (D.ax (D.af d 2))])])) (.ret (vO 1 (D.ae (D.af d 1)).length,[(0,cO ao [.ax (D.ax (D.af d 2))]),(1,rO bW (D.ae (D.af d 1)))]))
def Ec (s:(List UInt8)):List BV:=[pO 0,iO 4,.func (.func wJ) [pO 0] []]
def qq:RH:=fun _ _ d=> .ite (D.bool (D.af d 0)) (.ret (.nX aX 270,[(0,cO ao [.ax (D.ax (D.af d 2))])])) (.ret (vO 1 (D.ae (D.af d 1)).length,[(0,cO ao [.ax (D.ax (D.af d 2))]),(1,rO aI (D.ae (D.af d 1)))]))
def B5 (s:(List UInt8)):List BV:=[pO 0,iO 17,.func (.func eo) [pO 0] []]
def iw:RH:=fun _ _ d=> .ite (D.bool (D.af d 0)) (.ret (.nX aX 270,[(0,cO ao [.ax (D.ax (D.af d 2))])])) (.ret (vO 1 (D.ae (D.af d 1)).length,[(0,cO ao [.ax (D.ax (D.af d 2))]),(1,rO aJ (D.ae (D.af d 1)))]))
def B8 (s:(List UInt8)):List BV:=[pO 0,iO 61,.func (.func ep) [pO 0] []]
def nv:RH:=fun _ _ d=> .ite (D.bool (D.af d 0)) (.ret (.nX aX 270,[(0,cO ao [.ax (D.ax (D.af d 2))])])) (.ret (vO 1 (D.ae (D.af d 1)).length,[(0,cO ao [.ax (D.ax (D.af d 2))]),(1,rO aq (D.ae (D.af d 1)))]))
def zK (s:(List UInt8)):List BV:=[pO 0,iO 4,.func (.func dh) [pO 0] []]
def mQ:RH:=fun _ _ d=> .ite (D.bool (D.af d 0)) (.ret (.nX aX 270,[(0,cO ao [.ax (D.ax (D.af d 2))])])) (.ret (vO 1 (D.ae (D.af d 1)).length,[(0,cO ao [.ax (D.ax (D.af d 2))]),(1,rO dG (D.ae (D.af d 1)))]))
def B6 (s:(List UInt8)):List BV:=[pO 0,iO 5,.func (.func gQ) [pO 0] []]
def pb:RH:=fun _ _ d=> .ite (D.bool (D.af d 0)) (.ret (.nX aX 270,[(0,cO ao [.ax (D.ax (D.af d 2))])])) (.ret (vO 1 (D.ae (D.af d 1)).length,[(0,cO ao [.ax (D.ax (D.af d 2))]),(1,rO ak (D.ae (D.af d 1)))]))
def AE (s:(List UInt8)):List BV:=[pO 0,iO 1,.func (.func df) [pO 0] []]
def mE:RH:=fun _ _ d=> .ite (D.bool (D.af d 0)) (.ret (.nX aX 270,[(0,cO ao [.ax (D.ax (D.af d 2))])])) (.ret (vO 1 (D.ae (D.af d 1)).length,[(0,cO ao [.ax (D.ax (D.af d 2))]),(1,rO aV (D.ae (D.af d 1)))]))
def ye (s:(List UInt8)):List BV:=[pO 0,iO 16,.func (.func fI) [pO 0] []]
def mR:RH:=fun _ _ d=> .ret (.tuple [.int .u64 (D.int (D.af d 1)),.bool (D.bool (D.af d 0))],[(0,cO fZ [.func (.func kA) [] [pO 1],.func (.func kB) [] [pO 1],iO (D.int (D.af d 3)),iO (D.int (D.af d 4))]),(1,cO aq [.ax (D.ax (D.af d 2))])])
def qn (s:(List UInt8))(p:Int)(q:Int)(A:Int):List BV:=[pO 0,iO A]
def qp (s:(List UInt8))(p:Int)(q:Int)(A:Int):List (Nat×aE):=[(0,cO fZ [.func (.func kA) [] [pO 1],.func (.func kB) [] [pO 1],iO p,iO q]),(1,cO aq [.ax s])]
def gb:RH:=fun _ _ d=> .ret (.tuple [.agg (aH pg ak (D.af d 1)),.bool (D.bool (D.af d 0))],[(0,cO fZ [.func (.func kA) [] [pO 1],.func (.func kB) [] [pO 1],iO (D.int (D.af d 3)),iO (D.int (D.af d 4))]),(1,cO aq [.ax (D.ax (D.af d 2))])])
def nS (s:(List UInt8))(p:Int)(q:Int):List BV:=[pO 0]
def nU (s:(List UInt8))(p:Int)(q:Int):List (Nat×aE):=[(0,cO fZ [.func (.func kA) [] [pO 1],.func (.func kB) [] [pO 1],iO p,iO q]),(1,cO aq [.ax s])]
def fi:RH:=fun _ _ d=> .ret (.ax (D.ax (D.af d 1)),[(0,cO an [.ax (D.ax (D.af d 2)),.bool (D.bool (D.af d 0))])])
def jX (s:(List UInt8))(z:Bool)(n:Int):List BV:=[pO 0,iO n]
def im (s:(List UInt8))(z:Bool)(n:Int):List (Nat×aE):=[(0,cO an [.ax s,.bool z])]
def iv:RH:=fun _ _ d=> .ret (.int .u64 (D.int (D.af d 1)),[(0,cO an [.ax (D.ax (D.af d 2)),.bool (D.bool (D.af d 0))])])
def bR:RH:=fun _ _ d=> .ret (iO (D.int (D.af d 1)),[(0,cO an [.ax (D.ax (D.af d 2)),.bool (D.bool (D.af d 0))])])
def ba (s:(List UInt8))(z:Bool):List BV:=[pO 0]
def bc (s:(List UInt8))(z:Bool):List (Nat×aE):=[(0,cO an [.ax s,.bool z])]
def iq:RH:=fun _ _ d=> .ret (iU (D.int (D.af d 1)),[(0,cO an [.ax (D.ax (D.af d 2)),.bool (D.bool (D.af d 0))])])
def v7:RH:=fun _ _ d=> .ret (.bool (D.bool (D.af d 1)),[(0,cO an [.ax (D.ax (D.af d 2)),.bool (D.bool (D.af d 0))])])
def iu:RH:=fun _ _ d=> .ret (.agg (aH pg aI (D.af d 1)),[(0,cO an [.ax (D.ax (D.af d 2)),.bool (D.bool (D.af d 0))])])
def ld:RH:=fun _ _ d=> .ret (.agg (aH pg ak (D.af d 1)),[(0,cO an [.ax (D.ax (D.af d 2)),.bool (D.bool (D.af d 0))])])
def gJ:RH:=fun _ _ d=> .ret (.agg (aH pg aM (D.af d 1)),[(0,cO an [.ax (D.ax (D.af d 2)),.bool (D.bool (D.af d 0))])])
def v8:RH:=fun _ _ d=> .ret (.agg (aH pg aU (D.af d 1)),[(0,cO an [.ax (D.ax (D.af d 2)),.bool (D.bool (D.af d 0))])])
def Lq (s:(List UInt8))(z:Bool)(k:Int):List BV:=[pO 0,iU k]
def eD:RH:=fun _ _ d=> .ret (vO 1 (D.ae (D.af d 1)).length,[(0,cO an [.ax (D.ax (D.af d 2)),.bool (D.bool (D.af d 0))]),(1,rO aJ (D.ae (D.af d 1)))])
def nu:RH:=fun _ _ d=> .ret (vO 1 (D.ae (D.af d 1)).length,[(0,cO an [.ax (D.ax (D.af d 2)),.bool (D.bool (D.af d 0))]),(1,rO ak (D.ae (D.af d 1)))])
def kZ:RH:=fun _ _ d=> .ret (vO 1 (D.ae (D.af d 1)).length,[(0,cO an [.ax (D.ax (D.af d 2)),.bool (D.bool (D.af d 0))]),(1,rO dG (D.ae (D.af d 1)))])
def mP:RH:=fun _ _ d=> .ret (vO 1 (D.ae (D.af d 1)).length,[(0,cO an [.ax (D.ax (D.af d 2)),.bool (D.bool (D.af d 0))]),(1,rO ah (D.ae (D.af d 1)))])
def gq:RH:=fun _ _ d=> .ret (vO 1 (D.ae (D.af d 1)).length,[(0,cO an [.ax (D.ax (D.af d 2)),.bool (D.bool (D.af d 0))]),(1,rO aV (D.ae (D.af d 1)))])
def gp:RH:=fun _ M d=>match M with| [(_,.cells [_,_,_,_,_] _ _),_]=> .ret (iO (D.int (D.af d 0)),[(0,cO aM (aH pg aM (D.af d 1))),(1,cO br [.bx aV (D.ae (D.af d 2))])])| [(_,.cells [_] _ _),_]=> .ret (iO (D.int (D.af d 0)),[(0,cO aQ [vO 1 (D.ae (D.af d 1)).length]),(1,rO aJ (D.ae (D.af d 1)))])|_=> .ret (iO (D.int (D.af d 0)),[(0,cO aM (aH pg aM (D.af d 1)))])
def B4 (s:(List UInt8))(c:Int):List BV:=[.ax s,iU c,.func (.func PT) [] [pO 0,pO 1]]
def Ca (s:(List UInt8))(c:Int):List (Nat×aE):=[(0,cO aM [.cS,.cS,.cS,iO 0,.cS]),(1,cO br [.cS])]
attribute[reducible] Tc Jk Jp tF MH MI Ec B5 B8 zK B6 AE ye qn qp nS nU jX im ba bc Lq B4 Ca
abbrev TK:Nat:=kS
def Jv:RH:=gp
def ql (s:(List UInt8))(c:Int):List BV:=[.ax s,iU c,.func (.func Ek) [] [pO 0]]
def qo (s:(List UInt8))(c:Int):List (Nat×aE):=[(0,cO aM [.cS,.cS,.cS,iO 0,.cS])]
attribute[reducible] Jv ql qo
abbrev TL:Nat:=kS
def yx (s:(List UInt8))(c:Int):List BV:=[.ax s,iU c,.func (.func Fv) [] [pO 0]]
def yA (s:(List UInt8))(c:Int):List (Nat×aE):=[(0,cO aQ [vO 1 0]),(1,rO aJ [])]
def Ju:RH:=fun _ _ d=> .ite (D.bool (D.af d 0)) (.ret (.tuple [.gF,iO (D.int (D.af d 1))],[])) (.ret (.tuple [pO 0,iO 0],Pmf (G4 (D.af d 2)) (G4 (D.af d 3)) (D.ae (D.af d 4)) (D.ae (D.af d 5))))
def tL:RH:=fun _ _ d=> .ret (.tuple [vO 0 (D.ae (D.af d 1)).length,iO (D.int (D.af d 0))],[(0,rO aJ (D.ae (D.af d 1)))])
def vZ:RH:=fun _ _ d=> .ite (D.bool (D.af d 0)) (.ret (.tuple [.gF,iO (D.int (D.af d 1))],[])) (.ret (.tuple [pO 0,iO 0],[(0,cO an [.ax (D.ax (D.af d 2)),.bool false])]))
def Iv (t:(List UInt8))(s:(List UInt8)):List BV:=[.ax t,.ax s]
def r9:RH:=fun _ _ d=> .ite (D.bool (D.af d 0)) (.ret (.tuple [.gF,iO (D.int (D.af d 1))],[])) (.ret (.tuple [pO 0,iO 0],Rm ⟨D.ae (D.af d 2),D.ae (D.af d 3),D.ae (D.af d 4),D.int (D.af d 5),D.ae (D.af d 6)⟩))
def vY:RH:=fun _ _ d=> .ite (D.bool (D.af d 0)) (.ret (.tuple [.gF,.bx aV [],iO (D.int (D.af d 1))],[])) (.ret (.tuple [pO 0,.bx aV (D.ae (D.af d 7)),iO 0],Rm ⟨D.ae (D.af d 2),D.ae (D.af d 3),D.ae (D.af d 4),D.int (D.af d 5),D.ae (D.af d 6)⟩))
def tO:RH:=fun _ _ d=> .ret (.tuple [.bx aJ (D.ae (D.af d 1)),iO (D.int (D.af d 0))],[])
def nR (y:D)(l:List D)(c:List D)(h:List D)(o:(List UInt8)):List BV:=[.agg (aH pg aM y),.bx aV l,.bx aJ c,.bx cP h,.ax o]
attribute[reducible] yx yA Iv nR
def frcN {R:Type}(n:Nat)(k:Nat->R):R:=match n with
 |0=>k 0
 |m+1=>k (m+1)
def orcGo:Nat->Nat->List vK->vK
 |0,_,_=> .all
 |f+1,n,st=>frcN (n/16) fun m=>frcN (m/256) fun q=>match n % 16,st with
  |1,st=>orcGo f m (.all::st)
  |2,b::a::st=>orcGo f m (.iy a b::st)
  |3,a::st=>orcGo f m (.lit a::st)
  |4,a::st=>orcGo f m (.sm a::st)
  |5,a::st=>orcGo f q (.NH (m % 256) false a::st)
  |6,a::st=>orcGo f q (.no (m % 256) false a::st)
  |7,a::st=>orcGo f q (.NH (m % 256) true a::st)
  |8,a::st=>orcGo f q (.no (m % 256) true a::st)
  |9,a::st=>orcGo f q (.ls a (m % 256)::st)
  |10,a::st=>frcN (q/256) fun r=>orcGo f r (.ys a (m % 256) (q % 256)::st)
  |11,a::st=>frcN (q/256) fun r=>orcGo f r (.ns a (m % 256) (q % 256)::st)
  |12,a::st=>frcN (m/16) fun q=>orcGo f q (.ys a 0 (m % 16)::st)
  |13,a::st=>frcN (m/16) fun q=>orcGo f q (.ns a 0 (m % 16)::st)
  |14,a::st=>frcN (m/16) fun q=>orcGo f q (.ls a (m % 16)::st)
  |_,a::_=>a
  |_,_=> .all
def orc (n:Nat):vK:=orcGo 2000 n []
def hdS (f:FuncId)(n:Nat)(e:List (Nat×BV))(L:List (Nat×aE)):av:=ai2 pg f n e L
def wrC (W:WS)(a b c d:Nat):aE:= .cells [.bx cq W.pa,.hY a W.cu.length true,.map b,.map c,.int .i64 W.la,.hY d W.ma.length true] bU false
def wrT (W:WS)(f:Nat):aE:= .cd bW (.dD f aU) W.th W.st W.ck
def wrF (W:WS):aE:= .cd bp (.data bW) W.fa W.sf W.cf
def rrC (R:RS)(a b c d:Nat):aE:= .cells [.hY a R.pa.length true,.hY b R.cu.length true,.hY c R.th.length true,.int .i64 R.la,.hY d R.ma.length true] bQ false
abbrev PH (f:FuncId)(A:List BV)(M:List (Nat×aE))(p:Nat)(R:RH)(Q:D->Prop):=xm pg f A M p (R A M) Q
abbrev lk (f:FuncId)(rs:List TypeId)(C:cK)(G:vJ)(s:av)(t:RT):Prop:=rk pg {C with f:=f,rs:=rs} G t->aC pg f rs G s
abbrev lp (f:FuncId)(rs:List TypeId)(C:cK)(A:List TypeId)(ds:List D)(Q:D->Prop)(t:RT):Prop:=rk pg {C with f:=f,rs:=rs} (.cY Q) t->dZ pg f A ds rs Q
abbrev lh (f:FuncId)(rs:List TypeId)(C:cK)(A:List BV)(M:List (Nat×aE))(p:Nat)(R:RH)(Q:D->Prop)(t:RT):Prop:=rk pg {C with f:=f,rs:=rs} (.bK p (R A M) Q) t->xm pg f A M p (R A M) Q
def rnT (f:FuncId)(rs:List TypeId)(C:cK)(s:av):RT:=Go.PB.runT pg {C with f:=f,rs:=rs} 600 s
def oE {f:FuncId}{rs:List TypeId}(C:cK){G:vJ}{s:av}(o:Nat){t:RT}(hp:G.p<=({C with f:=f,rs:=rs}:cK).p:=by exact amG _)(A:RT.EP (orc o) (rnT f rs C s)=RT.EO (orc o) [] (rnT f rs C s):=by as_aux_lemma=>kernel_rfl)(e:RT.pr (orc o) (rnT f rs C s)=t:=by as_aux_lemma=>kernel_rfl):lk f rs C G s t:=
 aC.om (C:={C with f:=f,rs:=rs}) M9 hp 600 (orc o) A e
def oP {f:FuncId}{rs:List TypeId}(C:cK){Q:D->Prop}{A:List TypeId}{ds:List D}(o:Nat){t:RT}(I:(fj pg f (AB pg A ds) .normal).isSome=true:=by as_aux_lemma=>kernel_rfl)
 (J:RT.EP (orc o) (rnT f rs C ⟨(fj pg f (AB pg A ds) .normal).getD default,[],hS⟩)=RT.EO (orc o) [] (rnT f rs C ⟨(fj pg f (AB pg A ds) .normal).getD default,[],hS⟩):=by as_aux_lemma=>kernel_rfl)
 (e:RT.pr (orc o) (rnT f rs C ⟨(fj pg f (AB pg A ds) .normal).getD default,[],hS⟩)=t:=by as_aux_lemma=>kernel_rfl):lp f rs C A ds Q t:=
 dZ.om (C:={C with f:=f,rs:=rs}) M9 600 (orc o) I J e
def oH {f:FuncId}{rs:List TypeId}(C:cK){Q:D->Prop}{A:List BV}{M:List (Nat×aE)}{p:Nat}{R:RH}(o:Nat){t:RT}(hp:C.bK=some p:=by rfl)(I:(fj pg f A .normal).isSome=true:=by as_aux_lemma=>kernel_rfl)
 (J:RT.EP (orc o) (rnT f rs C ⟨(fj pg f A .normal).getD default,[],hL M⟩)=RT.EO (orc o) [] (rnT f rs C ⟨(fj pg f A .normal).getD default,[],hL M⟩):=by as_aux_lemma=>kernel_rfl)
 (e:RT.pr (orc o) (rnT f rs C ⟨(fj pg f A .normal).getD default,[],hL M⟩)=t:=by as_aux_lemma=>kernel_rfl):lh f rs C A M p R Q t:=
 xm.om (C:={C with f:=f,rs:=rs}) M9 600 (orc o) hp I J e
def enL:Nat->List aE->List (Nat×aE)
 |_,[]=>[]
 |n,o::l=>(n,o)::enL (n+1) l
def hdL (f:FuncId)(n:Nat)(e:List (Nat×BV))(l:List aE):av:=ai2 pg f n e (enL 0 l)
end Go.Proofs
namespace Go.Proofs
open Go Go.PB
attribute [simp] rk
abbrev cg:=List UInt8
abbrev aY (l:List Int):List D:=l.map D.z
def bM {x:Int}(h0:-(2^63)<=x:=by omega)(h1:x<2^63:=by omega):IntKind.i64.wrap x=x:=by
 have A:(IntKind.i64).bits=64:=rfl;have I:(IntKind.i64).signed=true:=rfl;simp only[wp,A,I,anf,aml];omega
inductive aA where
 |mk (k n:Int) (s:cg) (l:List aA) (r:Int)
 deriving Inhabited
namespace aA
def k:aA->Int|mk k _ _ _ _=>k
def n:aA->Int|mk _ n _ _ _=>n
def s:aA->cg|mk _ _ s _ _=>s
def l:aA->List aA|mk _ _ _ l _=>l
def r:aA->Int|mk _ _ _ _ r=>r
mutual
def ar:aA->D
 | .mk k n s l r=> .r [.z k,.z n,.s s,.r (yH l),.z r]
def yH:List aA->List D
 | []=>[]
 |v::r=>ar v::yH r
end
def yI:∀l,yH l=l.map ar
 | []=>rfl
 |v::r=>by simp[yH,yI r]
def ind {M:aA->Prop}(h:∀v:aA,(∀x∈v.l,M x)->M v):∀v,M v:=by
 intro v;refine aA.rec (motive_1:=M) (motive_2:=fun l=>∀x∈l,M x) ?_ ?_ ?_ v
 ·intro k n s l r A;exact h (.mk k n s l r) A
 ·intro x hx;cases hx
 intro v l h1 h2 x hx;rcases amz.1 hx with rfl|hx
 ·exact h1
 exact h2 x hx
@[simp] def ek (v:aA):D.int (D.af v.ar 0)=v.k:=by cases v;rfl
@[simp] def jP (v:aA):D.int (D.af v.ar 1)=v.n:=by cases v;rfl
@[simp] def pR (v:aA):D.ax (D.af v.ar 2)=v.s:=by cases v;rfl
@[simp] def hI (v:aA):D.ae (D.af v.ar 3)=v.l.map ar:=by cases v;simp[ar,D.af,D.at,D.ae,yI,l]
@[simp] def rB (v:aA):D.int (D.af v.ar 4)=v.r:=by cases v;rfl
def az (v:aA):v.ar= .r [.z v.k,.z v.n,.s v.s,.r (v.l.map ar),.z v.r]:=by cases v;simp[ar,yI,k,n,s,l,r]
@[simp] def akN (v:aA):D.ae v.ar=[.z v.k,.z v.n,.s v.s,.r (v.l.map ar),.z v.r]:=by rw[az];rfl
mutual
def size:aA->Nat
 | .mk _ _ _ l _=>1+bA l
def bA:List aA->Nat
 | []=>0
 |v::r=>size v+bA r
end
mutual
def depth:aA->Nat
 | .mk k _ _ l _=>if k=3 then kg l+1 else 0
def kg:List aA->Nat
 | []=>0
 |v::r=>max (depth v) (kg r)
end
def field (v:aA):Bool:=
 if v.k=0 then v.n==0&&v.s==[]&&v.l.length==0&&v.r==0
 else if v.k=1 then v.s==[]&&v.l.length==0&&v.r==0
 else if v.k=2 then v.n==0&&decide (v.s.length<=256)&&v.l.length==0&&v.r==0
 else if v.k=3 then v.n==0&&v.s==[]&&v.r==0
 else if v.k=4 then v.n==0&&v.s==[]&&v.l.length==0&&decide (v.r≥1)
 else false
mutual
def gX:aA->Bool
 | .mk k n s l r=>nI l&&field (.mk k n s l r)
def nI:List aA->Bool
 | []=>true
 |v::r=>gX v&&nI r
end
def fE (v:aA):Bool:=decide (v.size<=512)&&decide (v.depth<=16)&&v.gX
mutual
def ok:aA->Prop
 | .mk k n s l r=>0<=k/\k<256/\-2^63<=n/\n<2^63/\s.length<2^63/\l.length<2^63/\-2^63<=r/\r<2^63/\T1 l
def T1:List aA->Prop
 | []=>True
 |v::r=>ok v/\T1 r
end
def Bp:∀l,T1 l↔∀x∈l,ok x
 | []=>by simp[T1]
 |v::r=>by simp[T1,Bp r]
def fe (v:aA):v.ok↔0<=v.k/\v.k<256/\-2^63<=v.n/\v.n<2^63/\v.s.length<2^63/\v.l.length<2^63/\-2^63<=v.r/\v.r<2^63/\∀x∈v.l,ok x:=by
 cases v;simp only[ok,Bp,k,n,s,l,r]
def ok.k {v:aA}(h:v.ok):IntKind.i64.wrap v.k=v.k:=by rw[fe]at h;exact bM
def ok.len {v:aA}(h:v.ok):v.l.length<2^63:=by rw[fe]at h;omega
def ok.mem {v:aA}(h:v.ok){x:aA}(A:x∈v.l):x.ok:=by rw[fe]at h;exact h.2.2.2.2.2.2.2.2 x A
def fN (v:aA):v.size=1+bA v.l:=by cases v;rfl
def PG (v:aA):v.depth=if v.k=3 then kg v.l+1 else 0:=by cases v;rfl
def qA (v:aA):v.gX=(nI v.l&&v.field):=by cases v;rfl
def QJ (v:aA):0<v.size:=by rw[fN];omega
def fv:∀l:List aA,l.length<=bA l
 | []=>by simp[bA]
 |v::r=>by have:=QJ v;have:=fv r;simp only[bA,amB];omega
end aA
def bC {α:Type}{f:α->D}{l:List α}{i:Nat}{x:α}(h:l[i]?=some x):D.at (l.map f) i=f x:=by simp[D.at,List.getD,h]
def aF {α:Type}{l:List α}{i:Nat}{x:α}{r:List α}(h:l.drop i=x::r):l[i]?=some x/\l.drop (i+1)=r/\i<l.length:=by
 have h1:i<l.length:=by have:=amZ List.length h;simp at this;omega
 refine⟨by have:=amZ (·[0]?) h;simpa using this,?_,h1⟩;rw[<-an4,h];rfl
def drop_nil {α:Type}{l:List α}{i:Nat}(h:l.drop i=[]):l.length<=i:=List.drop_eq_nil_iff.1 h
def TQ {n m:Int}{h:Decidable (m>n)}:@ite Int (m>n) h m n=max n m:=by split<;>omega
def bL {i n:Nat}(h:i<n:=by omega)(A:n<2^63:=by omega):IntKind.i64.wrap ((i:Int)+1)=((i+1:Nat):Int):=by rw[bM];rfl
def abz {k:Int}(h0:0<=k)(h1:k<256):IntKind.i64.wrap k=k:=bM
def aR {i n:Nat}(h:i<n):di (i:Int) n=true:=by simp[di];omega
@[simp] def eN (v:aA):dE pg ak v.ar=v.ar:=by cases v;kernel_rfl
end Go.Proofs
namespace Go.Proofs
open Go Go.PB
def aes (l:List D):pK l 0 l.length=l:=by cases l with|nil=>rfl|cons a r=>simp only[pK,amB];rw[show Nat.beq (r.length+1) 0=false from rfl];simp
def aA.Fx:∀{l:List aA} {x:aA},aA.nI l=true->x∈l->x.gX=true
 |v::r,x,h,hx=>by
  simp only[aA.nI,amo]at h;rcases amz.1 hx with rfl|hx
  ·exact h.1
  exact Fx h.2 hx
def aA.ok.af {v x:aA}(_:v.ok)(hf:v.gX=true)(A:x∈v.l):x.gX=true:=by
 rw[aA.qA,amo]at hf;exact aA.Fx hf.1 A
def aA.aeL {v x:aA}(hf:v.gX=true)(I:x∈v.l):v.k=3:=by
 rw[aA.qA,amo]at hf;have:=hf.2;have hl:v.l≠[]:=fun h=>by rw[h]at I;cases I
 unfold aA.field at this
 by_cases A:v.k=3
 ·exact A
 simp[A,hl]at this
def aA.fW:∀{l:List aA} {x:aA},x∈l->x.size<=bA l
 |v::r,x,h=>by
  unfold bA;rcases amz.1 h with rfl|h
  ·omega
  have:=fW h;omega
def aA.GB:∀{l:List aA} {x:aA},x∈l->x.depth<=kg l
 |v::r,x,h=>by
  unfold kg;rcases amz.1 h with rfl|h
  ·omega
  have:=GB h;omega
end Go.Proofs
namespace Go.Proofs
open Go Go.PB
abbrev zi (l:List cg):List D:=l.map D.s
inductive Ex where
 |mk (k:Int) (n:Int) (s:cg) (l:List Ex)
 deriving Inhabited
namespace Ex
def k:Ex->Int|mk x _ _ _=>x
def n:Ex->Int|mk _ x _ _=>x
def s:Ex->cg|mk _ _ x _=>x
def l:Ex->List Ex|mk _ _ _ x=>x
mutual
def ar:Ex->D
 | .mk k n s l=> .r [.z k,.z n,.s s,.r (yH l)]
def yH:List Ex->List D
 | []=>[]
 |v::r=>ar v::yH r
end
def yI:∀l,yH l=l.map ar
 | []=>rfl
 |v::r=>by simp[yH,yI r]
def az (v:Ex):v.ar= .r [.z v.k,.z v.n,.s v.s,.r (v.l.map ar)]:=by cases v;simp[ar,yI,k,n,s,l]
@[simp] def ek (v:Ex):D.int (D.af v.ar 0)=v.k:=by rw[az];rfl
@[simp] def jP (v:Ex):D.int (D.af v.ar 1)=v.n:=by rw[az];rfl
@[simp] def pR (v:Ex):D.ax (D.af v.ar 2)=v.s:=by rw[az];rfl
@[simp] def hI (v:Ex):D.ae (D.af v.ar 3)=v.l.map ar:=by rw[az];rfl
@[simp] def re (v:Ex):dE pg aI v.ar=v.ar:=by rw[az];kernel_rfl
mutual
def ok:Ex->Prop
 | .mk k n s l=>0<=k/\k<256/\-2^63<=n/\n<2^63/\s.length<2^63/\l.length<2^63/\T1 l
def T1:List Ex->Prop
 | []=>True
 |v::r=>ok v/\T1 r
end
def Bp:∀l,T1 l↔∀x∈l,ok x
 | []=>by simp[T1]
 |v::r=>by simp[T1,Bp r]
def fe (v:Ex):v.ok↔0<=v.k/\v.k<256/\-2^63<=v.n/\v.n<2^63/\v.s.length<2^63/\v.l.length<2^63/\(∀x∈v.l,x.ok):=by
 cases v;simp only[ok,Bp,k,n,s,l]
def ind {M:Ex->Prop}(h:∀v:Ex,(∀x∈v.l,M x)->M v):∀v,M v:=by
 intro v;refine Ex.rec (motive_1:=M) (motive_2:=fun l=>∀x∈l,M x) ?_ ?_ ?_ v
 ·intro k n s l A;exact h _ A
 ·intro x hx;cases hx
 intro v l h1 h2 x hx;rcases amz.1 hx with rfl|hx
 ·exact h1
 exact h2 x hx
end Ex
inductive St where
 |mk (op:Int) (nm:cg) (sc:cg) (ab:Int) (wh:Int) (a:Ex) (b:Ex) (th:List St) (el:List St) (co:List St) (wi:List cg)
 deriving Inhabited
namespace St
def op:St->Int|mk x _ _ _ _ _ _ _ _ _ _=>x
def nm:St->cg|mk _ x _ _ _ _ _ _ _ _ _=>x
def sc:St->cg|mk _ _ x _ _ _ _ _ _ _ _=>x
def ab:St->Int|mk _ _ _ x _ _ _ _ _ _ _=>x
def wh:St->Int|mk _ _ _ _ x _ _ _ _ _ _=>x
def a:St->Ex|mk _ _ _ _ _ x _ _ _ _ _=>x
def b:St->Ex|mk _ _ _ _ _ _ x _ _ _ _=>x
def th:St->List St|mk _ _ _ _ _ _ _ x _ _ _=>x
def el:St->List St|mk _ _ _ _ _ _ _ _ x _ _=>x
def co:St->List St|mk _ _ _ _ _ _ _ _ _ x _=>x
def wi:St->List cg|mk _ _ _ _ _ _ _ _ _ _ x=>x
mutual
def ar:St->D
 | .mk op nm sc ab wh a b th el co wi=> .r [.z op,.s nm,.s sc,.z ab,.z wh,a.ar,b.ar,.r (yH th),.r (yH el),.r (yH co),.r (zi wi)]
def yH:List St->List D
 | []=>[]
 |v::r=>ar v::yH r
end
def yI:∀l,yH l=l.map ar
 | []=>rfl
 |v::r=>by simp[yH,yI r]
def az (v:St):v.ar= .r [.z v.op,.s v.nm,.s v.sc,.z v.ab,.z v.wh,v.a.ar,v.b.ar,.r (v.th.map ar),.r (v.el.map ar),.r (v.co.map ar),.r (zi v.wi)]:=by cases v;simp[ar,yI,op,nm,sc,ab,wh,a,b,th,el,co,wi]
@[simp] def Yt (v:St):D.int (D.af v.ar 0)=v.op:=by rw[az];rfl
@[simp] def sT (v:St):D.ax (D.af v.ar 1)=v.nm:=by rw[az];rfl
@[simp] def PM (v:St):D.ax (D.af v.ar 2)=v.sc:=by rw[az];rfl
@[simp] def IN (v:St):D.int (D.af v.ar 3)=v.ab:=by rw[az];rfl
@[simp] def PO (v:St):D.int (D.af v.ar 4)=v.wh:=by rw[az];rfl
@[simp] def CB (v:St):D.af v.ar 5=v.a.ar:=by rw[az];rfl
@[simp] def JV (v:St):D.af v.ar 6=v.b.ar:=by rw[az];rfl
@[simp] def gD (v:St):D.ae (D.af v.ar 7)=v.th.map ar:=by rw[az];rfl
@[simp] def BO (v:St):D.ae (D.af v.ar 8)=v.el.map ar:=by rw[az];rfl
@[simp] def iz (v:St):D.ae (D.af v.ar 9)=v.co.map ar:=by rw[az];rfl
@[simp] def BQ (v:St):D.ae (D.af v.ar 10)=zi v.wi:=by rw[az];rfl
@[simp] def re (v:St):dE pg aJ v.ar=v.ar:=by
 rw[az];simp only[Ex.az];kernel_rfl
mutual
def ok:St->Prop
 | .mk op nm sc ab wh a b th el co wi=>0<=op/\op<256/\nm.length<2^63/\sc.length<2^63/\0<=ab/\ab<256/\0<=wh/\wh<256/\a.ok/\b.ok/\th.length<2^63/\T1 th/\el.length<2^63/\T1 el/\co.length<2^63/\T1 co/\wi.length<2^63/\(∀x∈wi,x.length<2^63)
def T1:List St->Prop
 | []=>True
 |v::r=>ok v/\T1 r
end
def Bp:∀l,T1 l↔∀x∈l,ok x
 | []=>by simp[T1]
 |v::r=>by simp[T1,Bp r]
def fe (v:St):v.ok↔0<=v.op/\v.op<256/\v.nm.length<2^63/\v.sc.length<2^63/\0<=v.ab/\v.ab<256/\0<=v.wh/\v.wh<256/\v.a.ok/\v.b.ok/\v.th.length<2^63/\(∀x∈v.th,x.ok)/\v.el.length<2^63/\(∀x∈v.el,x.ok)/\v.co.length<2^63/\(∀x∈v.co,x.ok)/\v.wi.length<2^63/\(∀x∈v.wi,x.length<2^63):=by
 cases v;simp only[ok,Bp,op,nm,sc,ab,wh,a,b,th,el,co,wi]
def ind {M:St->Prop}(h:∀v:St,(∀x∈v.th,M x)->(∀x∈v.el,M x)->(∀x∈v.co,M x)->M v):∀v,M v:=by
 intro v;refine St.rec (motive_1:=M) (motive_2:=fun l=>∀x∈l,M x) ?_ ?_ ?_ v
 ·intro op nm sc ab wh a b th el co wi J A I;exact h _ J A I
 ·intro x hx;cases hx
 intro v l h1 h2 x hx;rcases amz.1 hx with rfl|hx
 ·exact h1
 exact h2 x hx
end St
structure fx where
 nm:cg
 v:aA
 deriving Inhabited
namespace fx
def ar (v:fx):D:= .r [.s v.nm,v.v.ar]
def az (v:fx):v.ar= .r [.s v.nm,v.v.ar]:=rfl
@[simp] def sT (v:fx):D.ax (D.af v.ar 0)=v.nm:=by rw[az];rfl
@[simp] def pS (v:fx):D.af v.ar 1=v.v.ar:=by rw[az];rfl
@[simp] def re (v:fx):dE pg dG v.ar=v.ar:=by
 rw[az];simp only[aA.az];kernel_rfl
def ok (v:fx):Prop:=v.nm.length<2^63/\v.v.ok
end fx
structure Wh where
 k:Int
 h:Int
 v:aA
 vs:List aA
 n:Int
 lo:Int
 of:Int
 tD:Int
 set:Int
 Ae:Bool
 co:List St
 ns:List fx
 deriving Inhabited
namespace Wh
def ar (v:Wh):D:= .r [.z v.k,.z v.h,v.v.ar,.r (v.vs.map aA.ar),.z v.n,.z v.lo,.z v.of,.z v.tD,.z v.set,.b v.Ae,.r (v.co.map St.ar),.r (v.ns.map fx.ar)]
def az (v:Wh):v.ar= .r [.z v.k,.z v.h,v.v.ar,.r (v.vs.map aA.ar),.z v.n,.z v.lo,.z v.of,.z v.tD,.z v.set,.b v.Ae,.r (v.co.map St.ar),.r (v.ns.map fx.ar)]:=rfl
@[simp] def ek (v:Wh):D.int (D.af v.ar 0)=v.k:=by rw[az];rfl
@[simp] def rA (v:Wh):D.int (D.af v.ar 1)=v.h:=by rw[az];rfl
@[simp] def pS (v:Wh):D.af v.ar 2=v.v.ar:=by rw[az];rfl
@[simp] def BP (v:Wh):D.ae (D.af v.ar 3)=v.vs.map aA.ar:=by rw[az];rfl
@[simp] def jP (v:Wh):D.int (D.af v.ar 4)=v.n:=by rw[az];rfl
@[simp] def Fp (v:Wh):D.int (D.af v.ar 5)=v.lo:=by rw[az];rfl
@[simp] def mj (v:Wh):D.int (D.af v.ar 6)=v.of:=by rw[az];rfl
@[simp] def qy (v:Wh):D.int (D.af v.ar 7)=v.tD:=by rw[az];rfl
@[simp] def pe (v:Wh):D.int (D.af v.ar 8)=v.set:=by rw[az];rfl
@[simp] def xu (v:Wh):D.bool (D.af v.ar 9)=v.Ae:=by rw[az];rfl
@[simp] def iz (v:Wh):D.ae (D.af v.ar 10)=v.co.map St.ar:=by rw[az];rfl
@[simp] def hZ (v:Wh):D.ae (D.af v.ar 11)=v.ns.map fx.ar:=by rw[az];rfl
@[simp] def re (v:Wh):dE pg aU v.ar=v.ar:=by
 rw[az];simp only[aA.az];kernel_rfl
def ok (v:Wh):Prop:=0<=v.k/\v.k<256/\-2^63<=v.h/\v.h<2^63/\v.v.ok/\v.vs.length<2^63/\(∀x∈v.vs,x.ok)/\-2^63<=v.n/\v.n<2^63/\-2^63<=v.lo/\v.lo<2^63/\-2^63<=v.of/\v.of<2^63/\-2^63<=v.tD/\v.tD<2^63/\0<=v.set/\v.set<256/\v.co.length<2^63/\(∀x∈v.co,x.ok)/\v.ns.length<2^63/\(∀x∈v.ns,x.ok)
end Wh
structure En where
 r:Int
 w:Wh
 deriving Inhabited
namespace En
def ar (v:En):D:= .r [.z v.r,v.w.ar]
def az (v:En):v.ar= .r [.z v.r,v.w.ar]:=rfl
@[simp] def rB (v:En):D.int (D.af v.ar 0)=v.r:=by rw[az];rfl
@[simp] def VD (v:En):D.af v.ar 1=v.w.ar:=by rw[az];rfl
@[simp] def re (v:En):dE pg bF v.ar=v.ar:=by
 rw[az];simp only[aA.az,Wh.az];kernel_rfl
def ok (v:En):Prop:=-2^63<=v.r/\v.r<2^63/\v.w.ok
end En
structure Wl where
 pa:List Int
 cu:List Int
 th:List En
 la:Int
 ma:List Int
 deriving Inhabited
namespace Wl
def ar (v:Wl):D:= .r [.r (aY v.pa),.r (aY v.cu),.r (v.th.map En.ar),.z v.la,.r (aY v.ma)]
def az (v:Wl):v.ar= .r [.r (aY v.pa),.r (aY v.cu),.r (v.th.map En.ar),.z v.la,.r (aY v.ma)]:=rfl
@[simp] def iW (v:Wl):D.ae (D.af v.ar 0)=aY v.pa:=by rw[az];rfl
@[simp] def tX (v:Wl):D.ae (D.af v.ar 1)=aY v.cu:=by rw[az];rfl
@[simp] def gD (v:Wl):D.ae (D.af v.ar 2)=v.th.map En.ar:=by rw[az];rfl
@[simp] def q9 (v:Wl):D.int (D.af v.ar 3)=v.la:=by rw[az];rfl
@[simp] def nD (v:Wl):D.ae (D.af v.ar 4)=aY v.ma:=by rw[az];rfl
@[simp] def re (v:Wl):dE pg aM v.ar=v.ar:=by rw[az];kernel_rfl
def ok (v:Wl):Prop:=v.pa.length<2^63/\(∀x∈v.pa,-2^63<=x/\x<2^63)/\v.cu.length<2^63/\(∀x∈v.cu,-2^63<=x/\x<2^63)/\v.th.length<2^63/\(∀x∈v.th,x.ok)/\-2^63<=v.la/\v.la<2^63/\v.ma.length<2^63/\(∀x∈v.ma,-2^63<=x/\x<2^63)
end Wl
structure Su where
 si:Int
 co:List St
 ns:List fx
 se:List Int
 deriving Inhabited
namespace Su
def ar (v:Su):D:= .r [.z v.si,.r (v.co.map St.ar),.r (v.ns.map fx.ar),.r (aY v.se)]
def az (v:Su):v.ar= .r [.z v.si,.r (v.co.map St.ar),.r (v.ns.map fx.ar),.r (aY v.se)]:=rfl
@[simp] def PN (v:Su):D.int (D.af v.ar 0)=v.si:=by rw[az];rfl
@[simp] def iz (v:Su):D.ae (D.af v.ar 1)=v.co.map St.ar:=by rw[az];rfl
@[simp] def hZ (v:Su):D.ae (D.af v.ar 2)=v.ns.map fx.ar:=by rw[az];rfl
@[simp] def tY (v:Su):D.ae (D.af v.ar 3)=aY v.se:=by rw[az];rfl
@[simp] def re (v:Su):dE pg aV v.ar=v.ar:=by rw[az];kernel_rfl
def ok (v:Su):Prop:=-2^63<=v.si/\v.si<2^63/\v.co.length<2^63/\(∀x∈v.co,x.ok)/\v.ns.length<2^63/\(∀x∈v.ns,x.ok)/\v.se.length<2^63/\(∀x∈v.se,-2^63<=x/\x<2^63)
end Su
section
inductive adU where
 |all
 |iy (l r:adU)
 |pN
def RT.pK:adU->RT->RT
 | .pN,_=> .bT
 | .iy a b,.ite c t e=> .ite c (RT.pK a t) (RT.pK b e)
 |o,.call f ds k=> .call f ds fun d=>RT.pK o (k d)
 |o,.au f ags L p k=> .au f ags L p fun d=>RT.pK o (k d)
 |_,t=>t
section
variable {P:Program} {C:cK} {G:vJ}
def RT.ahd:∀(t:RT) (o:adU),rk P C G (RT.pK o t)->rk P C G t:=by
 intro t
 induction t with
 |ite c t e O J=>
  intro o h
  cases o with
  |all=>simpa only[RT.pK]using h
  |pN=>simp only[RT.pK,rk]at h
  |iy a b=>simp only[RT.pK,rk]at h ⊢;exact⟨fun hc=>O _ (h.1 hc),fun hc=>J _ (h.2 hc)⟩
 |call f ds k U=>
  intro o h
  cases o with
  |pN=>simp only[RT.pK,rk]at h
  |_=>simp only[RT.pK,rk]at h ⊢;obtain⟨V,rs,I,h1,h2,A⟩:=h;exact⟨V,rs,I,h1,h2,fun d hd=>U d _ (A d hd)⟩
 |au f ags L p k U=>
  intro o h
  cases o with
  |pN=>simp only[RT.pK,rk]at h
  |_=>simp only[RT.pK,rk]at h ⊢;obtain⟨R,I,h1,h2,A⟩:=h;exact⟨R,I,h1,h2,fun d hd=>U d _ (A d hd)⟩
 |_=>
  intro o h
  cases o with
  |pN=>simp only[RT.pK,rk]at h
  |_=>simpa only[RT.pK]using h
def xm.afv (A:P.follows .mixedOrders=true){Q:D->Prop}(n:Nat){p:Nat}{ags:List BV}{L:List (Nat×aE)}{R:D->T (BV×List (Nat×aE))}(o:vK)(q:adU){t:RT}(hp:C.bK=some p)(I:(fj P C.f ags .normal).isSome=true)
 (J:RT.EP o (Go.PB.runT P C n ⟨(fj P C.f ags .normal).getD default,[],hL L⟩)=RT.EO o [] (Go.PB.runT P C n ⟨(fj P C.f ags .normal).getD default,[],hL L⟩))
 (e:RT.pK q (RT.pr o (Go.PB.runT P C n ⟨(fj P C.f ags .normal).getD default,[],hL L⟩))=t)(h:rk P C (.bK p R Q) t):xm P C.f ags L p R Q:=
 xm.om A n o hp I J rfl (RT.ahd _ q (by rw[e];exact h))
end
def oD {f:FuncId}{rs:List TypeId}(C:cK){Q:D->Prop}{A:List BV}{M:List (Nat×aE)}{p:Nat}{R:RH}(o:Nat)(q:adU){t:RT}(hp:C.bK=some p:=by rfl)(I:(fj pg f A .normal).isSome=true:=by as_aux_lemma=>kernel_rfl)
 (J:RT.EP (orc o) (rnT f rs C ⟨(fj pg f A .normal).getD default,[],hL M⟩)=RT.EO (orc o) [] (rnT f rs C ⟨(fj pg f A .normal).getD default,[],hL M⟩):=by as_aux_lemma=>kernel_rfl)
 (e:RT.pK q (RT.pr (orc o) (rnT f rs C ⟨(fj pg f A .normal).getD default,[],hL M⟩))=t:=by as_aux_lemma=>kernel_rfl):lh f rs C A M p R Q t:=
 xm.afv (C:={C with f:=f,rs:=rs}) M9 600 (orc o) q hp I J e
end
end Go.Proofs
end
