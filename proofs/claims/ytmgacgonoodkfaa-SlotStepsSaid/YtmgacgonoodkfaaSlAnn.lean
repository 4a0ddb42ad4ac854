/- What the machine does with each piece of code, in plain text. PRINTED by a program of this workplace; Lean checks it. -/
import Derived.Test.YtmgacgonoodkfaaA27
namespace Go.Proofs.Ytmgacgonoodkfaa
open Go.AM
set_option maxRecDepth 100000
set_option linter.unusedVariables false
def ann22 : Ann := Ann.m (7 : Nat) Ann.o
  (Ann.m (7 : Nat) (Ann.m (8589934599 : Nat) Ann.o (Ann.m (7 : Nat) (Ann.m (192 : Nat) Ann.o (Ann.m (192 : Nat) Ann.o Ann.o)) Ann.o))
    (Ann.m (258 : Nat) Ann.o
      (Ann.m (256 : Nat)
        (Ann.m (549755814146 : Nat) Ann.o
          (Ann.m (256 : Nat)
            (Ann.m (549755814146 : Nat)
              (Ann.m (1649267441922 : Nat) Ann.o
                (Ann.m (549755814146 : Nat) (Ann.m (549755814146 : Nat) Ann.o (Ann.m (256 : Nat) Ann.o Ann.o))
                  (Ann.m (549755814146 : Nat) (Ann.m (549755814146 : Nat) (Ann.m (549755814658 : Nat) Ann.o Ann.o) Ann.o) Ann.o)))
              Ann.o)
            Ann.o))
        (Ann.m (192 : Nat) Ann.o (Ann.m (192 : Nat) Ann.o Ann.o)))))
def ann24 : Ann := Ann.m (31 : Nat) Ann.o
  (Ann.m (31 : Nat)
    (Ann.m (31 : Nat)
      (Ann.m (4127 : Nat) Ann.o
        (Ann.m (31 : Nat) (Ann.m (3072 : Nat) Ann.o (Ann.m (3072 : Nat) Ann.o Ann.o))
          (Ann.m (8589934623 : Nat) Ann.o
            (Ann.m (31 : Nat) (Ann.m (3072 : Nat) Ann.o (Ann.m (3072 : Nat) Ann.o Ann.o))
              (Ann.m (137438953503 : Nat) Ann.o
                (Ann.m (31 : Nat) (Ann.m (3072 : Nat) Ann.o (Ann.m (3072 : Nat) Ann.o Ann.o))
                  (Ann.m (2199023255583 : Nat) Ann.o
                    (Ann.m (31 : Nat) (Ann.m (3072 : Nat) Ann.o (Ann.m (3072 : Nat) Ann.o Ann.o))
                      (Ann.m (17592186044447 : Nat) Ann.o
                        (Ann.m (31 : Nat) (Ann.m (3072 : Nat) Ann.o (Ann.m (3072 : Nat) Ann.o Ann.o)) Ann.o))))))))))
      Ann.o)
    (Ann.m (0 : Nat) Ann.o (Ann.m (3072 : Nat) Ann.o (Ann.m (3072 : Nat) Ann.o Ann.o))))
def ann46 : Ann := Ann.m (1 : Nat) Ann.o (Ann.m (4 : Nat) Ann.o (Ann.m (4 : Nat) Ann.o Ann.o))
def ann48 : Ann := Ann.m (71 : Nat) Ann.o
  (Ann.m (71 : Nat) (Ann.m (268435527 : Nat) Ann.o (Ann.m (71 : Nat) (Ann.m (64 : Nat) Ann.o (Ann.m (64 : Nat) Ann.o Ann.o)) Ann.o))
    (Ann.m (64 : Nat) Ann.o (Ann.m (64 : Nat) Ann.o Ann.o)))
def ann26 : Ann := Ann.m (1 : Nat) Ann.o
  (Ann.m (1 : Nat) (Ann.m (65 : Nat) Ann.o (Ann.m (1 : Nat) (Ann.m (12 : Nat) Ann.o (Ann.m (12 : Nat) Ann.o Ann.o)) Ann.o))
    (Ann.m (16 : Nat) Ann.o (Ann.m (12 : Nat) Ann.o (Ann.m (12 : Nat) Ann.o Ann.o))))
def ann29 : Ann := Ann.m (7 : Nat) Ann.o (Ann.m (512 : Nat) Ann.o (Ann.m (448 : Nat) Ann.o (Ann.m (448 : Nat) Ann.o Ann.o)))
def ann31 : Ann := Ann.m (3 : Nat) Ann.o
  (Ann.m (35 : Nat) Ann.o
    (Ann.m (32 : Nat)
      (Ann.m (99 : Nat) Ann.o
        (Ann.m (32 : Nat)
          (Ann.m (99 : Nat)
            (Ann.m (99 : Nat) (Ann.m (131171 : Nat) Ann.o (Ann.m (99 : Nat) Ann.o (Ann.m (32 : Nat) Ann.o Ann.o)))
              (Ann.m (99 : Nat) (Ann.m (99 : Nat) (Ann.m (16777315 : Nat) Ann.o (Ann.m (99 : Nat) Ann.o Ann.o)) Ann.o) Ann.o))
            Ann.o)
          Ann.o))
      (Ann.m (16 : Nat) Ann.o (Ann.m (16 : Nat) Ann.o Ann.o))))
def ann47 : Ann := Ann.m (71 : Nat) Ann.o
  (Ann.m (327 : Nat) Ann.o
    (Ann.m (321 : Nat)
      (Ann.m (29360453 : Nat) Ann.o
        (Ann.m (321 : Nat)
          (Ann.m (29360453 : Nat)
            (Ann.m (62914885 : Nat) Ann.o
              (Ann.m (29360453 : Nat) (Ann.m (29360453 : Nat) Ann.o (Ann.m (321 : Nat) Ann.o Ann.o))
                (Ann.m (29360453 : Nat)
                  (Ann.m (29360453 : Nat) (Ann.m (29361989 : Nat) Ann.o (Ann.m (68748838725 : Nat) Ann.o (Ann.m (29360453 : Nat) Ann.o Ann.o))) Ann.o)
                  Ann.o)))
            Ann.o)
          Ann.o))
      (Ann.m (320 : Nat) (Ann.m (72057594037928256 : Nat) Ann.o (Ann.m (320 : Nat) (Ann.m (192 : Nat) Ann.o (Ann.m (192 : Nat) Ann.o Ann.o)) Ann.o))
        (Ann.m (192 : Nat) Ann.o (Ann.m (192 : Nat) Ann.o Ann.o)))))
def ann21 : Ann := Ann.m (19 : Nat) Ann.o
  (Ann.m (19 : Nat)
    (Ann.m (19 : Nat)
      (Ann.m (4115 : Nat) Ann.o
        (Ann.m (19 : Nat) (Ann.m (48 : Nat) Ann.o (Ann.m (48 : Nat) Ann.o Ann.o))
          (Ann.m (2097171 : Nat) Ann.o
            (Ann.m (19 : Nat)
              (Ann.m (211 : Nat) Ann.o
                (Ann.m (83 : Nat) (Ann.m (1073741907 : Nat) Ann.o (Ann.m (83 : Nat) (Ann.m (48 : Nat) Ann.o (Ann.m (48 : Nat) Ann.o Ann.o)) Ann.o))
                  (Ann.m (48 : Nat) Ann.o (Ann.m (48 : Nat) Ann.o Ann.o))))
              Ann.o))))
      Ann.o)
    (Ann.m (16 : Nat)
      (Ann.m (61572651155475 : Nat) Ann.o
        (Ann.m (16 : Nat)
          (Ann.m (61572651155475 : Nat)
            (Ann.m (131941395333139 : Nat) Ann.o
              (Ann.m (61572651155475 : Nat) (Ann.m (61572651155475 : Nat) Ann.o (Ann.m (16 : Nat) Ann.o Ann.o))
                (Ann.m (61572651155475 : Nat)
                  (Ann.m (61572651155475 : Nat)
                    (Ann.m (61572651155987 : Nat) Ann.o
                      (Ann.m (61572651159059 : Nat) Ann.o
                        (Ann.m (2305904581864850451 : Nat) Ann.o
                          (Ann.m (61572651155475 : Nat) (Ann.m (48 : Nat) Ann.o (Ann.m (48 : Nat) Ann.o Ann.o)) Ann.o))))
                    Ann.o)
                  Ann.o)))
            Ann.o)
          Ann.o))
      (Ann.m (48 : Nat) Ann.o (Ann.m (48 : Nat) Ann.o Ann.o))))
def ann19 : Ann := Ann.m (0 : Nat) Ann.o
  (Ann.m (6 : Nat) Ann.o
    (Ann.m (2 : Nat) (Ann.m (131074 : Nat) Ann.o (Ann.m (2 : Nat) (Ann.m (1 : Nat) Ann.o (Ann.m (1 : Nat) Ann.o Ann.o)) Ann.o))
      (Ann.m (2 : Nat)
        (Ann.m (10 : Nat) Ann.o
          (Ann.m (2 : Nat)
            (Ann.m (10 : Nat)
              (Ann.m (10 : Nat) (Ann.m (524298 : Nat) Ann.o (Ann.m (10 : Nat) Ann.o (Ann.m (2 : Nat) Ann.o Ann.o)))
                (Ann.m (10 : Nat)
                  (Ann.m (10 : Nat)
                    (Ann.m (58 : Nat) Ann.o
                      (Ann.m (17179869194 : Nat) Ann.o (Ann.m (10 : Nat) (Ann.m (1 : Nat) Ann.o (Ann.m (1 : Nat) Ann.o Ann.o)) Ann.o)))
                    Ann.o)
                  Ann.o))
              Ann.o)
            Ann.o))
        (Ann.m (194 : Nat) Ann.o (Ann.m (1 : Nat) Ann.o (Ann.m (1 : Nat) Ann.o Ann.o))))))
def ann44 : Ann := Ann.m (0 : Nat) Ann.o (Ann.m (1 : Nat) Ann.o (Ann.m (1 : Nat) Ann.o Ann.o))
def ann7 : Ann := Ann.m (2 : Nat) Ann.o
  (Ann.m (10 : Nat) Ann.o
    (Ann.m (58 : Nat) Ann.o
      (Ann.m (186 : Nat) Ann.o
        (Ann.m (698 : Nat) Ann.o
          (Ann.m (4794 : Nat) Ann.o
            (Ann.m (12986 : Nat) Ann.o
              (Ann.m (12986 : Nat)
                (Ann.m (2305843009213706938 : Nat) Ann.o
                  (Ann.m (12986 : Nat) Ann.o
                    (Ann.m (36893488147419116218 : Nat) Ann.o
                      (Ann.m (12986 : Nat) Ann.o (Ann.m (590295810358705664698 : Nat) Ann.o (Ann.m (12986 : Nat) Ann.o Ann.o))))))
                (Ann.m (4 : Nat) Ann.o (Ann.m (4 : Nat) Ann.o Ann.o)))))))))
def ann6 : Ann := Ann.m (42 : Nat) Ann.o
  (Ann.m (418 : Nat) Ann.o
    (Ann.m (162 : Nat) (Ann.m (140737488355746 : Nat) Ann.o (Ann.m (162 : Nat) (Ann.m (64 : Nat) Ann.o (Ann.m (64 : Nat) Ann.o Ann.o)) Ann.o))
      (Ann.m (160 : Nat)
        (Ann.m (1008806316530991264 : Nat) Ann.o
          (Ann.m (160 : Nat)
            (Ann.m (1008806316530991264 : Nat)
              (Ann.m (2161727821137838240 : Nat) Ann.o
                (Ann.m (1008806316530991264 : Nat) (Ann.m (1008806316530991264 : Nat) Ann.o (Ann.m (160 : Nat) Ann.o Ann.o))
                  (Ann.m (1008806316530991264 : Nat) (Ann.m (1008806316530991264 : Nat) (Ann.m (1008806316530992288 : Nat) Ann.o Ann.o) Ann.o)
                    Ann.o)))
              Ann.o)
            Ann.o))
        (Ann.m (14496 : Nat) Ann.o
          (Ann.m (63648 : Nat) Ann.o
            (Ann.m (129184 : Nat) Ann.o
              (Ann.m (522400 : Nat) Ann.o
                (Ann.m (196768 : Nat)
                  (Ann.m (5192296858534827628530496329480352 : Nat) Ann.o
                    (Ann.m (196768 : Nat)
                      (Ann.m (1833120 : Nat) Ann.o (Ann.m (16513184 : Nat) Ann.o (Ann.m (64 : Nat) Ann.o (Ann.m (64 : Nat) Ann.o Ann.o)))) Ann.o))
                  (Ann.m (117637280 : Nat) Ann.o (Ann.m (64 : Nat) Ann.o (Ann.m (64 : Nat) Ann.o Ann.o)))))))))))
def ann8 : Ann := Ann.m (6 : Nat) Ann.o
  (Ann.m (102 : Nat) Ann.o
    (Ann.m (38 : Nat) (Ann.m (274877907046 : Nat) Ann.o (Ann.m (38 : Nat) (Ann.m (16 : Nat) Ann.o (Ann.m (16 : Nat) Ann.o Ann.o)) Ann.o))
      (Ann.m (36 : Nat)
        (Ann.m (1970324836974628 : Nat) Ann.o
          (Ann.m (36 : Nat)
            (Ann.m (1970324836974628 : Nat)
              (Ann.m (4222124650659876 : Nat) Ann.o
                (Ann.m (1970324836974628 : Nat) (Ann.m (1970324836974628 : Nat) Ann.o (Ann.m (36 : Nat) Ann.o Ann.o))
                  (Ann.m (1970324836974628 : Nat) (Ann.m (1970324836974628 : Nat) (Ann.m (1970324836974884 : Nat) Ann.o Ann.o) Ann.o) Ann.o)))
              Ann.o)
            Ann.o))
        (Ann.m (0 : Nat)
          (Ann.m (548 : Nat) Ann.o
            (Ann.m (0 : Nat)
              (Ann.m (548 : Nat)
                (Ann.m (548 : Nat) (Ann.m (73786976294838207012 : Nat) Ann.o (Ann.m (548 : Nat) Ann.o (Ann.m (0 : Nat) Ann.o Ann.o)))
                  (Ann.m (548 : Nat)
                    (Ann.m (548 : Nat)
                      (Ann.m (3620 : Nat) Ann.o
                        (Ann.m (1572 : Nat) (Ann.m (75557863725914323420708 : Nat) Ann.o (Ann.m (1572 : Nat) (Ann.m (548 : Nat) Ann.o Ann.o) Ann.o))
                          (Ann.m (5668 : Nat) Ann.o
                            (Ann.m (5668 : Nat)
                              (Ann.m (2115620184325601055741476 : Nat) Ann.o
                                (Ann.m (5668 : Nat)
                                  (Ann.m (2115620184325601055741476 : Nat)
                                    (Ann.m (4533471823554859405153828 : Nat) Ann.o
                                      (Ann.m (2115620184325601055741476 : Nat)
                                        (Ann.m (2115620184325601055741476 : Nat) Ann.o (Ann.m (5668 : Nat) Ann.o Ann.o))
                                        (Ann.m (2115620184325601055741476 : Nat)
                                          (Ann.m (2115620184325601055741476 : Nat)
                                            (Ann.m (2115620184325601055766052 : Nat) Ann.o
                                              (Ann.m (2115620184325601055995428 : Nat) Ann.o
                                                (Ann.m (2115620184325601055757860 : Nat)
                                                  (Ann.m (10633823966281442603414782083298514468 : Nat) Ann.o
                                                    (Ann.m (2115620184325601055757860 : Nat) (Ann.m (16 : Nat) Ann.o (Ann.m (16 : Nat) Ann.o Ann.o))
                                                      Ann.o))
                                                  Ann.o)))
                                            Ann.o)
                                          Ann.o)))
                                    Ann.o)
                                  Ann.o))
                              (Ann.m (45671926166590716193865151022383844364247892516 : Nat) Ann.o
                                (Ann.m (548 : Nat) (Ann.m (16 : Nat) Ann.o (Ann.m (16 : Nat) Ann.o Ann.o)) Ann.o))))))
                      Ann.o)
                    Ann.o))
                Ann.o)
              Ann.o))
          (Ann.m (16 : Nat) Ann.o (Ann.m (16 : Nat) Ann.o Ann.o))))))
def ann4 : Ann := Ann.m (42 : Nat) Ann.o
  (Ann.m (42 : Nat) (Ann.m (268435498 : Nat) Ann.o (Ann.m (42 : Nat) (Ann.m (64 : Nat) Ann.o (Ann.m (64 : Nat) Ann.o Ann.o)) Ann.o))
    (Ann.m (170 : Nat) Ann.o
      (Ann.m (386 : Nat) Ann.o
        (Ann.m (386 : Nat) (Ann.m (140737488355714 : Nat) Ann.o (Ann.m (386 : Nat) (Ann.m (64 : Nat) Ann.o (Ann.m (64 : Nat) Ann.o Ann.o)) Ann.o))
          (Ann.m (1794 : Nat) Ann.o (Ann.m (7680 : Nat) Ann.o (Ann.m (64 : Nat) Ann.o (Ann.m (64 : Nat) Ann.o Ann.o))))))))
def ann20 : Ann := Ann.m (90 : Nat) Ann.o
  (Ann.m (1626 : Nat) Ann.o
    (Ann.m (602 : Nat) (Ann.m (16777818 : Nat) Ann.o (Ann.m (602 : Nat) (Ann.m (256 : Nat) Ann.o (Ann.m (256 : Nat) Ann.o Ann.o)) Ann.o))
      (Ann.m (512 : Nat)
        (Ann.m (2650 : Nat) Ann.o
          (Ann.m (512 : Nat)
            (Ann.m (2650 : Nat)
              (Ann.m (2650 : Nat) (Ann.m (536873562 : Nat) Ann.o (Ann.m (2650 : Nat) Ann.o (Ann.m (512 : Nat) Ann.o Ann.o)))
                (Ann.m (2650 : Nat)
                  (Ann.m (2650 : Nat)
                    (Ann.m (6746 : Nat) Ann.o
                      (Ann.m (6746 : Nat) (Ann.m (549755820634 : Nat) Ann.o (Ann.m (6746 : Nat) Ann.o Ann.o))
                        (Ann.m (17592186051162 : Nat) Ann.o (Ann.m (2650 : Nat) Ann.o Ann.o))))
                    Ann.o)
                  Ann.o))
              Ann.o)
            Ann.o))
        (Ann.m (256 : Nat) Ann.o (Ann.m (256 : Nat) Ann.o Ann.o)))))
def ann45 : Ann := Ann.m (7 : Nat) Ann.o
  (Ann.m (135 : Nat) Ann.o
    (Ann.m (135 : Nat)
      (Ann.m (391 : Nat) Ann.o
        (Ann.m (135 : Nat)
          (Ann.m (391 : Nat)
            (Ann.m (391 : Nat) (Ann.m (2439 : Nat) Ann.o (Ann.m (391 : Nat) Ann.o (Ann.m (135 : Nat) Ann.o Ann.o)))
              (Ann.m (391 : Nat) (Ann.m (391 : Nat) Ann.o Ann.o) Ann.o))
            Ann.o)
          Ann.o))
      (Ann.m (64 : Nat) Ann.o (Ann.m (64 : Nat) Ann.o Ann.o))))
def ann5 : Ann := Ann.m (6 : Nat) Ann.o
  (Ann.m (102 : Nat) Ann.o
    (Ann.m (482 : Nat) Ann.o
      (Ann.m (418 : Nat) (Ann.m (288230376151712162 : Nat) Ann.o (Ann.m (418 : Nat) (Ann.m (16 : Nat) Ann.o (Ann.m (16 : Nat) Ann.o Ann.o)) Ann.o))
        (Ann.m (162 : Nat)
          (Ann.m (36893488147419103394 : Nat) Ann.o (Ann.m (162 : Nat) (Ann.m (16 : Nat) Ann.o (Ann.m (16 : Nat) Ann.o Ann.o)) Ann.o))
          (Ann.m (0 : Nat)
            (Ann.m (1033017668127734890656 : Nat) Ann.o
              (Ann.m (0 : Nat)
                (Ann.m (1033017668127734890656 : Nat)
                  (Ann.m (2213609288845146194080 : Nat) Ann.o
                    (Ann.m (1033017668127734890656 : Nat) (Ann.m (1033017668127734890656 : Nat) Ann.o (Ann.m (0 : Nat) Ann.o Ann.o))
                      (Ann.m (1033017668127734890656 : Nat)
                        (Ann.m (1033017668127734890656 : Nat)
                          (Ann.m (1033017668127734891680 : Nat) Ann.o
                            (Ann.m (1033017668127734897824 : Nat) Ann.o
                              (Ann.m (1033017668127734922400 : Nat) Ann.o
                                (Ann.m (1033017668127734891680 : Nat)
                                  (Ann.m (162259276830246381059705745179808 : Nat) Ann.o
                                    (Ann.m (1033017668127734891680 : Nat) (Ann.m (16 : Nat) Ann.o (Ann.m (16 : Nat) Ann.o Ann.o)) Ann.o))
                                  (Ann.m (1033017668127734989984 : Nat) Ann.o
                                    (Ann.m (1033017668127735383200 : Nat) Ann.o
                                      (Ann.m (1033017668127734891680 : Nat)
                                        (Ann.m (1361129467683753854886516097854807737504 : Nat) Ann.o
                                          (Ann.m (1033017668127734891680 : Nat) (Ann.m (16 : Nat) Ann.o (Ann.m (16 : Nat) Ann.o Ann.o)) Ann.o))
                                        (Ann.m (1033017668127735415968 : Nat) Ann.o
                                          (Ann.m (1033017668127734890656 : Nat)
                                            (Ann.m (1033017668127735415968 : Nat)
                                              (Ann.m (1033017668127735415968 : Nat)
                                                (Ann.m (5444517870735015416447011387036026799264 : Nat) Ann.o
                                                  (Ann.m (1033017668127735415968 : Nat) Ann.o (Ann.m (1033017668127734890656 : Nat) Ann.o Ann.o)))
                                                (Ann.m (1033017668127735415968 : Nat)
                                                  (Ann.m (1033017668127735415968 : Nat)
                                                    (Ann.m (1033017668127738561696 : Nat) Ann.o
                                                      (Ann.m (1033017668127751144608 : Nat) Ann.o
                                                        (Ann.m (1033017668127868585120 : Nat) Ann.o
                                                          (Ann.m (1033017668128271238304 : Nat) Ann.o
                                                            (Ann.m (401734511064747568885490523085290650631583766113825944241312 : Nat) Ann.o
                                                              (Ann.m (1033017668127735415968 : Nat)
                                                                (Ann.m (16 : Nat) Ann.o (Ann.m (16 : Nat) Ann.o Ann.o)) Ann.o))))))
                                                    Ann.o)
                                                  Ann.o))
                                              Ann.o)
                                            Ann.o)))))))))
                          Ann.o)
                        Ann.o)))
                  Ann.o)
                Ann.o))
            (Ann.m (16 : Nat) Ann.o (Ann.m (16 : Nat) Ann.o Ann.o)))))))
def ann30 : Ann := Ann.m (12 : Nat) Ann.o
  (Ann.m (12 : Nat) (Ann.m (67108876 : Nat) Ann.o (Ann.m (12 : Nat) (Ann.m (16 : Nat) Ann.o (Ann.m (16 : Nat) Ann.o Ann.o)) Ann.o))
    (Ann.m (0 : Nat)
      (Ann.m (1610612748 : Nat) Ann.o
        (Ann.m (0 : Nat)
          (Ann.m (1610612748 : Nat)
            (Ann.m (3758096396 : Nat) Ann.o
              (Ann.m (1610612748 : Nat) (Ann.m (1610612748 : Nat) Ann.o (Ann.m (0 : Nat) Ann.o Ann.o))
                (Ann.m (1610612748 : Nat)
                  (Ann.m (1610612748 : Nat)
                    (Ann.m (1610612780 : Nat) Ann.o
                      (Ann.m (1152921506217459724 : Nat) Ann.o
                        (Ann.m (1610612748 : Nat) (Ann.m (16 : Nat) Ann.o (Ann.m (16 : Nat) Ann.o Ann.o)) Ann.o)))
                    Ann.o)
                  Ann.o)))
            Ann.o)
          Ann.o))
      (Ann.m (16 : Nat) Ann.o (Ann.m (16 : Nat) Ann.o Ann.o))))
def ann23 : Ann := Ann.m (7 : Nat) Ann.o
  (Ann.m (7 : Nat) (Ann.m (2147483655 : Nat) Ann.o (Ann.m (7 : Nat) (Ann.m (192 : Nat) Ann.o (Ann.m (192 : Nat) Ann.o Ann.o)) Ann.o))
    (Ann.m (192 : Nat) Ann.o (Ann.m (192 : Nat) Ann.o Ann.o)))
def ann25 : Ann := Ann.m (9 : Nat) Ann.o
  (Ann.m (9 : Nat) (Ann.m (1073741833 : Nat) Ann.o (Ann.m (9 : Nat) (Ann.m (48 : Nat) Ann.o (Ann.m (48 : Nat) Ann.o Ann.o)) Ann.o))
    (Ann.m (9 : Nat) (Ann.m (17179869193 : Nat) Ann.o (Ann.m (9 : Nat) (Ann.m (48 : Nat) Ann.o (Ann.m (48 : Nat) Ann.o Ann.o)) Ann.o))
      (Ann.m (9 : Nat) (Ann.m (274877906953 : Nat) Ann.o (Ann.m (9 : Nat) (Ann.m (48 : Nat) Ann.o (Ann.m (48 : Nat) Ann.o Ann.o)) Ann.o))
        (Ann.m (137 : Nat) Ann.o
          (Ann.m (9 : Nat) (Ann.m (281474976710665 : Nat) Ann.o (Ann.m (9 : Nat) (Ann.m (48 : Nat) Ann.o (Ann.m (48 : Nat) Ann.o Ann.o)) Ann.o))
            (Ann.m (0 : Nat) Ann.o (Ann.m (48 : Nat) Ann.o (Ann.m (48 : Nat) Ann.o Ann.o))))))))
def ann27 : Ann := Ann.m (71 : Nat) Ann.o
  (Ann.m (64 : Nat)
    (Ann.m (57414 : Nat) Ann.o
      (Ann.m (64 : Nat)
        (Ann.m (57414 : Nat)
          (Ann.m (122950 : Nat) Ann.o
            (Ann.m (57414 : Nat) (Ann.m (57414 : Nat) Ann.o (Ann.m (64 : Nat) Ann.o Ann.o))
              (Ann.m (57414 : Nat)
                (Ann.m (57414 : Nat)
                  (Ann.m (57926 : Nat) Ann.o
                    (Ann.m (268493382 : Nat) Ann.o (Ann.m (57414 : Nat) (Ann.m (192 : Nat) Ann.o (Ann.m (192 : Nat) Ann.o Ann.o)) Ann.o)))
                  Ann.o)
                Ann.o)))
          Ann.o)
        Ann.o))
    (Ann.m (192 : Nat) Ann.o (Ann.m (192 : Nat) Ann.o Ann.o)))
def ann28 : Ann := Ann.m (19 : Nat) Ann.o
  (Ann.m (16 : Nat)
    (Ann.m (28691 : Nat) Ann.o
      (Ann.m (16 : Nat)
        (Ann.m (28691 : Nat)
          (Ann.m (61459 : Nat) Ann.o
            (Ann.m (28691 : Nat) (Ann.m (28691 : Nat) Ann.o (Ann.m (16 : Nat) Ann.o Ann.o))
              (Ann.m (28691 : Nat)
                (Ann.m (28691 : Nat)
                  (Ann.m (28819 : Nat) Ann.o
                    (Ann.m (28819 : Nat) (Ann.m (17179898003 : Nat) Ann.o (Ann.m (28819 : Nat) (Ann.m (28691 : Nat) Ann.o Ann.o) Ann.o))
                      (Ann.m (28947 : Nat) Ann.o
                        (Ann.m (562949953450259 : Nat) Ann.o (Ann.m (28691 : Nat) (Ann.m (48 : Nat) Ann.o (Ann.m (48 : Nat) Ann.o Ann.o)) Ann.o)))))
                  Ann.o)
                Ann.o)))
          Ann.o)
        Ann.o))
    (Ann.m (48 : Nat) Ann.o (Ann.m (48 : Nat) Ann.o Ann.o)))
def ann32 : Ann := Ann.m (3 : Nat) Ann.o
  (Ann.m (35 : Nat) Ann.o
    (Ann.m (32 : Nat)
      (Ann.m (14370 : Nat) Ann.o
        (Ann.m (32 : Nat)
          (Ann.m (14370 : Nat)
            (Ann.m (30754 : Nat) Ann.o
              (Ann.m (14370 : Nat) (Ann.m (14370 : Nat) Ann.o (Ann.m (32 : Nat) Ann.o Ann.o))
                (Ann.m (14370 : Nat)
                  (Ann.m (14370 : Nat) (Ann.m (14498 : Nat) Ann.o (Ann.m (1062946 : Nat) Ann.o (Ann.m (14370 : Nat) Ann.o Ann.o))) Ann.o) Ann.o)))
            Ann.o)
          Ann.o))
      (Ann.m (16 : Nat) Ann.o (Ann.m (16 : Nat) Ann.o Ann.o))))
def ann49 : Ann := Ann.m (71 : Nat) Ann.o
  (Ann.m (199 : Nat) Ann.o
    (Ann.m (192 : Nat)
      (Ann.m (455 : Nat) Ann.o
        (Ann.m (192 : Nat)
          (Ann.m (455 : Nat)
            (Ann.m (455 : Nat) (Ann.m (8389063 : Nat) Ann.o (Ann.m (455 : Nat) Ann.o (Ann.m (192 : Nat) Ann.o Ann.o)))
              (Ann.m (455 : Nat)
                (Ann.m (455 : Nat) (Ann.m (1991 : Nat) Ann.o (Ann.m (549755814855 : Nat) Ann.o (Ann.m (455 : Nat) Ann.o Ann.o))) Ann.o) Ann.o))
            Ann.o)
          Ann.o))
      (Ann.m (64 : Nat) Ann.o (Ann.m (64 : Nat) Ann.o Ann.o))))
def ann : FuncId → Ann
  | 22 => ann22
  | 24 => ann24
  | 46 => ann46
  | 48 => ann48
  | 26 => ann26
  | 29 => ann29
  | 31 => ann31
  | 47 => ann47
  | 21 => ann21
  | 19 => ann19
  | 44 => ann44
  | 7 => ann7
  | 6 => ann6
  | 8 => ann8
  | 4 => ann4
  | 20 => ann20
  | 45 => ann45
  | 5 => ann5
  | 30 => ann30
  | 23 => ann23
  | 25 => ann25
  | 27 => ann27
  | 28 => ann28
  | 32 => ann32
  | 49 => ann49
  | _ => .o
end Go.Proofs.Ytmgacgonoodkfaa
