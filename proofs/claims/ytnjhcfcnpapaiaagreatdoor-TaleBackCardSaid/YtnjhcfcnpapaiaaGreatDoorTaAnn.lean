/- What the machine does with each piece of code, in plain text. PRINTED by a program of this workplace; Lean checks it. -/
import Derived.Test.YtnjhcfcnpapaiaaGreatDoorA27
namespace Go.Proofs.YtnjhcfcnpapaiaaGreatDoor
open Go.AM
set_option maxRecDepth 100000
set_option linter.unusedVariables false
def ann14 : Ann := Ann.m (2 : Nat) Ann.o
  (Ann.m (10 : Nat) Ann.o
    (Ann.m (26 : Nat) Ann.o (Ann.m (58 : Nat) Ann.o (Ann.m (24 : Nat) Ann.o (Ann.m (4 : Nat) Ann.o (Ann.m (4 : Nat) Ann.o Ann.o))))))
def ann28 : Ann := Ann.m (21 : Nat) Ann.o (Ann.m (8209 : Nat) Ann.o (Ann.m (0 : Nat) Ann.o Ann.o))
def ann29 : Ann := Ann.m (5 : Nat)
  (Ann.m (14343 : Nat) Ann.o
    (Ann.m (5 : Nat)
      (Ann.m (14343 : Nat)
        (Ann.m (30727 : Nat) Ann.o
          (Ann.m (14343 : Nat) (Ann.m (14343 : Nat) Ann.o (Ann.m (5 : Nat) Ann.o Ann.o))
            (Ann.m (14343 : Nat) (Ann.m (14343 : Nat) (Ann.m (14535 : Nat) Ann.o Ann.o) Ann.o) Ann.o)))
        Ann.o)
      Ann.o))
  (Ann.m (117440516 : Nat) Ann.o
    (Ann.m (0 : Nat)
      (Ann.m (117440516 : Nat)
        (Ann.m (251658244 : Nat) Ann.o
          (Ann.m (117440516 : Nat) (Ann.m (117440516 : Nat) Ann.o (Ann.m (0 : Nat) Ann.o Ann.o))
            (Ann.m (117440516 : Nat) (Ann.m (117440516 : Nat) (Ann.m (117441284 : Nat) Ann.o Ann.o) Ann.o) Ann.o)))
        Ann.o)
      Ann.o))
def ann30 : Ann := Ann.o
def ann31 : Ann := Ann.o
def ann63 : Ann := Ann.m (1 : Nat) Ann.o (Ann.m (4 : Nat) Ann.o (Ann.m (4 : Nat) Ann.o Ann.o))
def ann64 : Ann := Ann.m (1 : Nat) Ann.o (Ann.m (4 : Nat) Ann.o (Ann.m (4 : Nat) Ann.o Ann.o))
def ann18 : Ann := Ann.m (5 : Nat) Ann.o
  (Ann.m (53 : Nat) Ann.o
    (Ann.m (21 : Nat) (Ann.m (262165 : Nat) Ann.o (Ann.m (21 : Nat) (Ann.m (12 : Nat) Ann.o (Ann.m (12 : Nat) Ann.o Ann.o)) Ann.o))
      (Ann.m (85 : Nat) Ann.o (Ann.m (69 : Nat) Ann.o (Ann.m (12 : Nat) Ann.o (Ann.m (12 : Nat) Ann.o Ann.o))))))
def ann36 : Ann := Ann.m (263 : Nat) Ann.o (Ann.m (0 : Nat) Ann.o Ann.o)
def ann37 : Ann := Ann.m (263 : Nat) Ann.o (Ann.m (0 : Nat) Ann.o Ann.o)
def ann7 : Ann := Ann.m (2 : Nat) Ann.o
  (Ann.m (2 : Nat) (Ann.m (16386 : Nat) Ann.o (Ann.m (2 : Nat) (Ann.m (12 : Nat) Ann.o (Ann.m (12 : Nat) Ann.o Ann.o)) Ann.o))
    (Ann.m (18 : Nat) Ann.o
      (Ann.m (16 : Nat)
        (Ann.m (3670032 : Nat) Ann.o
          (Ann.m (16 : Nat)
            (Ann.m (3670032 : Nat)
              (Ann.m (7864336 : Nat) Ann.o
                (Ann.m (3670032 : Nat) (Ann.m (3670032 : Nat) Ann.o (Ann.m (16 : Nat) Ann.o Ann.o))
                  (Ann.m (3670032 : Nat) (Ann.m (3670032 : Nat) (Ann.m (3670096 : Nat) Ann.o Ann.o) Ann.o) Ann.o)))
              Ann.o)
            Ann.o))
        (Ann.m (12 : Nat) Ann.o (Ann.m (12 : Nat) Ann.o Ann.o)))))
def ann12 : Ann := Ann.m (2 : Nat) Ann.o (Ann.m (4 : Nat) Ann.o (Ann.m (4 : Nat) Ann.o Ann.o))
def ann13 : Ann := Ann.m (2 : Nat) Ann.o
  (Ann.m (10 : Nat) Ann.o
    (Ann.m (8 : Nat)
      (Ann.m (29360136 : Nat) Ann.o
        (Ann.m (8 : Nat)
          (Ann.m (29360136 : Nat)
            (Ann.m (62914568 : Nat) Ann.o
              (Ann.m (29360136 : Nat) (Ann.m (29360136 : Nat) Ann.o (Ann.m (8 : Nat) Ann.o Ann.o))
                (Ann.m (29360136 : Nat) (Ann.m (29360136 : Nat) (Ann.m (29360168 : Nat) Ann.o Ann.o) Ann.o) Ann.o)))
            Ann.o)
          Ann.o))
      (Ann.m (4 : Nat) Ann.o (Ann.m (4 : Nat) Ann.o Ann.o))))
def ann8 : Ann := Ann.m (5 : Nat) Ann.o
  (Ann.m (100 : Nat) Ann.o
    (Ann.m (36 : Nat) (Ann.m (16777252 : Nat) Ann.o (Ann.m (36 : Nat) (Ann.m (28 : Nat) Ann.o (Ann.m (28 : Nat) Ann.o Ann.o)) Ann.o))
      (Ann.m (420 : Nat) Ann.o
        (Ann.m (164 : Nat) (Ann.m (17179869348 : Nat) Ann.o (Ann.m (164 : Nat) (Ann.m (28 : Nat) Ann.o (Ann.m (28 : Nat) Ann.o Ann.o)) Ann.o))
          (Ann.m (132 : Nat)
            (Ann.m (962072674436 : Nat) Ann.o
              (Ann.m (132 : Nat)
                (Ann.m (962072674436 : Nat)
                  (Ann.m (2061584302212 : Nat) Ann.o
                    (Ann.m (962072674436 : Nat) (Ann.m (962072674436 : Nat) Ann.o (Ann.m (132 : Nat) Ann.o Ann.o))
                      (Ann.m (962072674436 : Nat)
                        (Ann.m (962072674436 : Nat)
                          (Ann.m (962072675972 : Nat) Ann.o
                            (Ann.m (962072675972 : Nat)
                              (Ann.m (36146444764804 : Nat) Ann.o
                                (Ann.m (962072675972 : Nat) (Ann.m (28 : Nat) Ann.o (Ann.m (28 : Nat) Ann.o Ann.o)) Ann.o))
                              (Ann.m (962072681092 : Nat) Ann.o
                                (Ann.m (962072676484 : Nat)
                                  (Ann.m (36029759091640964 : Nat) Ann.o
                                    (Ann.m (962072676484 : Nat) (Ann.m (28 : Nat) Ann.o (Ann.m (28 : Nat) Ann.o Ann.o)) Ann.o))
                                  Ann.o))))
                          Ann.o)
                        Ann.o)))
                  Ann.o)
                Ann.o))
            (Ann.m (28 : Nat) Ann.o (Ann.m (28 : Nat) Ann.o Ann.o)))))))
def ann17 : Ann := Ann.m (5 : Nat) Ann.o
  (Ann.m (53 : Nat) Ann.o
    (Ann.m (21 : Nat) (Ann.m (16777237 : Nat) Ann.o (Ann.m (21 : Nat) (Ann.m (12 : Nat) Ann.o (Ann.m (12 : Nat) Ann.o Ann.o)) Ann.o))
      (Ann.m (85 : Nat) Ann.o
        (Ann.m (85 : Nat)
          (Ann.m (30064771157 : Nat) Ann.o
            (Ann.m (85 : Nat)
              (Ann.m (30064771157 : Nat)
                (Ann.m (64424509525 : Nat) Ann.o
                  (Ann.m (30064771157 : Nat) (Ann.m (30064771157 : Nat) Ann.o (Ann.m (85 : Nat) Ann.o Ann.o))
                    (Ann.m (30064771157 : Nat) (Ann.m (30064771157 : Nat) (Ann.m (30064771541 : Nat) Ann.o Ann.o) Ann.o) Ann.o)))
                Ann.o)
              Ann.o))
          (Ann.m (85 : Nat) Ann.o
            (Ann.m (69 : Nat)
              (Ann.m (252201579132747845 : Nat) Ann.o
                (Ann.m (69 : Nat)
                  (Ann.m (252201579132747845 : Nat)
                    (Ann.m (540431955284459589 : Nat) Ann.o
                      (Ann.m (252201579132747845 : Nat) (Ann.m (252201579132747845 : Nat) Ann.o (Ann.m (69 : Nat) Ann.o Ann.o))
                        (Ann.m (252201579132747845 : Nat)
                          (Ann.m (252201579132747845 : Nat) (Ann.m (252201579132748869 : Nat) Ann.o (Ann.m (252201579132749893 : Nat) Ann.o Ann.o))
                            Ann.o)
                          Ann.o)))
                    Ann.o)
                  Ann.o))
              (Ann.m (12 : Nat) Ann.o (Ann.m (12 : Nat) Ann.o Ann.o))))))))
def ann4 : Ann := Ann.m (2 : Nat) Ann.o
  (Ann.m (2 : Nat) (Ann.m (33554434 : Nat) Ann.o (Ann.m (2 : Nat) (Ann.m (4 : Nat) Ann.o (Ann.m (4 : Nat) Ann.o Ann.o)) Ann.o))
    (Ann.m (26 : Nat) Ann.o (Ann.m (242 : Nat) Ann.o (Ann.m (4 : Nat) Ann.o (Ann.m (4 : Nat) Ann.o Ann.o)))))
def ann3 : Ann := Ann.m (6 : Nat) Ann.o
  (Ann.m (6 : Nat) (Ann.m (2097158 : Nat) Ann.o (Ann.m (6 : Nat) (Ann.m (16 : Nat) Ann.o (Ann.m (16 : Nat) Ann.o Ann.o)) Ann.o))
    (Ann.m (102 : Nat) Ann.o
      (Ann.m (2 : Nat)
        (Ann.m (536870950 : Nat) Ann.o
          (Ann.m (2 : Nat)
            (Ann.m (902 : Nat) Ann.o
              (Ann.m (562949953421314 : Nat) Ann.o (Ann.m (2 : Nat) (Ann.m (16 : Nat) Ann.o (Ann.m (16 : Nat) Ann.o Ann.o)) Ann.o)))
            Ann.o))
        (Ann.m (5122 : Nat) Ann.o
          (Ann.m (1026 : Nat)
            (Ann.m (144115188075856898 : Nat) Ann.o (Ann.m (1026 : Nat) (Ann.m (16 : Nat) Ann.o (Ann.m (16 : Nat) Ann.o Ann.o)) Ann.o))
            (Ann.m (24578 : Nat) Ann.o (Ann.m (16 : Nat) Ann.o (Ann.m (16 : Nat) Ann.o Ann.o))))))))
def ann5 : Ann := Ann.m (2 : Nat) Ann.o
  (Ann.m (10 : Nat) Ann.o
    (Ann.m (2 : Nat)
      (Ann.m (7178 : Nat) Ann.o
        (Ann.m (2 : Nat)
          (Ann.m (7178 : Nat)
            (Ann.m (15370 : Nat) Ann.o
              (Ann.m (7178 : Nat) (Ann.m (7178 : Nat) Ann.o (Ann.m (2 : Nat) Ann.o Ann.o))
                (Ann.m (7178 : Nat)
                  (Ann.m (7178 : Nat)
                    (Ann.m (7210 : Nat) Ann.o
                      (Ann.m (7178 : Nat) Ann.o
                        (Ann.m (17179876362 : Nat) Ann.o (Ann.m (7178 : Nat) (Ann.m (4 : Nat) Ann.o (Ann.m (4 : Nat) Ann.o Ann.o)) Ann.o))))
                    Ann.o)
                  Ann.o)))
            Ann.o)
          Ann.o))
      (Ann.m (4 : Nat) Ann.o (Ann.m (4 : Nat) Ann.o Ann.o))))
def ann9 : Ann := Ann.m (12 : Nat) Ann.o
  (Ann.m (12 : Nat) (Ann.m (281474976710668 : Nat) Ann.o (Ann.m (12 : Nat) (Ann.m (16 : Nat) Ann.o (Ann.m (16 : Nat) Ann.o Ann.o)) Ann.o))
    (Ann.m (0 : Nat)
      (Ann.m (6755399441055756 : Nat) Ann.o
        (Ann.m (0 : Nat)
          (Ann.m (6755399441055756 : Nat)
            (Ann.m (15762598695796748 : Nat) Ann.o
              (Ann.m (6755399441055756 : Nat) (Ann.m (6755399441055756 : Nat) Ann.o (Ann.m (0 : Nat) Ann.o Ann.o))
                (Ann.m (6755399441055756 : Nat)
                  (Ann.m (6755399441055756 : Nat)
                    (Ann.m (6755399441055788 : Nat) Ann.o
                      (Ann.m (36900243546860158988 : Nat) Ann.o
                        (Ann.m (6755399441055756 : Nat) (Ann.m (16 : Nat) Ann.o (Ann.m (16 : Nat) Ann.o Ann.o)) Ann.o)))
                    Ann.o)
                  Ann.o)))
            Ann.o)
          Ann.o))
      (Ann.m (16 : Nat) Ann.o (Ann.m (16 : Nat) Ann.o Ann.o))))
def ann10 : Ann := Ann.m (6 : Nat) Ann.o (Ann.m (4 : Nat) Ann.o (Ann.m (4 : Nat) Ann.o Ann.o))
def ann19 : Ann := Ann.m (3 : Nat) Ann.o
  (Ann.m (3 : Nat)
    (Ann.m (387 : Nat) Ann.o
      (Ann.m (3 : Nat)
        (Ann.m (387 : Nat)
          (Ann.m (899 : Nat) Ann.o
            (Ann.m (387 : Nat) (Ann.m (387 : Nat) Ann.o (Ann.m (3 : Nat) Ann.o Ann.o))
              (Ann.m (387 : Nat)
                (Ann.m (387 : Nat)
                  (Ann.m (419 : Nat) Ann.o
                    (Ann.m (33554819 : Nat) Ann.o (Ann.m (387 : Nat) (Ann.m (16 : Nat) Ann.o (Ann.m (16 : Nat) Ann.o Ann.o)) Ann.o)))
                  Ann.o)
                Ann.o)))
          Ann.o)
        Ann.o))
    (Ann.m (16 : Nat) Ann.o (Ann.m (16 : Nat) Ann.o Ann.o)))
def ann : FuncId → Ann
  | 14 => ann14
  | 28 => ann28
  | 29 => ann29
  | 30 => ann30
  | 31 => ann31
  | 63 => ann63
  | 64 => ann64
  | 18 => ann18
  | 36 => ann36
  | 37 => ann37
  | 7 => ann7
  | 12 => ann12
  | 13 => ann13
  | 8 => ann8
  | 17 => ann17
  | 4 => ann4
  | 3 => ann3
  | 5 => ann5
  | 9 => ann9
  | 10 => ann10
  | 19 => ann19
  | _ => .o
end Go.Proofs.YtnjhcfcnpapaiaaGreatDoor
