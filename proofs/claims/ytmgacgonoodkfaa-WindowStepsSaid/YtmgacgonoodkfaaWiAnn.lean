/- What the machine does with each piece of code, in plain text. PRINTED by a program of this workplace; Lean checks it. -/
import Derived.Test.YtmgacgonoodkfaaA27
namespace Go.Proofs.Ytmgacgonoodkfaa
open Go.AM
set_option maxRecDepth 100000
set_option linter.unusedVariables false
def ann13 : Ann := Ann.m (3 : Nat) Ann.o
  (Ann.m (3 : Nat) (Ann.m (524291 : Nat) Ann.o (Ann.m (3 : Nat) (Ann.m (48 : Nat) Ann.o (Ann.m (48 : Nat) Ann.o Ann.o)) Ann.o))
    (Ann.m (48 : Nat) Ann.o (Ann.m (48 : Nat) Ann.o Ann.o)))
def ann16 : Ann := Ann.m (3 : Nat) Ann.o (Ann.m (16 : Nat) Ann.o (Ann.m (16 : Nat) Ann.o Ann.o))
def ann18 : Ann := Ann.m (1 : Nat) Ann.o
  (Ann.m (1 : Nat) (Ann.m (17 : Nat) Ann.o (Ann.m (1 : Nat) (Ann.m (4 : Nat) Ann.o (Ann.m (4 : Nat) Ann.o Ann.o)) Ann.o))
    (Ann.m (4 : Nat) Ann.o (Ann.m (4 : Nat) Ann.o Ann.o)))
def ann39 : Ann := Ann.m (1 : Nat) Ann.o
  (Ann.m (1 : Nat) (Ann.m (17 : Nat) Ann.o (Ann.m (1 : Nat) (Ann.m (4 : Nat) Ann.o (Ann.m (4 : Nat) Ann.o Ann.o)) Ann.o))
    (Ann.m (4 : Nat) Ann.o (Ann.m (4 : Nat) Ann.o Ann.o)))
def ann43 : Ann := Ann.m (7 : Nat) Ann.o
  (Ann.m (0 : Nat)
    (Ann.m (0 : Nat)
      (Ann.m (133 : Nat) Ann.o
        (Ann.m (0 : Nat) (Ann.m (64 : Nat) Ann.o (Ann.m (64 : Nat) Ann.o Ann.o))
          (Ann.m (16389 : Nat) Ann.o
            (Ann.m (0 : Nat) (Ann.m (64 : Nat) Ann.o (Ann.m (64 : Nat) Ann.o Ann.o))
              (Ann.m (131072 : Nat) Ann.o (Ann.m (0 : Nat) (Ann.m (64 : Nat) Ann.o (Ann.m (64 : Nat) Ann.o Ann.o)) Ann.o))))))
      Ann.o)
    (Ann.m (64 : Nat) Ann.o (Ann.m (64 : Nat) Ann.o Ann.o)))
def ann17 : Ann := Ann.m (7 : Nat) Ann.o
  (Ann.m (7 : Nat)
    (Ann.m (263 : Nat) Ann.o (Ann.m (524551 : Nat) Ann.o (Ann.m (7 : Nat) (Ann.m (192 : Nat) Ann.o (Ann.m (192 : Nat) Ann.o Ann.o)) Ann.o)))
    (Ann.m (515 : Nat) Ann.o
      (Ann.m (515 : Nat)
        (Ann.m (3587 : Nat) Ann.o
          (Ann.m (8589936131 : Nat) Ann.o (Ann.m (515 : Nat) (Ann.m (192 : Nat) Ann.o (Ann.m (192 : Nat) Ann.o Ann.o)) Ann.o)))
        (Ann.m (12801 : Nat) Ann.o
          (Ann.m (12288 : Nat) (Ann.m (72057594037940737 : Nat) Ann.o (Ann.m (12288 : Nat) Ann.o Ann.o))
            (Ann.m (192 : Nat) Ann.o (Ann.m (192 : Nat) Ann.o Ann.o)))))))
def ann33 : Ann := Ann.m (135 : Nat) Ann.o
  (Ann.m (135 : Nat)
    (Ann.m (1159 : Nat) Ann.o (Ann.m (263303 : Nat) Ann.o (Ann.m (135 : Nat) (Ann.m (768 : Nat) Ann.o (Ann.m (768 : Nat) Ann.o Ann.o)) Ann.o)))
    (Ann.m (135 : Nat)
      (Ann.m (6279 : Nat) Ann.o (Ann.m (34359738503 : Nat) Ann.o (Ann.m (135 : Nat) (Ann.m (768 : Nat) Ann.o (Ann.m (768 : Nat) Ann.o Ann.o)) Ann.o)))
      (Ann.m (135 : Nat) Ann.o (Ann.m (0 : Nat) Ann.o (Ann.m (768 : Nat) Ann.o (Ann.m (768 : Nat) Ann.o Ann.o))))))
def ann34 : Ann := Ann.m (35 : Nat) Ann.o
  (Ann.m (35 : Nat) (Ann.m (1059 : Nat) Ann.o (Ann.m (35 : Nat) (Ann.m (112 : Nat) Ann.o (Ann.m (112 : Nat) Ann.o Ann.o)) Ann.o))
    (Ann.m (416 : Nat) Ann.o (Ann.m (416 : Nat) Ann.o (Ann.m (112 : Nat) Ann.o (Ann.m (112 : Nat) Ann.o Ann.o)))))
def ann50 : Ann := Ann.m (1 : Nat) Ann.o
  (Ann.m (1 : Nat) (Ann.m (17 : Nat) Ann.o (Ann.m (1 : Nat) (Ann.m (4 : Nat) Ann.o (Ann.m (4 : Nat) Ann.o Ann.o)) Ann.o))
    (Ann.m (4 : Nat) Ann.o (Ann.m (4 : Nat) Ann.o Ann.o)))
def ann14 : Ann := Ann.m (9 : Nat) Ann.o
  (Ann.m (9 : Nat)
    (Ann.m (9 : Nat)
      (Ann.m (137 : Nat) Ann.o
        (Ann.m (9 : Nat) (Ann.m (48 : Nat) Ann.o (Ann.m (48 : Nat) Ann.o Ann.o))
          (Ann.m (16393 : Nat) Ann.o
            (Ann.m (9 : Nat) (Ann.m (48 : Nat) Ann.o (Ann.m (48 : Nat) Ann.o Ann.o))
              (Ann.m (131081 : Nat) Ann.o (Ann.m (9 : Nat) (Ann.m (48 : Nat) Ann.o (Ann.m (48 : Nat) Ann.o Ann.o)) Ann.o))))))
      Ann.o)
    (Ann.m (9 : Nat) Ann.o
      (Ann.m (9 : Nat) Ann.o
        (Ann.m (0 : Nat)
          (Ann.m (274877906953 : Nat) Ann.o
            (Ann.m (0 : Nat)
              (Ann.m (274877906953 : Nat)
                (Ann.m (1374389534729 : Nat) Ann.o
                  (Ann.m (274877906953 : Nat) (Ann.m (274877906953 : Nat) Ann.o (Ann.m (0 : Nat) Ann.o Ann.o))
                    (Ann.m (274877906953 : Nat)
                      (Ann.m (274877907017 : Nat) Ann.o (Ann.m (35459249995849 : Nat) Ann.o (Ann.m (274877906953 : Nat) Ann.o Ann.o))) Ann.o)))
                Ann.o)
              Ann.o))
          (Ann.m (48 : Nat) Ann.o (Ann.m (48 : Nat) Ann.o Ann.o))))))
def ann41 : Ann := Ann.m (131 : Nat) Ann.o
  (Ann.m (0 : Nat)
    (Ann.m (131 : Nat)
      (Ann.m (643 : Nat) Ann.o
        (Ann.m (131 : Nat) (Ann.m (131 : Nat) Ann.o (Ann.m (0 : Nat) Ann.o Ann.o))
          (Ann.m (131 : Nat) (Ann.m (179 : Nat) Ann.o (Ann.m (65683 : Nat) Ann.o (Ann.m (131 : Nat) Ann.o Ann.o))) Ann.o)))
      Ann.o)
    Ann.o)
def ann42 : Ann := Ann.m (12 : Nat) Ann.o (Ann.m (32 : Nat) Ann.o (Ann.m (32 : Nat) Ann.o Ann.o))
def ann40 : Ann := Ann.m (9 : Nat) Ann.o
  (Ann.m (9 : Nat) (Ann.m (137 : Nat) Ann.o (Ann.m (9 : Nat) (Ann.m (16 : Nat) Ann.o (Ann.m (16 : Nat) Ann.o Ann.o)) Ann.o))
    (Ann.m (41 : Nat) Ann.o (Ann.m (33 : Nat) Ann.o (Ann.m (16 : Nat) Ann.o (Ann.m (16 : Nat) Ann.o Ann.o)))))
def ann55 : Ann := Ann.m (12 : Nat) Ann.o (Ann.m (32 : Nat) Ann.o (Ann.m (32 : Nat) Ann.o Ann.o))
def ann15 : Ann := Ann.m (0 : Nat) Ann.o
  (Ann.m (6 : Nat) Ann.o
    (Ann.m (2 : Nat) (Ann.m (4194306 : Nat) Ann.o (Ann.m (2 : Nat) (Ann.m (1 : Nat) Ann.o (Ann.m (1 : Nat) Ann.o Ann.o)) Ann.o))
      (Ann.m (26 : Nat) Ann.o
        (Ann.m (90 : Nat) Ann.o
          (Ann.m (474 : Nat) Ann.o (Ann.m (1498 : Nat) Ann.o (Ann.m (7642 : Nat) Ann.o (Ann.m (1 : Nat) Ann.o (Ann.m (1 : Nat) Ann.o Ann.o)))))))))
def ann22 : Ann := Ann.m (7 : Nat) Ann.o
  (Ann.m (7 : Nat) (Ann.m (8589934599 : Nat) Ann.o (Ann.m (7 : Nat) (Ann.m (192 : Nat) Ann.o (Ann.m (192 : Nat) Ann.o Ann.o)) Ann.o))
    (Ann.m (258 : Nat) Ann.o
      (Ann.m (256 : Nat)
        (Ann.m (549755814146 : Nat) Ann.o
          (Ann.m (256 : Nat)
            (Ann.m (549755814146 : Nat)
              (Ann.m (1649267441922 : Nat) Ann.o
                (Ann.m (549755814146 : Nat) (Ann.m (549755814146 : Nat) Ann.o (Ann.m (256 : Nat) Ann.o Ann.o))
                  (Ann.m (549755814146 : Nat) (Ann.m (549755814146 : Nat) (Ann.m (549755814658 : Nat) Ann.o Ann.o) Ann.o) Ann.o)))
              Ann.o)
            Ann.o))
        (Ann.m (192 : Nat) Ann.o (Ann.m (192 : Nat) Ann.o Ann.o)))))
def ann24 : Ann := Ann.m (31 : Nat) Ann.o
  (Ann.m (31 : Nat)
    (Ann.m (31 : Nat)
      (Ann.m (4127 : Nat) Ann.o
        (Ann.m (31 : Nat) (Ann.m (3072 : Nat) Ann.o (Ann.m (3072 : Nat) Ann.o Ann.o))
          (Ann.m (8589934623 : Nat) Ann.o
            (Ann.m (31 : Nat) (Ann.m (3072 : Nat) Ann.o (Ann.m (3072 : Nat) Ann.o Ann.o))
              (Ann.m (137438953503 : Nat) Ann.o
                (Ann.m (31 : Nat) (Ann.m (3072 : Nat) Ann.o (Ann.m (3072 : Nat) Ann.o Ann.o))
                  (Ann.m (2199023255583 : Nat) Ann.o
                    (Ann.m (31 : Nat) (Ann.m (3072 : Nat) Ann.o (Ann.m (3072 : Nat) Ann.o Ann.o))
                      (Ann.m (17592186044447 : Nat) Ann.o
                        (Ann.m (31 : Nat) (Ann.m (3072 : Nat) Ann.o (Ann.m (3072 : Nat) Ann.o Ann.o)) Ann.o))))))))))
      Ann.o)
    (Ann.m (0 : Nat) Ann.o (Ann.m (3072 : Nat) Ann.o (Ann.m (3072 : Nat) Ann.o Ann.o))))
def ann26 : Ann := Ann.m (1 : Nat) Ann.o
  (Ann.m (1 : Nat) (Ann.m (65 : Nat) Ann.o (Ann.m (1 : Nat) (Ann.m (12 : Nat) Ann.o (Ann.m (12 : Nat) Ann.o Ann.o)) Ann.o))
    (Ann.m (16 : Nat) Ann.o (Ann.m (12 : Nat) Ann.o (Ann.m (12 : Nat) Ann.o Ann.o))))
def ann31 : Ann := Ann.m (3 : Nat) Ann.o
  (Ann.m (35 : Nat) Ann.o
    (Ann.m (32 : Nat)
      (Ann.m (99 : Nat) Ann.o
        (Ann.m (32 : Nat)
          (Ann.m (99 : Nat)
            (Ann.m (99 : Nat) (Ann.m (131171 : Nat) Ann.o (Ann.m (99 : Nat) Ann.o (Ann.m (32 : Nat) Ann.o Ann.o)))
              (Ann.m (99 : Nat) (Ann.m (99 : Nat) (Ann.m (16777315 : Nat) Ann.o (Ann.m (99 : Nat) Ann.o Ann.o)) Ann.o) Ann.o))
            Ann.o)
          Ann.o))
      (Ann.m (16 : Nat) Ann.o (Ann.m (16 : Nat) Ann.o Ann.o))))
def ann46 : Ann := Ann.m (1 : Nat) Ann.o (Ann.m (4 : Nat) Ann.o (Ann.m (4 : Nat) Ann.o Ann.o))
def ann48 : Ann := Ann.m (71 : Nat) Ann.o
  (Ann.m (71 : Nat) (Ann.m (268435527 : Nat) Ann.o (Ann.m (71 : Nat) (Ann.m (64 : Nat) Ann.o (Ann.m (64 : Nat) Ann.o Ann.o)) Ann.o))
    (Ann.m (64 : Nat) Ann.o (Ann.m (64 : Nat) Ann.o Ann.o)))
def ann35 : Ann := Ann.m (3 : Nat) Ann.o (Ann.m (16 : Nat) Ann.o (Ann.m (16 : Nat) Ann.o Ann.o))
def ann36 : Ann := Ann.m (35 : Nat) Ann.o
  (Ann.m (0 : Nat)
    (Ann.m (524323 : Nat) Ann.o
      (Ann.m (0 : Nat)
        (Ann.m (1572899 : Nat) (Ann.m (1572899 : Nat) Ann.o (Ann.m (1572899 : Nat) Ann.o Ann.o))
          (Ann.m (0 : Nat) (Ann.m (418 : Nat) Ann.o (Ann.m (896 : Nat) Ann.o (Ann.m (64 : Nat) Ann.o (Ann.m (64 : Nat) Ann.o Ann.o))))
            (Ann.m (281474977234979 : Nat) Ann.o
              (Ann.m (0 : Nat) (Ann.m (3106 : Nat) Ann.o (Ann.m (15360 : Nat) Ann.o (Ann.m (64 : Nat) Ann.o (Ann.m (64 : Nat) Ann.o Ann.o))))
                (Ann.m (2417851639229258349936675 : Nat) Ann.o
                  (Ann.m (0 : Nat) (Ann.m (49186 : Nat) Ann.o (Ann.m (245760 : Nat) Ann.o (Ann.m (64 : Nat) Ann.o (Ann.m (64 : Nat) Ann.o Ann.o))))
                    (Ann.m (40564819207303340847894502572067 : Nat) Ann.o
                      (Ann.m (0 : Nat) (Ann.m (64 : Nat) Ann.o (Ann.m (64 : Nat) Ann.o Ann.o)) Ann.o))))))))
        Ann.o))
    (Ann.m (64 : Nat) Ann.o (Ann.m (64 : Nat) Ann.o Ann.o)))
def ann37 : Ann := Ann.m (19 : Nat) Ann.o
  (Ann.m (16 : Nat)
    (Ann.m (14354 : Nat) Ann.o
      (Ann.m (16 : Nat)
        (Ann.m (14354 : Nat)
          (Ann.m (30738 : Nat) Ann.o
            (Ann.m (14354 : Nat) (Ann.m (14354 : Nat) Ann.o (Ann.m (16 : Nat) Ann.o Ann.o))
              (Ann.m (14354 : Nat)
                (Ann.m (14354 : Nat)
                  (Ann.m (14482 : Nat) Ann.o
                    (Ann.m (1063058 : Nat) Ann.o (Ann.m (14354 : Nat) (Ann.m (48 : Nat) Ann.o (Ann.m (48 : Nat) Ann.o Ann.o)) Ann.o)))
                  Ann.o)
                Ann.o)))
          Ann.o)
        Ann.o))
    (Ann.m (48 : Nat) Ann.o (Ann.m (48 : Nat) Ann.o Ann.o)))
def ann38 : Ann := Ann.m (3 : Nat) Ann.o
  (Ann.m (0 : Nat)
    (Ann.m (35 : Nat) Ann.o
      (Ann.m (0 : Nat)
        (Ann.m (35 : Nat)
          (Ann.m (35 : Nat) (Ann.m (163 : Nat) Ann.o (Ann.m (35 : Nat) Ann.o (Ann.m (0 : Nat) Ann.o Ann.o)))
            (Ann.m (35 : Nat)
              (Ann.m (35 : Nat) (Ann.m (131107 : Nat) Ann.o (Ann.m (35 : Nat) (Ann.m (16 : Nat) Ann.o (Ann.m (16 : Nat) Ann.o Ann.o)) Ann.o)) Ann.o)
              Ann.o))
          Ann.o)
        Ann.o))
    (Ann.m (16 : Nat) Ann.o (Ann.m (16 : Nat) Ann.o Ann.o)))
def ann51 : Ann := Ann.m (7 : Nat) Ann.o
  (Ann.m (135 : Nat) Ann.o
    (Ann.m (7 : Nat) (Ann.m (32903 : Nat) Ann.o (Ann.m (7 : Nat) (Ann.m (64 : Nat) Ann.o (Ann.m (64 : Nat) Ann.o Ann.o)) Ann.o))
      (Ann.m (7 : Nat)
        (Ann.m (7340039 : Nat) Ann.o
          (Ann.m (7 : Nat)
            (Ann.m (7340039 : Nat)
              (Ann.m (15728647 : Nat) Ann.o
                (Ann.m (7340039 : Nat) (Ann.m (7340039 : Nat) Ann.o (Ann.m (7 : Nat) Ann.o Ann.o))
                  (Ann.m (7340039 : Nat)
                    (Ann.m (7340039 : Nat)
                      (Ann.m (7340551 : Nat) Ann.o
                        (Ann.m (34367078407 : Nat) Ann.o (Ann.m (7340039 : Nat) (Ann.m (64 : Nat) Ann.o (Ann.m (64 : Nat) Ann.o Ann.o)) Ann.o)))
                      Ann.o)
                    Ann.o)))
              Ann.o)
            Ann.o))
        (Ann.m (0 : Nat) Ann.o (Ann.m (64 : Nat) Ann.o (Ann.m (64 : Nat) Ann.o Ann.o))))))
def ann52 : Ann := Ann.m (15 : Nat) Ann.o
  (Ann.m (1039 : Nat) Ann.o
    (Ann.m (15 : Nat) (Ann.m (2098191 : Nat) Ann.o (Ann.m (15 : Nat) (Ann.m (768 : Nat) Ann.o (Ann.m (768 : Nat) Ann.o Ann.o)) Ann.o))
      (Ann.m (6159 : Nat) Ann.o
        (Ann.m (15 : Nat) (Ann.m (34359738383 : Nat) Ann.o (Ann.m (15 : Nat) (Ann.m (768 : Nat) Ann.o (Ann.m (768 : Nat) Ann.o Ann.o)) Ann.o))
          (Ann.m (8207 : Nat) Ann.o
            (Ann.m (8207 : Nat)
              (Ann.m (3848290705423 : Nat) Ann.o
                (Ann.m (8207 : Nat)
                  (Ann.m (3848290705423 : Nat)
                    (Ann.m (8246337216527 : Nat) Ann.o
                      (Ann.m (3848290705423 : Nat) (Ann.m (3848290705423 : Nat) Ann.o (Ann.m (8207 : Nat) Ann.o Ann.o))
                        (Ann.m (3848290705423 : Nat)
                          (Ann.m (3848290705423 : Nat)
                            (Ann.m (3848290738191 : Nat) Ann.o (Ann.m (285323267448847 : Nat) Ann.o (Ann.m (3848290705423 : Nat) Ann.o Ann.o))) Ann.o)
                          Ann.o)))
                    Ann.o)
                  Ann.o))
              (Ann.m (8193 : Nat) Ann.o (Ann.m (0 : Nat) Ann.o (Ann.m (768 : Nat) Ann.o (Ann.m (768 : Nat) Ann.o Ann.o))))))))))
def ann53 : Ann := Ann.m (3 : Nat) Ann.o
  (Ann.m (3 : Nat) (Ann.m (2051 : Nat) Ann.o (Ann.m (3 : Nat) (Ann.m (48 : Nat) Ann.o (Ann.m (48 : Nat) Ann.o Ann.o)) Ann.o))
    (Ann.m (3 : Nat) (Ann.m (131075 : Nat) Ann.o (Ann.m (3 : Nat) (Ann.m (48 : Nat) Ann.o (Ann.m (48 : Nat) Ann.o Ann.o)) Ann.o))
      (Ann.m (3 : Nat) Ann.o (Ann.m (3 : Nat) Ann.o (Ann.m (0 : Nat) Ann.o (Ann.m (48 : Nat) Ann.o (Ann.m (48 : Nat) Ann.o Ann.o)))))))
def ann54 : Ann := Ann.m (3 : Nat) Ann.o (Ann.m (35 : Nat) Ann.o (Ann.m (33 : Nat) Ann.o (Ann.m (16 : Nat) Ann.o (Ann.m (16 : Nat) Ann.o Ann.o))))
def ann56 : Ann := Ann.m (7 : Nat) Ann.o
  (Ann.m (5 : Nat) (Ann.m (4101 : Nat) Ann.o (Ann.m (5 : Nat) (Ann.m (64 : Nat) Ann.o (Ann.m (64 : Nat) Ann.o Ann.o)) Ann.o))
    (Ann.m (0 : Nat) (Ann.m (65536 : Nat) Ann.o (Ann.m (0 : Nat) (Ann.m (64 : Nat) Ann.o (Ann.m (64 : Nat) Ann.o Ann.o)) Ann.o))
      (Ann.m (64 : Nat) Ann.o (Ann.m (64 : Nat) Ann.o Ann.o))))
def ann57 : Ann := Ann.m (7 : Nat) Ann.o
  (Ann.m (135 : Nat) Ann.o
    (Ann.m (128 : Nat)
      (Ann.m (7302 : Nat) Ann.o
        (Ann.m (128 : Nat)
          (Ann.m (7302 : Nat)
            (Ann.m (15494 : Nat) Ann.o
              (Ann.m (7302 : Nat) (Ann.m (7302 : Nat) Ann.o (Ann.m (128 : Nat) Ann.o Ann.o))
                (Ann.m (7302 : Nat)
                  (Ann.m (7302 : Nat) (Ann.m (7814 : Nat) Ann.o (Ann.m (33562246 : Nat) Ann.o (Ann.m (7302 : Nat) Ann.o Ann.o))) Ann.o) Ann.o)))
            Ann.o)
          Ann.o))
      (Ann.m (64 : Nat) Ann.o (Ann.m (64 : Nat) Ann.o Ann.o))))
def ann3 : Ann := Ann.m (3 : Nat) Ann.o
  (Ann.m (99 : Nat) Ann.o
    (Ann.m (35 : Nat) (Ann.m (4194339 : Nat) Ann.o (Ann.m (35 : Nat) (Ann.m (16 : Nat) Ann.o (Ann.m (16 : Nat) Ann.o Ann.o)) Ann.o))
      (Ann.m (419 : Nat) Ann.o
        (Ann.m (419 : Nat) (Ann.m (17179869603 : Nat) Ann.o (Ann.m (419 : Nat) (Ann.m (16 : Nat) Ann.o (Ann.m (16 : Nat) Ann.o Ann.o)) Ann.o))
          (Ann.m (35 : Nat) (Ann.m (2251799813685283 : Nat) Ann.o (Ann.m (35 : Nat) (Ann.m (16 : Nat) Ann.o (Ann.m (16 : Nat) Ann.o Ann.o)) Ann.o))
            (Ann.m (35 : Nat)
              (Ann.m (547 : Nat) Ann.o
                (Ann.m (35 : Nat)
                  (Ann.m (547 : Nat)
                    (Ann.m (547 : Nat) (Ann.m (9007199254741539 : Nat) Ann.o (Ann.m (547 : Nat) Ann.o (Ann.m (35 : Nat) Ann.o Ann.o)))
                      (Ann.m (547 : Nat)
                        (Ann.m (547 : Nat)
                          (Ann.m (2305843009213694499 : Nat) Ann.o (Ann.m (547 : Nat) (Ann.m (16 : Nat) Ann.o (Ann.m (16 : Nat) Ann.o Ann.o)) Ann.o))
                          Ann.o)
                        Ann.o))
                    Ann.o)
                  Ann.o))
              (Ann.m (1059 : Nat) Ann.o (Ann.m (5155 : Nat) Ann.o (Ann.m (16 : Nat) Ann.o (Ann.m (16 : Nat) Ann.o Ann.o))))))))))
def ann9 : Ann := Ann.m (1 : Nat) Ann.o
  (Ann.m (25 : Nat) Ann.o
    (Ann.m (9 : Nat) (Ann.m (268435481 : Nat) Ann.o (Ann.m (9 : Nat) (Ann.m (4 : Nat) Ann.o (Ann.m (4 : Nat) Ann.o Ann.o)) Ann.o))
      (Ann.m (41 : Nat) Ann.o
        (Ann.m (105 : Nat) Ann.o
          (Ann.m (0 : Nat)
            (Ann.m (1924145348712 : Nat) Ann.o
              (Ann.m (0 : Nat)
                (Ann.m (1924145348712 : Nat)
                  (Ann.m (4123168604264 : Nat) Ann.o
                    (Ann.m (1924145348712 : Nat) (Ann.m (1924145348712 : Nat) Ann.o (Ann.m (0 : Nat) Ann.o Ann.o))
                      (Ann.m (1924145348712 : Nat)
                        (Ann.m (1924145348712 : Nat)
                          (Ann.m (1924145349096 : Nat) Ann.o
                            (Ann.m (1924145350632 : Nat) Ann.o
                              (Ann.m (1924145350632 : Nat)
                                (Ann.m (18446745997854902248 : Nat) Ann.o
                                  (Ann.m (1924145350632 : Nat) (Ann.m (4 : Nat) Ann.o (Ann.m (4 : Nat) Ann.o Ann.o)) Ann.o))
                                (Ann.m (1924145349608 : Nat)
                                  (Ann.m (73786978218983556072 : Nat) Ann.o
                                    (Ann.m (1924145349608 : Nat) (Ann.m (1924145348712 : Nat) Ann.o Ann.o) Ann.o))
                                  (Ann.m (1924145349096 : Nat)
                                    (Ann.m (2361183243358967955944 : Nat) Ann.o
                                      (Ann.m (1924145349096 : Nat) (Ann.m (4 : Nat) Ann.o (Ann.m (4 : Nat) Ann.o Ann.o)) Ann.o))
                                    (Ann.m (1924145348712 : Nat)
                                      (Ann.m (18889465933402726203880 : Nat) Ann.o
                                        (Ann.m (1924145348712 : Nat) (Ann.m (1924145348776 : Nat) Ann.o Ann.o) Ann.o))
                                      (Ann.m (1924145363048 : Nat) Ann.o
                                        (Ann.m (316912650057057352298321150056 : Nat) Ann.o
                                          (Ann.m (1924145348712 : Nat) (Ann.m (4 : Nat) Ann.o (Ann.m (4 : Nat) Ann.o Ann.o)) Ann.o)))))))))
                          Ann.o)
                        Ann.o)))
                  Ann.o)
                Ann.o))
            (Ann.m (4 : Nat) Ann.o (Ann.m (4 : Nat) Ann.o Ann.o)))))))
def ann10 : Ann := Ann.m (7 : Nat) Ann.o
  (Ann.m (391 : Nat) Ann.o
    (Ann.m (132 : Nat) (Ann.m (34359738500 : Nat) Ann.o (Ann.m (132 : Nat) (Ann.m (64 : Nat) Ann.o (Ann.m (64 : Nat) Ann.o Ann.o)) Ann.o))
      (Ann.m (132 : Nat) (Ann.m (4398046511236 : Nat) Ann.o (Ann.m (132 : Nat) (Ann.m (64 : Nat) Ann.o (Ann.m (64 : Nat) Ann.o Ann.o)) Ann.o))
        (Ann.m (644 : Nat) Ann.o
          (Ann.m (0 : Nat)
            (Ann.m (492581209244288 : Nat) Ann.o
              (Ann.m (0 : Nat)
                (Ann.m (492581209244288 : Nat)
                  (Ann.m (1055531162665600 : Nat) Ann.o
                    (Ann.m (492581209244288 : Nat) (Ann.m (492581209244288 : Nat) Ann.o (Ann.m (0 : Nat) Ann.o Ann.o))
                      (Ann.m (492581209244288 : Nat)
                        (Ann.m (492581209244288 : Nat)
                          (Ann.m (492581209246336 : Nat) Ann.o
                            (Ann.m (492581209246336 : Nat)
                              (Ann.m (72550175247174272 : Nat) Ann.o
                                (Ann.m (492581209246336 : Nat) (Ann.m (64 : Nat) Ann.o (Ann.m (64 : Nat) Ann.o Ann.o)) Ann.o))
                              (Ann.m (492581209275008 : Nat) Ann.o
                                (Ann.m (492581209373312 : Nat) Ann.o
                                  (Ann.m (166153499473114484113468463744287360 : Nat) Ann.o
                                    (Ann.m (492581209244288 : Nat) (Ann.m (64 : Nat) Ann.o (Ann.m (64 : Nat) Ann.o Ann.o)) Ann.o))))))
                          Ann.o)
                        Ann.o)))
                  Ann.o)
                Ann.o))
            (Ann.m (64 : Nat) Ann.o (Ann.m (64 : Nat) Ann.o Ann.o)))))))
def ann11 : Ann := Ann.m (3 : Nat) Ann.o
  (Ann.m (35 : Nat) Ann.o
    (Ann.m (163 : Nat) Ann.o
      (Ann.m (675 : Nat) Ann.o
        (Ann.m (2723 : Nat) Ann.o
          (Ann.m (19107 : Nat) Ann.o
            (Ann.m (51875 : Nat) Ann.o
              (Ann.m (51875 : Nat) (Ann.m (562949953473187 : Nat) Ann.o (Ann.m (51875 : Nat) Ann.o Ann.o))
                (Ann.m (16 : Nat) Ann.o (Ann.m (16 : Nat) Ann.o Ann.o)))))))))
def ann12 : Ann := Ann.m (7 : Nat) Ann.o
  (Ann.m (391 : Nat) Ann.o
    (Ann.m (135 : Nat) (Ann.m (2147483783 : Nat) Ann.o (Ann.m (135 : Nat) (Ann.m (64 : Nat) Ann.o (Ann.m (64 : Nat) Ann.o Ann.o)) Ann.o))
      (Ann.m (1671 : Nat) Ann.o
        (Ann.m (647 : Nat) (Ann.m (70368744178311 : Nat) Ann.o (Ann.m (647 : Nat) (Ann.m (64 : Nat) Ann.o (Ann.m (64 : Nat) Ann.o Ann.o)) Ann.o))
          (Ann.m (2694 : Nat) Ann.o
            (Ann.m (134 : Nat) Ann.o
              (Ann.m (12422 : Nat) Ann.o
                (Ann.m (4230 : Nat)
                  (Ann.m (19342813113834066795303046 : Nat) Ann.o (Ann.m (4230 : Nat) (Ann.m (64 : Nat) Ann.o (Ann.m (64 : Nat) Ann.o Ann.o)) Ann.o))
                  (Ann.m (49286 : Nat) Ann.o
                    (Ann.m (49286 : Nat) Ann.o
                      (Ann.m (245894 : Nat) Ann.o
                        (Ann.m (49286 : Nat)
                          (Ann.m (1298074214633706907132624082354310 : Nat) Ann.o
                            (Ann.m (49286 : Nat) (Ann.m (64 : Nat) Ann.o (Ann.m (64 : Nat) Ann.o Ann.o)) Ann.o))
                          (Ann.m (311430 : Nat) Ann.o
                            (Ann.m (311430 : Nat) (Ann.m (5192296858534827628530496329531526 : Nat) Ann.o (Ann.m (311430 : Nat) Ann.o Ann.o))
                              (Ann.m (1884162 : Nat) Ann.o
                                (Ann.m (49152 : Nat)
                                  (Ann.m (89202980794122492566142873090593446023970816 : Nat) Ann.o
                                    (Ann.m (49152 : Nat) (Ann.m (64 : Nat) Ann.o (Ann.m (64 : Nat) Ann.o Ann.o)) Ann.o))
                                  (Ann.m (64 : Nat) Ann.o (Ann.m (64 : Nat) Ann.o Ann.o))))))))))))))))))
def ann : FuncId → Ann
  | 13 => ann13
  | 16 => ann16
  | 18 => ann18
  | 39 => ann39
  | 43 => ann43
  | 17 => ann17
  | 33 => ann33
  | 34 => ann34
  | 50 => ann50
  | 14 => ann14
  | 41 => ann41
  | 42 => ann42
  | 40 => ann40
  | 55 => ann55
  | 15 => ann15
  | 22 => ann22
  | 24 => ann24
  | 26 => ann26
  | 31 => ann31
  | 46 => ann46
  | 48 => ann48
  | 35 => ann35
  | 36 => ann36
  | 37 => ann37
  | 38 => ann38
  | 51 => ann51
  | 52 => ann52
  | 53 => ann53
  | 54 => ann54
  | 56 => ann56
  | 57 => ann57
  | 3 => ann3
  | 9 => ann9
  | 10 => ann10
  | 11 => ann11
  | 12 => ann12
  | _ => .o
end Go.Proofs.Ytmgacgonoodkfaa
